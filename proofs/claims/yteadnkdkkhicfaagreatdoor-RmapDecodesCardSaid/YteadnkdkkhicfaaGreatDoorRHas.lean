/- Maps of the program in variables. -/
import Derived.Test.YteadnkdkkhicfaaGreatDoorRUse
namespace Go.Proofs.YteadnkdkkhicfaaGreatDoor
open Go.RowKit Go.Lib
set_option linter.unusedVariables false
set_option maxRecDepth 20000

def KeysM (m : RMap) : Prop := (∀ x ∈ m.items, x.key.length ≤ 1000000) ∧ ∀ x ∈ m.gone, x.key.length ≤ 1000000
theorem valid_keys {m : RMap} (h : validR m = true) : KeysM m := by
  obtain ⟨-, h2, h3⟩ := valid_nums h
  exact ⟨fun x hx => by have := (h2 x hx).1; omega, fun x hx => by have := (h3 x hx).1; omega⟩
/-! maps of the program in variables -/
/-- the variable O holds the map m -/
def MB (W : World) (O : Nat) (m : RMap) : Prop := ∃ s1 e1 s2 e2 s3 e3, Blk W O [.slice s1 m.seen.length e1, .slice s2 m.items.length e2, .slice s3 m.gone.length e3] 27 ∧ MapIn (fun q => q < W.heap.size) W (.slice s1 m.seen.length e1) (.slice s2 m.items.length e2) (.slice s3 m.gone.length e3) m
theorem MB.keep {W W' : World} {O : Nat} {m : RMap} (h : MB W O m) (hb : Below W.heap.size W W') : MB W' O m := by
  obtain ⟨s1, e1, s2, e2, s3, e3, h1, h2⟩ := h
  exact ⟨s1, e1, s2, e2, s3, e3, h1.keep (hb.block _ h1.lt), (h2.keep (w' := W') fun q hq _ => hb.block q hq).mono fun q hq _ => Nat.lt_of_lt_of_le hq hb.size⟩
def Has (L : List (Nat × RMap)) (W : World) : Prop := ∀ p ∈ L, MB W p.1 p.2
theorem Has.keep {L : List (Nat × RMap)} {W W' : World} (h : Has L W) (hb : Below W.heap.size W W') : Has L W' := fun p hp => (h p hp).keep hb
theorem Has.cons {L : List (Nat × RMap)} {W : World} (h : Has L W) {O : Nat} {m : RMap} (hm : MB W O m) : Has ((O, m) :: L) W := fun p hp => by
  rcases List.mem_cons.1 hp with rfl | hp
  · exact hm
  · exact h p hp
theorem Has.get {L : List (Nat × RMap)} {W : World} (h : Has L W) (O : Nat) (m : RMap) (hp : (O, m) ∈ L) : MB W O m := h _ hp
theorem Has.nil (W : World) : Has [] W := nofun

end Go.Proofs.YteadnkdkkhicfaaGreatDoor
