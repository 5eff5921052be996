/- Maps of the program in variables; merging valid maps. -/
import Derived.Test.YtbjkkmabafaogaaGreatDoorRWorks
import Derived.Test.YtbjkkmabafaogaaGreatDoorRMerge2
import Derived.Test.YtbjkkmabafaogaaGreatDoorRSpoil
import Derived.Test.YtbjkkmabafaogaaGreatDoorRArg
import Derived.Test.YtbjkkmabafaogaaGreatDoorFloat
namespace Go.Proofs.YtbjkkmabafaogaaGreatDoor
open Go.RowKit Go.Lib
set_option linter.unusedVariables false
set_option maxRecDepth 20000

theorem mergeR_small (a b : RMap) : SmallM (mergeR a b).1 := by
  unfold mergeR
  split
  · exact full_small _
  · exact small_empty
theorem OwnIn.laterT {B0 : Nat} {w w' : World} {base : Nat} {s1 s2 s3 : Value} {m : RMap} (h : OwnIn w base s1 s2 s3 m) (hb : LaterT B0 31 w w') : OwnIn w' base s1 s2 s3 m :=
  ⟨hb.own h.seen (by decide), hb.own h.items (by decide), hb.own h.gone (by decide)⟩
theorem forgetR_small (m : RMap) (d : Int) (l : List RKey) : SmallM (forgetR m d l).1 := by
  unfold forgetR
  split
  · split
    · exact full_small _
    · exact small_empty
  · exact small_empty
/-! merging valid maps -/
theorem mergeR_valid {a b : RMap} (ha : validR a = true) (hb : validR b = true) : mergeR a b = fullR (mergeM a b) := by unfold mergeR; rw [ha, hb]; rfl
theorem fullR_err (m : RMap) : (fullR m).2 = 0 ∨ (fullR m).2 = 7 := by unfold fullR; split <;> simp
theorem fullR_zero {m : RMap} (h : (fullR m).2 = 0) : fullR m = (m, 0) ∧ validR m = true := by
  unfold fullR at h ⊢
  split
  · rename_i hv; exact ⟨rfl, hv⟩
  · rename_i hv; rw [if_neg hv] at h; cases h
theorem mergeR_self {a : RMap} (ha : validR a = true) : mergeR a a = (a, 0) := by
  rw [mergeR_valid ha ha, merge_self a (valid_formed ha)]
  unfold fullR
  rw [ha]; rfl
theorem mergeR_comm {a b : RMap} (ha : validR a = true) (hb : validR b = true) : mergeR a b = mergeR b a := by
  rw [mergeR_valid ha hb, mergeR_valid hb ha, merge_comm a b (valid_formed ha) (valid_formed hb)]
theorem mergeR_err {a b : RMap} (ha : validR a = true) (hb : validR b = true) : (mergeR a b).2 = 0 ∨ (mergeR a b).2 = 7 := by rw [mergeR_valid ha hb]; exact fullR_err _
theorem mergeR_zero {a b : RMap} (ha : validR a = true) (hb : validR b = true) (h : (mergeR a b).2 = 0) : (mergeR a b).1 = mergeM a b ∧ validR (mergeM a b) = true := by
  rw [mergeR_valid ha hb] at h ⊢
  obtain ⟨h1, h2⟩ := fullR_zero h
  exact ⟨by rw [h1], h2⟩
def KeysM (m : RMap) : Prop := (∀ x ∈ m.items, x.key.length ≤ 1000000) ∧ ∀ x ∈ m.gone, x.key.length ≤ 1000000
theorem valid_keys {m : RMap} (h : validR m = true) : KeysM m := by
  obtain ⟨-, h2, h3⟩ := valid_nums h
  exact ⟨fun x hx => by have := (h2 x hx).1; omega, fun x hx => by have := (h3 x hx).1; omega⟩
theorem keys_empty : KeysM .empty := ⟨nofun, nofun⟩
theorem full_keys (m : RMap) : KeysM (fullR m).1 := by
  unfold fullR
  split
  · rename_i hv; exact valid_keys hv
  · exact keys_empty
theorem mergeR_keys (a b : RMap) : KeysM (mergeR a b).1 := by
  unfold mergeR
  split
  · exact full_keys _
  · exact keys_empty

/-! maps of the program in variables -/
/-- the variable O holds the map m -/
def MB (W : World) (O : Nat) (m : RMap) : Prop := ∃ s1 e1 s2 e2 s3 e3, Blk W O [.slice s1 m.seen.length e1, .slice s2 m.items.length e2, .slice s3 m.gone.length e3] 31 ∧ MapIn (fun q => q < W.heap.size) W (.slice s1 m.seen.length e1) (.slice s2 m.items.length e2) (.slice s3 m.gone.length e3) m
theorem MB.keep {W W' : World} {O : Nat} {m : RMap} (h : MB W O m) (hb : Below W.heap.size W W') : MB W' O m := by
  obtain ⟨s1, e1, s2, e2, s3, e3, h1, h2⟩ := h
  exact ⟨s1, e1, s2, e2, s3, e3, h1.keep (hb.block _ h1.lt), (h2.keep (w' := W') fun q hq _ => hb.block q hq).mono fun q hq _ => Nat.lt_of_lt_of_le hq hb.size⟩
def Has (L : List (Nat × RMap)) (W : World) : Prop := ∀ p ∈ L, MB W p.1 p.2
theorem Has.keep {L : List (Nat × RMap)} {W W' : World} (h : Has L W) (hb : Below W.heap.size W W') : Has L W' := fun p hp => (h p hp).keep hb
theorem Has.cons {L : List (Nat × RMap)} {W : World} (h : Has L W) {O : Nat} {m : RMap} (hm : MB W O m) : Has ((O, m) :: L) W := fun p hp => by
  rcases List.mem_cons.1 hp with rfl | hp
  · exact hm
  · exact h p hp
theorem Has.get {L : List (Nat × RMap)} {W : World} (h : Has L W) (O : Nat) (m : RMap) (hp : (O, m) ∈ L) : MB W O m := h _ hp
theorem Has.nil (W : World) : Has [] W := nofun

theorem useR_keys (m : RMap) (d : Int) (l : List RKey) : KeysM (useR m d l).1 := by
  unfold useR
  split
  · split
    · exact full_keys _
    · exact keys_empty
  · exact keys_empty
theorem forgetR_keys (m : RMap) (d : Int) (l : List RKey) : KeysM (forgetR m d l).1 := by
  unfold forgetR
  split
  · split
    · exact full_keys _
    · exact keys_empty
  · exact keys_empty
end Go.Proofs.YtbjkkmabafaogaaGreatDoor
