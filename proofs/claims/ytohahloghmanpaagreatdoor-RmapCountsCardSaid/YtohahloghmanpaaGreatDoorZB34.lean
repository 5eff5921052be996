/-
  RCod3 RCod4 RRd RDecP
-/
import Derived.Test.YtohahloghmanpaaGreatDoorZB33
import Derived.Test.YtohahloghmanpaaGreatDoorZB29
namespace Go.Proofs.YtohahloghmanpaaGreatDoor
open Go.RowKit
set_option linter.unusedVariables false
set_option maxRecDepth 20000
attribute [local go_sem] opC upC

end Go.Proofs.YtohahloghmanpaaGreatDoor

namespace Go.Proofs.YtohahloghmanpaaGreatDoor
open Go.RowKit
set_option linter.unusedVariables false
set_option maxRecDepth 20000
attribute [local go_sem] opC upC

def C3 (g : Nat) (v : Value) (a b : World) : Prop := Only (fun q => g ≤ q ∧ q ≤ g + 2) a b ∧ (a.cell? ⟨g, 0, none⟩ = some v → b.cell? ⟨g, 0, none⟩ = some v)
theorem C3.refl (g : Nat) (v : Value) (a : World) : C3 g v a a := ⟨Only.refl _ _, id⟩
theorem C3.trans (g : Nat) (v : Value) (a b c : World) (h : C3 g v a b) (k : C3 g v b c) : C3 g v a c := ⟨h.1.trans k.1 fun _ hi => .inl hi, fun hh => k.2 (h.2 hh)⟩
theorem C3.cell {g : Nat} {v : Value} {a b : World} (h : C3 g v a b) {p : Addr} {x : Value} (hc : a.cell? p = some x) (hp : g + 2 < p.block) : b.cell? p = some x := by
  have hb := h.1.block p.block (cellLt hc) (by omega)
  unfold World.cell? at *
  rw [hb]; exact hc

end Go.Proofs.YtohahloghmanpaaGreatDoor

namespace Go.Proofs.YtohahloghmanpaaGreatDoor
open Go.RowKit Go.Lib
set_option linter.unusedVariables false
set_option maxRecDepth 20000
attribute [local go_sem] opC upC

end Go.Proofs.YtohahloghmanpaaGreatDoor

namespace Go.Proofs.YtohahloghmanpaaGreatDoor
open Go.RowKit Go.Lib
set_option linter.unusedVariables false
set_option maxRecDepth 20000
attribute [local go_sem ↓] seal_append
attribute [local go_sem] opC upC

section
variable {w : World} {M : Nat} {av : Option Addr} {cap : Nat} {b : List UInt8} {W W' : World} {l : List Value} {its : List RIt} {gs : List RGo} {ai : Option Addr} {ci : Nat} {ag : Option Addr} {cg : Nat} {st : RdSt}
end
theorem ItB.mono {n n' : Nat} {x : RIt} (h : ItB n x) (hn : n ≤ n') : ItB n' x := ⟨Nat.le_trans h.1 hn, h.2⟩
theorem GoB.mono {n n' : Nat} {x : RGo} (h : GoB n x) (hn : n ≤ n') : GoB n' x := ⟨Nat.le_trans h.1 hn, h.2⟩
section
attribute [local go_sem ↓] seal_make
end
end Go.Proofs.YtohahloghmanpaaGreatDoor
