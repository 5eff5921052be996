/-
  RCod2
-/
import Derived.Test.YtohahloghmanpaaGreatDoorZB32
namespace Go.Proofs.YtohahloghmanpaaGreatDoor
open Go.RowKit
set_option linter.unusedVariables false
set_option maxRecDepth 20000
attribute [local go_sem] opC upC

theorem Bytes.cut {F : Blks} {w : World} {bb ob cap : Nat} {l : List UInt8} (h : Bytes F w (.slice (some ⟨bb, ob, none⟩) l.length cap) l) (k m : Nat) (hk : k + m ≤ l.length) : Bytes F w (.slice (some ⟨bb, ob + k, none⟩) m (cap - k)) ((l.drop k).take m) := by
  obtain ⟨a, c, hv, hc, hm, hz, h⟩ := h
  simp at hv
  obtain ⟨rfl, rfl⟩ := hv
  have hlen : ((l.drop k).take m).length = m := by simp; omega
  refine ⟨some ⟨bb, ob + k, none⟩, cap - k, by rw [hlen], by rw [hlen]; omega, by unfold maxLen at *; omega, nofun, ?_⟩
  rcases h with h | ⟨b, off, L, t, fz, e, hF, hb, hl, hr⟩
  · left; rw [h]; simp
  · simp at e
    obtain ⟨rfl, rfl⟩ := e
    refine .inr ⟨bb, ob + k, L, t, fz, rfl, hF, hb, by rw [hlen]; omega, fun i hi => ?_⟩
    rw [hlen] at hi
    have := hr (k + i) (by omega)
    rw [Nat.add_assoc, this]
    simp [List.getElem_take, List.getElem_drop]

end Go.Proofs.YtohahloghmanpaaGreatDoor
