/- A journal on a disk that never fails: its sectors bear it. -/
import Derived.Test.YtmimplmeccoahaaDoorJInv2
import Derived.Test.YtmimplmeccoahaaDoorJL3
namespace Go.Proofs.YtmimplmeccoahaaDoor
open Go.RowKit
set_option linter.unusedVariables false
set_option maxRecDepth 20000

theorem zero_intact : intact (List.replicate 64 0) = false := by decide +kernel

theorem setAll_zero (n : Nat) (z : List UInt8) (ws : List (Nat × List UInt8)) (h : ∀ x ∈ ws, x.2 = z) : setAll (List.replicate n z) ws = List.replicate n z := by
  induction ws with
  | nil => rfl
  | cons x ws ih =>
    show setAll ((List.replicate n z).set x.1 x.2) ws = _
    rw [h x (by simp), List.set_replicate_self]
    exact ih fun y hy => h y (by simp [hy])

theorem inv_fresh (n : Nat) (h8 : 8 ≤ n) (hn : n ≤ 65536) : Inv (setAll (List.replicate n (List.replicate 64 0)) (zeroWs n ++ [(0, headB 0)])) 0 [] := by
  have e : setAll (List.replicate n (List.replicate 64 0)) (zeroWs n ++ [(0, headB 0)]) = (List.replicate n (List.replicate 64 0)).set 0 (headB 0) := by
    rw [setAll_append, setAll_zero]
    · rfl
    · intro x hx
      simp [zeroWs] at hx
      obtain ⟨a, _, rfl⟩ := hx
      rfl
  rw [e]
  have hl : ((List.replicate n (List.replicate 64 (0 : UInt8))).set 0 (headB 0)).length = n := by simp
  have hsec : ∀ h q, q < halfN n → secM ((List.replicate n (List.replicate 64 (0 : UInt8))).set 0 (headB 0)) h q = List.replicate 64 0 := fun h q hq => by
    rw [secM_set_head _ _ _ _ _ (by omega) (by simp; omega)]
    unfold secM
    have := placeN_lt n h q hq
    rw [List.length_replicate, List.getD_eq_getElem?_getD, List.getElem?_replicate, if_pos this]
    rfl
  have hni : ∀ h q, q < halfN n → intact (secM ((List.replicate n (List.replicate 64 (0 : UInt8))).set 0 (headB 0)) h q) = true → False := fun h q hq hi => by
    rw [hsec h q hq, zero_intact] at hi
    cases hi
  refine ⟨by rw [hl]; exact h8, by rw [hl]; exact hn, by omega, by simp [takenL], by simp, fun i hi => by simp at hi, ?_, ?_, ?_, ?_, ?_, ?_⟩
  · refine recordM_first (.inr fun k => ?_)
    have := hsec 0 0 (by unfold halfN; omega)
    show pieceOk (secM _ 0 0) 0 0 k = false
    rw [this]
    unfold pieceOk
    rw [zero_intact]
    rfl
  · intro p _ hq hi
    rw [hl] at hq
    exact (hni 0 p hq hi).elim
  · intro p hq hi
    rw [hl] at hq
    exact (hni 0 p hq hi).elim
  · intro p hq hi
    rw [hl] at hq
    exact (hni _ p hq hi).elim
  · rw [getD_set _ _ _ _ (by simp; omega)]; rfl
  · intro hh
    exfalso
    rw [getD_set _ _ _ _ (by simp; omega), if_neg (by omega), List.getD_eq_getElem?_getD, List.getElem?_replicate, if_pos (by omega)] at hh
    unfold isHead at hh
    rw [Option.getD_some, zero_intact] at hh
    exact absurd hh (by simp only [Bool.false_and, Bool.false_eq_true, not_false_eq_true])

theorem inv_append_up {S : List (List UInt8)} {k g : Nat} {L : List (List UInt8)} {l : List UInt8} (h : Inv S g L) (hfit : takenL L + takes l.length ≤ halfN S.length) (hl : l.length ≤ 65536) : Inv (setAll S (pieceWrites S.length g L.length (takenL L) l)) g (L ++ [l]) := by
  refine h.append hfit hl ?_
  have := wrote_all S g L.length (takenL L) l hfit (takes l.length) (Nat.le_refl _)
  rwa [List.take_of_length_le (by rw [ws_length]; exact Nat.le_refl _)] at this
theorem inv_replace_up {S : List (List UInt8)} {k g : Nat} {L : List (List UInt8)} {l : List UInt8} (h : Inv S g L) (hg : g + 1 < 4294967295) (hfit : takes l.length ≤ halfN S.length) (hl : l.length ≤ 65536) : Inv (setAll S (replaceWs S.length g l)) (g + 1) [l] := by
  unfold replaceWs
  rw [setAll_append]
  refine h.replace hg hfit hl ?_
  have := wrote_all S (g + 1) 0 0 l (by omega) (takes l.length) (Nat.le_refl _)
  rwa [List.take_of_length_le (by rw [ws_length]; exact Nat.le_refl _)] at this
end Go.Proofs.YtmimplmeccoahaaDoor
