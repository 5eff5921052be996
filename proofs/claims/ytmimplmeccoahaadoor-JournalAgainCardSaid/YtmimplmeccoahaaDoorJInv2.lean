/- Writes of pieces keep what the sectors bear. -/
import Derived.Test.YtmimplmeccoahaaDoorJInv
import Derived.Test.YtmimplmeccoahaaDoorJL2
namespace Go.Proofs.YtmimplmeccoahaaDoor
open Go.RowKit
set_option linter.unusedVariables false
set_option maxRecDepth 20000

theorem placeN_inj {n g h p q : Nat} (hp : p < halfN n) (hq : q < halfN n) : placeN n g p = placeN n h q ↔ g % 2 = h % 2 ∧ p = q := by
  unfold placeN
  rcases (show g % 2 = 0 ∨ g % 2 = 1 by omega) with e | e <;> rcases (show h % 2 = 0 ∨ h % 2 = 1 by omega) with f | f <;> rw [e, f] <;> omega
theorem getD_set (S : List (List UInt8)) (a c : Nat) (x : List UInt8) (ha : a < S.length) : (S.set a x).getD c [] = if c = a then x else S.getD c [] := by
  rw [List.getD_eq_getElem?_getD, List.getElem?_set]
  by_cases h : a = c
  · subst h; simp [ha]
  · rw [if_neg h, if_neg (fun e => h e.symm), ← List.getD_eq_getElem?_getD]
theorem secM_set (S : List (List UInt8)) (g h p q : Nat) (x : List UInt8) (hp : p < halfN S.length) (hq : q < halfN S.length) :
    secM (S.set (placeN S.length g p) x) h q = if h % 2 = g % 2 ∧ q = p then x else secM S h q := by
  unfold secM
  rw [List.length_set, getD_set _ _ _ _ (placeN_lt _ _ _ hp)]
  by_cases e : h % 2 = g % 2 ∧ q = p
  · rw [if_pos e, if_pos ((placeN_inj hq hp).2 e)]
  · rw [if_neg e, if_neg (fun hh => e ((placeN_inj hq hp).1 hh))]
theorem secM_set_head (S : List (List UInt8)) (t h q : Nat) (x : List UInt8) (ht : t < 2) (hn : 2 ≤ S.length) : secM (S.set t x) h q = secM S h q := by
  unfold secM
  rw [List.length_set, getD_set _ _ _ _ (by omega), if_neg (by unfold placeN; omega)]
theorem head_set (S : List (List UInt8)) (g p t : Nat) (x : List UInt8) (ht : t < 2) (hp : p < halfN S.length) : (S.set (placeN S.length g p) x).getD t [] = S.getD t [] := by
  rw [getD_set _ _ _ _ (placeN_lt _ _ _ hp), if_neg (by unfold placeN; omega)]

/-- i pieces of a record are written -/
structure Wrote (S S' : List (List UInt8)) (g k p : Nat) (b : List UInt8) (i : Nat) : Prop where
  len : S'.length = S.length
  sec : ∀ h q, q < halfN S.length → secM S' h q = if h % 2 = g % 2 ∧ p ≤ q ∧ q < p + i then pieceB g k b (q - p) else secM S h q
  heads : ∀ t, t < 2 → S'.getD t [] = S.getD t []

theorem wrote_zero (S : List (List UInt8)) (g k p : Nat) (b : List UInt8) : Wrote S S g k p b 0 := ⟨rfl, fun h q hq => by rw [if_neg (by omega)], fun t ht => rfl⟩
theorem Wrote.snoc {S S' : List (List UInt8)} {g k p : Nat} {b : List UInt8} {i : Nat} (h : Wrote S S' g k p b i) (hp : p + i < halfN S.length) : Wrote S (S'.set (placeN S.length g (p + i)) (pieceB g k b i)) g k p b (i + 1) := by
  refine ⟨by simp [h.len], fun h' q hq => ?_, fun t ht => ?_⟩
  · rw [← h.len, secM_set _ _ _ _ _ _ (by rw [h.len]; exact hp) (by rw [h.len]; exact hq), h.sec h' q hq]
    by_cases e : h' % 2 = g % 2 ∧ q = p + i
    · rw [if_pos e, if_pos (by omega), show q - p = i by omega]
    · rw [if_neg e]
      by_cases e2 : h' % 2 = g % 2 ∧ p ≤ q ∧ q < p + i
      · rw [if_pos e2, if_pos (by omega)]
      · rw [if_neg e2, if_neg (by omega)]
  · rw [← h.len, head_set _ _ _ _ _ ht (by rw [h.len]; exact hp), h.heads t ht]
theorem setAll_append (S : List (List UInt8)) (a b : List (Nat × List UInt8)) : setAll S (a ++ b) = setAll (setAll S a) b := by unfold setAll; rw [List.foldl_append]
theorem wrote_all (S : List (List UInt8)) (g k p : Nat) (b : List UInt8) (hp : p + takes b.length ≤ halfN S.length) : ∀ i, i ≤ takes b.length → Wrote S (setAll S ((pieceWrites S.length g k p b).take i)) g k p b i
  | 0, _ => by simpa [setAll] using wrote_zero S g k p b
  | i + 1, hi => by
    rw [ws_take _ _ _ _ _ _ (by omega), setAll_append]
    exact (wrote_all S g k p b hp i (by omega)).snoc (by omega)

theorem Inv.append {S S' : List (List UInt8)} {g : Nat} {L : List (List UInt8)} {b : List UInt8} (h : Inv S g L) (hfit : takenL L + takes b.length ≤ halfN S.length) (hb : b.length ≤ 65536) (hw : Wrote S S' g L.length (takenL L) b (takes b.length)) : Inv S' g (L ++ [b]) := by
  have hle := h.le
  have hg := h.gen
  have hLT := length_le_taken L
  have hH : halfN S.length ≤ 32768 := by unfold halfN; omega
  have htp := takes_pos b.length
  have hown : ∀ q, q < halfN S.length → secM S' g q = if takenL L ≤ q ∧ q < takenL L + takes b.length then pieceB g L.length b (q - takenL L) else secM S g q := fun q hq => by
    rw [hw.sec g q hq]
    by_cases e : takenL L ≤ q ∧ q < takenL L + takes b.length
    · rw [if_pos ⟨rfl, e⟩, if_pos e]
    · rw [if_neg (fun hh => e hh.2), if_neg e]
  have hoth : ∀ q, q < halfN S.length → secM S' (g + 1) q = secM S (g + 1) q := fun q hq => by rw [hw.sec _ q hq, if_neg (by omega)]
  have htk : takenL (L ++ [b]) = takenL L + takes b.length := takenL_snoc L b
  have hbey : ∀ p, takenL (L ++ [b]) ≤ p → p < halfN S.length → intact (secM S' g p) = true → read4 (secM S' g p) 0 = g → read4 (secM S' g p) 4 ≤ L.length := fun p hp hq hi hr => by
    rw [hown p hq, if_neg (by omega)] at hi hr ⊢
    exact h.beyond p (by omega) hq hi hr
  refine ⟨by rw [hw.len]; exact h.n8, by rw [hw.len]; exact hle, hg, by rw [hw.len, htk]; exact hfit, fun x hx => ?_, fun i hi => ?_, ?_, ?_, ?_, ?_, ?_, ?_⟩
  · rcases List.mem_append.1 hx with hx | hx
    · exact h.lens x hx
    · obtain rfl := List.mem_singleton.1 hx; exact hb
  · by_cases hil : i < L.length
    · have e1 : (L ++ [b])[i] = L[i] := List.getElem_append_left hil
      have e2 : (L ++ [b]).take i = L.take i := List.take_append_of_le_length (by omega)
      rw [e1, e2]
      refine (h.recs i hil).sub fun j hj => ?_
      have := takenL_take_le L (i + 1)
      rw [takenL_take_succ L i hil] at this
      have hr := h.room
      rw [hown _ (by omega), if_neg (by omega)]
    · have hiL : i = L.length := by simp at hi; omega
      subst hiL
      have e1 : (L ++ [b])[L.length] = b := by simp
      have e2 : (L ++ [b]).take L.length = L := by simp
      rw [e1, e2]
      intro j hj
      rw [hown _ (by omega), if_pos (by omega), show takenL L + j - takenL L = j by omega]
  · refine recordM_first ?_
    by_cases hp : halfN S.length ≤ takenL (L ++ [b])
    · exact .inl (by rw [hw.len]; exact hp)
    · refine .inr fun n => ?_
      by_cases hi : intact (secM S' g (takenL (L ++ [b]))) = true ∧ read4 (secM S' g (takenL (L ++ [b]))) 0 = g
      · have := hbey _ (Nat.le_refl _) (by omega) hi.1 hi.2
        have hne : read4 (secM S' g (takenL (L ++ [b]))) 4 ≠ (L ++ [b]).length := by simp; omega
        unfold pieceOk
        rw [beq_eq_false_iff_ne.2 hne]
        simp
      · by_cases h1 : intact (secM S' g (takenL (L ++ [b]))) = true
        · have h2 : ¬ read4 (secM S' g (takenL (L ++ [b]))) 0 = g := fun hh => hi ⟨h1, hh⟩
          simp [pieceOk, h2]
        · simp [pieceOk, h1]
  · intro p hp hq hi hr
    rw [hw.len] at hq
    have := hbey p hp hq hi hr
    simp
    omega
  · intro p hq hi
    rw [hw.len] at hq
    rw [hown p hq] at hi ⊢
    split
    · rw [piece_gen _ _ _ _ (by omega)]; exact Nat.le_refl _
    · rename_i hc
      rw [if_neg hc] at hi
      exact h.own p hq hi
  · intro p hq hi
    rw [hw.len] at hq
    rw [hoth p hq] at hi ⊢
    exact h.other p hq hi
  · rw [hw.heads _ (by omega)]; exact h.head
  · rw [hw.heads _ (by omega)]; exact h.head2

theorem Inv.replace {S S' : List (List UInt8)} {g : Nat} {L : List (List UInt8)} {b : List UInt8} (h : Inv S g L) (hg1 : g + 1 < 4294967295) (hfit : takes b.length ≤ halfN S.length) (hb : b.length ≤ 65536) (hw : Wrote S S' (g + 1) 0 0 b (takes b.length)) : Inv (S'.set ((g + 1) % 2) (headB (g + 1))) (g + 1) [b] := by
  have hle := h.le
  have h8 := h.n8
  have hH : halfN S.length ≤ 32768 := by unfold halfN; omega
  have htp := takes_pos b.length
  have hlen : (S'.set ((g + 1) % 2) (headB (g + 1))).length = S.length := by rw [List.length_set, hw.len]
  have hsec : ∀ h' q, q < halfN S.length → secM (S'.set ((g + 1) % 2) (headB (g + 1))) h' q = secM S' h' q := fun h' q hq => secM_set_head _ _ _ _ _ (by omega) (by rw [hw.len]; omega)
  have hown : ∀ q, q < halfN S.length → secM (S'.set ((g + 1) % 2) (headB (g + 1))) (g + 1) q = if q < takes b.length then pieceB (g + 1) 0 b q else secM S (g + 1) q := fun q hq => by
    rw [hsec _ q hq, hw.sec _ q hq]
    by_cases e : q < takes b.length
    · rw [if_pos (by omega), if_pos e]; rfl
    · rw [if_neg (by omega), if_neg e]
  have hoth : ∀ q, q < halfN S.length → secM (S'.set ((g + 1) % 2) (headB (g + 1))) (g + 1 + 1) q = secM S g q := fun q hq => by
    rw [hsec _ q hq, hw.sec _ q hq, if_neg (by omega)]
    unfold secM placeN
    rw [show (g + 1 + 1) % 2 = g % 2 by omega]
  have htk : takenL [b] = takes b.length := by simp [takenL]
  have hbey : ∀ p, takes b.length ≤ p → p < halfN S.length → intact (secM (S'.set ((g + 1) % 2) (headB (g + 1))) (g + 1) p) = true → read4 (secM (S'.set ((g + 1) % 2) (headB (g + 1))) (g + 1) p) 0 = g + 1 → read4 (secM (S'.set ((g + 1) % 2) (headB (g + 1))) (g + 1) p) 4 = 0 := fun p hp hq hi hr => by
    rw [hown p hq, if_neg (by omega)] at hi hr ⊢
    exact (h.other p hq hi).2 hr
  refine ⟨by rw [hlen]; exact h8, by rw [hlen]; exact hle, hg1, by rw [hlen, htk]; exact hfit, fun x hx => ?_, fun i hi => ?_, ?_, ?_, ?_, ?_, ?_, ?_⟩
  · obtain rfl := List.mem_singleton.1 hx; exact hb
  · have : i = 0 := by simp at hi; omega
    subst this
    intro j hj
    have hj' : j < takes b.length := hj
    show secM _ (g + 1) (0 + j) = pieceB (g + 1) 0 b j
    rw [Nat.zero_add, hown j (by omega), if_pos hj']
  · refine recordM_first ?_
    rw [htk]
    by_cases hp : halfN S.length ≤ takes b.length
    · exact .inl (by rw [hlen]; exact hp)
    · refine .inr fun n => ?_
      generalize hs : secM (S'.set ((g + 1) % 2) (headB (g + 1))) (g + 1) (takes b.length) = s
      by_cases hi : intact s = true ∧ read4 s 0 = g + 1
      · have := hbey (takes b.length) (Nat.le_refl _) (by omega) (by rw [hs]; exact hi.1) (by rw [hs]; exact hi.2)
        rw [hs] at this
        simp [pieceOk, this]
      · by_cases h1 : intact s = true
        · have h2 : ¬ read4 s 0 = g + 1 := fun hh => hi ⟨h1, hh⟩
          simp [pieceOk, h2]
        · simp [pieceOk, h1]
  · intro p hp hq hi hr
    rw [hlen] at hq
    rw [htk] at hp
    have := hbey p hp hq hi hr
    omega
  · intro p hq hi
    rw [hlen] at hq
    rw [hown p hq] at hi ⊢
    split
    · rw [piece_gen _ _ _ _ (by omega)]; exact Nat.le_refl _
    · rename_i hc
      rw [if_neg hc] at hi
      exact (h.other p hq hi).1
  · intro p hq hi
    rw [hlen] at hq
    rw [hoth p hq] at hi ⊢
    have := h.own p hq hi
    exact ⟨by omega, fun e => by omega⟩
  · rw [getD_set _ _ _ _ (by rw [hw.len]; omega), if_pos rfl]
  · intro hh
    rw [getD_set _ _ _ _ (by rw [hw.len]; omega), if_neg (by omega), hw.heads _ (by omega)] at hh ⊢
    rw [show (g + 1 + 1) % 2 = g % 2 by omega, h.head] at hh ⊢
    rw [head_gen g (by omega)]
    omega
end Go.Proofs.YtmimplmeccoahaaDoor
