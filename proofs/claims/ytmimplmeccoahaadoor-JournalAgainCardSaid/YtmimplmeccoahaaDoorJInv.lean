/- What the sectors of a journal hold: plain mathematics. -/
import Derived.Test.YtmimplmeccoahaaDoorJ12
namespace Go.Proofs.YtmimplmeccoahaaDoor
open Go.RowKit
set_option linter.unusedVariables false
set_option maxRecDepth 20000

theorem intact_sealed (b : List UInt8) (h : b.length = 60) : intact (sealed b) = true := by
  unfold intact sealed
  have e : read4 (b ++ num4 (crc b)) 60 = crc b := by
    have := read4_num4 b (crc b) [] (crc_lt b) 60 h.symm
    simpa using this
  rw [e, List.take_append_of_le_length (by omega), List.take_of_length_le (by omega)]
  simp
theorem read4_append {p q : List UInt8} {a : Nat} (h : a + 4 ≤ p.length) : read4 (p ++ q) a = read4 p a := by
  have e : ∀ i, i < p.length → (p ++ q).getD i 0 = p.getD i 0 := fun i hi => by
    rw [List.getD_eq_getElem?_getD, List.getElem?_append_left hi, ← List.getD_eq_getElem?_getD]
  unfold read4
  rw [e _ (by omega), e _ (by omega), e _ (by omega), e _ (by omega)]

theorem head_intact (g : Nat) : intact (headB g) = true := intact_sealed _ (by simp [magicB, num4])
theorem head_gen (g : Nat) (hg : g < 4294967296) : read4 (headB g) 4 = g := by
  unfold headB sealed
  rw [read4_append (by simp [magicB, num4])]
  exact read4_num4 magicB g (List.replicate 52 0) hg 4 rfl
theorem head_magic (g : Nat) : (headB g).take 4 = magicB := by
  simp [headB, sealed, magicB]
theorem head_is (g : Nat) (hg : g < 4294967296) : isHead (headB g) (g % 2) = true := by
  simp [isHead, head_intact, head_magic, head_gen g hg]

theorem piece_intact (g k : Nat) (b : List UInt8) (i : Nat) : intact (pieceB g k b i) = true := intact_sealed _ (by simp [num4, pad48_length])
theorem piece_gen (g k : Nat) (b : List UInt8) (i : Nat) (hg : g < 4294967296) : read4 (pieceB g k b i) 0 = g := by
  unfold pieceB sealed
  rw [read4_append (by simp [num4, pad48_length]), List.append_assoc, List.append_assoc]
  have := read4_num4 [] g (num4 k ++ (num4 (b.length - 48 * i) ++ pad48 (b.drop (48 * i)))) hg 0 rfl
  simpa using this
theorem piece_ord (g k : Nat) (b : List UInt8) (i : Nat) (hk : k < 4294967296) : read4 (pieceB g k b i) 4 = k := by
  unfold pieceB sealed
  rw [read4_append (by simp [num4, pad48_length]), List.append_assoc]
  exact read4_num4 (num4 g) k _ hk 4 rfl
theorem piece_len (g k : Nat) (b : List UInt8) (i : Nat) (hb : b.length < 4294967296) : read4 (pieceB g k b i) 8 = b.length - 48 * i := by
  unfold pieceB sealed
  rw [read4_append (by simp [num4, pad48_length])]
  exact read4_num4 (num4 g ++ num4 k) _ _ (by omega) 8 rfl
theorem piece_body (g k : Nat) (b : List UInt8) (i : Nat) : ((pieceB g k b i).drop 12).take 48 = pad48 (b.drop (48 * i)) := by
  unfold pieceB sealed
  have h12 : (num4 g ++ num4 k ++ num4 (b.length - 48 * i)).length = 12 := by simp [num4]
  rw [List.append_assoc (num4 g ++ num4 k ++ num4 (b.length - 48 * i)), List.drop_append_of_le_length (by omega), List.drop_of_length_le (by omega), List.nil_append, List.take_append_of_le_length (by rw [pad48_length]; exact Nat.le_refl _), List.take_of_length_le (by rw [pad48_length]; exact Nat.le_refl _)]
theorem piece_ok (g k : Nat) (b : List UInt8) (i : Nat) (hg : g < 4294967296) (hk : k < 4294967296) (hb : b.length < 4294967296) : pieceOk (pieceB g k b i) g k (b.length - 48 * i) = true := by
  simp [pieceOk, piece_intact, piece_gen g k b i hg, piece_ord g k b i hk, piece_len g k b i hb]

/-- the pieces of a record lie at place p -/
def RecAt (S : List (List UInt8)) (g k p : Nat) (b : List UInt8) : Prop := ∀ j, j < takes b.length → secM S g (p + j) = pieceB g k b j

theorem piecesOk_rec {S : List (List UInt8)} {g k p : Nat} {b : List UInt8} (h : RecAt S g k p b) (hg : g < 4294967296) (hk : k < 4294967296) (hb : b.length < 4294967296) : ∀ i, i ≤ takes b.length → piecesOk S g k p b.length i = true
  | 0, _ => rfl
  | i + 1, hi => by
    simp only [piecesOk, piecesOk_rec h hg hk hb i (by omega), Bool.true_and, h i (by omega), piece_ok g k b i hg hk hb]
theorem bodyM_rec {S : List (List UInt8)} {g k p : Nat} {b : List UInt8} (h : RecAt S g k p b) : ∀ i, i ≤ takes b.length → 48 * i ≤ b.length + 48 → (bodyM S g p i).take b.length = b.take (48 * i) ∧ (48 * i ≤ b.length → bodyM S g p i = b.take (48 * i))
  | 0, _, _ => by simp [bodyM]
  | i + 1, hi, hle => by
    have ih := (bodyM_rec h i (by omega) (by omega)).2 (by omega)
    have e : bodyM S g p (i + 1) = b.take (48 * i) ++ pad48 (b.drop (48 * i)) := by
      simp only [bodyM, ih, h i (by omega), piece_body]
    have hl : (b.take (48 * i)).length = 48 * i := by simp; omega
    have hfull : 48 * (i + 1) ≤ b.length → bodyM S g p (i + 1) = b.take (48 * (i + 1)) := fun hf => by
      rw [e]
      unfold pad48
      rw [show 48 - (b.drop (48 * i)).length = 0 by simp; omega, List.replicate_zero, List.append_nil, show 48 * (i + 1) = 48 * i + 48 by omega, List.take_add]
    refine ⟨?_, hfull⟩
    by_cases hf : 48 * (i + 1) ≤ b.length
    · rw [hfull hf, List.take_take, Nat.min_eq_right hf]
    · rw [e, List.take_append, hl, List.take_of_length_le (by rw [hl]; omega)]
      unfold pad48
      rw [List.take_of_length_le (l := b.drop (48 * i)) (by simp; omega), List.take_append_of_le_length (by simp), List.take_of_length_le (l := b.drop (48 * i)) (by simp), List.take_append_drop, List.take_of_length_le (by omega)]
theorem recordM_rec {S : List (List UInt8)} {g k p : Nat} {b : List UInt8} (h : RecAt S g k p b) (hfit : p + takes b.length ≤ halfN S.length) (hg : g < 4294967296) (hk : k < 4294967296) (hb : b.length ≤ 65536) : recordM S g k p = some b := by
  have htp := takes_pos b.length
  have hT : takes b.length = max 1 ((b.length + 47) / 48) := rfl
  have e0 : read4 (secM S g p) 8 = b.length := by
    have := h 0 htp
    rw [Nat.add_zero] at this
    rw [this, piece_len g k b 0 (by omega)]
    omega
  unfold recordM
  rw [if_neg (by omega)]
  dsimp only
  rw [e0, if_neg (by omega), if_pos (piecesOk_rec h hg hk (by omega) _ (Nat.le_refl _)), (bodyM_rec h _ (Nat.le_refl _) (by omega)).1, List.take_of_length_le (by omega)]
/-- no first piece, no record -/
theorem recordM_first {S : List (List UInt8)} {g k p : Nat} (h : halfN S.length ≤ p ∨ ∀ n, pieceOk (secM S g p) g k n = false) : recordM S g k p = none := by
  unfold recordM
  by_cases hp : halfN S.length ≤ p
  · rw [if_pos hp]
  · rw [if_neg hp]
    have h1 := h.resolve_left hp
    dsimp only
    split
    · rfl
    · rw [if_neg]
      intro hh
      have htp := takes_pos (read4 (secM S g p) 8)
      have := piecesOk_le S g k p (read4 (secM S g p) 8) 1 (takes (read4 (secM S g p) 8) - 1) (by rw [show 1 + (takes (read4 (secM S g p) 8) - 1) = takes (read4 (secM S g p) 8) by omega]; exact hh)
      simp [piecesOk, h1] at this

theorem RecAt.sub {S S' : List (List UInt8)} {g k p : Nat} {b : List UInt8} (h : RecAt S g k p b) (he : ∀ j, j < takes b.length → secM S' g (p + j) = secM S g (p + j)) : RecAt S' g k p b :=
  fun j hj => (he j hj).trans (h j hj)

theorem takenL_take_succ (L : List (List UInt8)) (i : Nat) (h : i < L.length) : takenL (L.take (i + 1)) = takenL (L.take i) + takes L[i].length := by
  rw [List.take_succ_eq_append_getElem h, takenL_snoc]
theorem takenL_take_le (L : List (List UInt8)) (i : Nat) : takenL (L.take i) ≤ takenL L := by
  have : takenL L = takenL (L.take i) + takenL (L.drop i) := by
    unfold takenL
    rw [← List.sum_append, ← List.map_append, List.take_append_drop]
  omega

/-- the sectors S of a disk bear the journal of generation g with the records L -/
structure Inv (S : List (List UInt8)) (g : Nat) (L : List (List UInt8)) : Prop where
  n8 : 8 ≤ S.length
  le : S.length ≤ 65536
  gen : g < 4294967295
  room : takenL L ≤ halfN S.length
  lens : ∀ b ∈ L, b.length ≤ 65536
  recs : ∀ i (h : i < L.length), RecAt S g i (takenL (L.take i)) L[i]
  stop : recordM S g L.length (takenL L) = none
  beyond : ∀ p, takenL L ≤ p → p < halfN S.length → intact (secM S g p) = true → read4 (secM S g p) 0 = g → read4 (secM S g p) 4 ≤ L.length
  own : ∀ p, p < halfN S.length → intact (secM S g p) = true → read4 (secM S g p) 0 ≤ g
  other : ∀ p, p < halfN S.length → intact (secM S (g + 1) p) = true → read4 (secM S (g + 1) p) 0 ≤ g + 1 ∧ (read4 (secM S (g + 1) p) 0 = g + 1 → read4 (secM S (g + 1) p) 4 = 0)
  head : S.getD (g % 2) [] = headB g
  head2 : isHead (S.getD ((g + 1) % 2) []) ((g + 1) % 2) = true → read4 (S.getD ((g + 1) % 2) []) 4 < g

theorem Inv.recordsM_from {S : List (List UInt8)} {g : Nat} {L : List (List UInt8)} (h : Inv S g L) : ∀ (d i f : Nat), L.length = i + d → d < f → recordsM S g f i (takenL (L.take i)) = L.drop i
  | 0, i, f, hi, hf => by
    have hs := h.stop
    obtain ⟨f', rfl⟩ : ∃ f', f = f' + 1 := ⟨f - 1, by omega⟩
    rw [List.take_of_length_le (by omega), List.drop_of_length_le (by omega)]
    have : i = L.length := by omega
    subst this
    exact recordsM_none hs _
  | d + 1, i, f, hi, hf => by
    obtain ⟨f', rfl⟩ : ∃ f', f = f' + 1 := ⟨f - 1, by omega⟩
    have hil : i < L.length := by omega
    have hroom := h.room
    have hle := h.le
    have hLT := length_le_taken L
    have hb := h.lens L[i] (List.getElem_mem hil)
    have hfit : takenL (L.take i) + takes L[i].length ≤ halfN S.length := by
      have := takenL_take_le L (i + 1)
      rw [takenL_take_succ L i hil] at this
      omega
    have hr := recordM_rec (h.recs i hil) hfit (by have := h.gen; omega) (by unfold halfN at hroom; omega) hb
    rw [recordsM_some hr, ← takenL_take_succ L i hil, Inv.recordsM_from h d (i + 1) f' (by omega) (by omega), List.drop_eq_getElem_cons hil]

theorem Inv.genM {S : List (List UInt8)} {g : Nat} {L : List (List UInt8)} (h : Inv S g L) : genM S = some g := by
  have h1 := h.head
  have h2 := h.head2
  have hg := h.gen
  have hi := head_is g (by omega)
  have hr := head_gen g (by omega)
  rcases (show g % 2 = 0 ∨ g % 2 = 1 by omega) with e | e
  · rw [e] at h1 hi
    rw [show (g + 1) % 2 = 1 by omega] at h2
    unfold Go.Proofs.YtmimplmeccoahaaDoor.genM
    simp only [h1, hi, hr]
    generalize S.getD 1 [] = o at *
    by_cases h3 : isHead o 1 = true
    · have := h2 h3
      simp [h3]
      omega
    · simp [h3]
  · rw [e] at h1 hi
    rw [show (g + 1) % 2 = 0 by omega] at h2
    unfold Go.Proofs.YtmimplmeccoahaaDoor.genM
    simp only [h1, hi, hr]
    generalize S.getD 0 [] = o at *
    by_cases h3 : isHead o 0 = true
    · have := h2 h3
      simp [h3]
      omega
    · simp [h3]

/-- Open finds what the sectors bear -/
theorem Inv.opened {M : MD} {g : Nat} {L : List (List UInt8)} (h : Inv M.S g L) (hdn : M.down = false) : openM M = .inl ⟨g, L, false⟩ := by
  have h8 := h.n8
  have hroom := h.room
  have hLT := length_le_taken L
  have hr := Inv.recordsM_from h L.length 0 (halfN M.S.length + 1) (by omega) (by omega)
  unfold openM
  rw [if_neg (by omega), if_neg (by simp [hdn]), h.genM]
  simp only
  rw [show takenL (L.take 0) = 0 from rfl] at hr
  rw [hr, List.drop_zero]
end Go.Proofs.YtmimplmeccoahaaDoor
