/- read: a sector of the disk. -/
import Derived.Test.YtmimplmeccoahaaDoorJ9
namespace Go.Proofs.YtmimplmeccoahaaDoor
open Go.RowKit
set_option linter.unusedVariables false
set_option maxRecDepth 20000
attribute [local go_sem ↓] seal_copy seal_build_sector
attribute [local go_sem] opC upC

theorem putL_all (l x : List UInt8) (h : l.length = x.length) : putL l 0 x = x := by
  unfold putL
  simp [h]

theorem jread_any (w : World) (jb kd g taken : Nat) (rv : Value) (dead : Bool) (K : DK) (M : MD) (hj : JBlk w jb kd g rv taken dead) (hd : DiskAt w K M) (hK : K.d = kd) (at_ : Nat) (hi : at_ < M.S.length) (hdn : M.down = false) :
    Calls Tryd.prog 55 #[.pointer (some ⟨jb, 0, none⟩), .int .i64 (at_ : Int)] w fun e w' => ∃ sb, e = .returned (.pointer (some ⟨sb, 0, none⟩)) ∧ w.heap.size ≤ sb ∧ SecAt w' sb (M.S.getD at_ []) ∧ Below w.heap.size w w' := by
  subst hK
  have hbd := run_BD_sector w
  obtain ⟨w1, hw1⟩ : ∃ w1, w1 = w.alloc (.cells (zero64.map B).toArray 78) := ⟨_, rfl⟩
  have hs1 : SecAt w1 w.heap.size zero64 := by rw [hw1]; exact SecAt.new _ _ zero64_length
  have hk1 : Below w.heap.size w w1 := by rw [hw1]; exact kept_alloc _ _
  have hz1 : w1.heap.size = w.heap.size + 1 := by rw [hw1]; simp
  have hd1 := hd.kept hk1
  have hj1 : JBlk w1 jb K.d g rv taken dead := Blk.keep hj (hk1.block jb (Blk.lt hj))
  have c0 := hj1.cell 0
  simp at c0
  have hrd := read_ok w1 K M at_ hd1 hi hdn
  have h64 : M.S[at_].length = 64 := by
    obtain ⟨L, -, hL⟩ := hd.secs
    exact hL.2.2 _ (List.getElem_mem hi)
  have Hrd := Lib.hid hrd
  clear hrd
  rw [hw1] at c0 Hrd
  have Hw1 := Lib.hid hw1
  clear hw1
  go_enter Tryd.func55, Tryd.ntmps55
  go_wp2_with fail
  refine Hrd.out.mono ?_
  rintro e w2 ⟨r, rfl, hr2, hb2⟩
  rw [← Hw1.out] at hr2 hb2
  have hr2 : w2.ownsRow w1.heap.size 5 1 r (M.S[at_]).length ((M.S[at_]).map B) := by rw [h64]; exact hr2
  have hs2 : SecAt w2 w.heap.size zero64 := ⟨hs1.1.keep (hb2.block _ (by omega)), hs1.2⟩
  have hk2 := hk1.trans (hb2.mono (by omega))
  have hby := owns_bytes hr2
  obtain ⟨a, cap, rfl, -, -⟩ := id hby
  obtain ⟨w3, hcp, hs3, ho3, hz3⟩ := run_copy_sec hs2 0 64 64 hby 64 (by rw [h64]; rfl) (by omega)
  rw [List.take_of_length_le (by omega), putL_all _ _ (by rw [zero64_length, h64])] at hs3
  rw [show ((64 : Nat) : Int) = 64 from rfl, h64] at hcp
  have hk3 := below_only hk2 ho3 (fun b e => by rw [e]; exact Nat.le_refl _) (by have := hb2.size; omega)
  have Hs3 := Lib.hid hs3; have Hk3 := Lib.hid hk3
  clear hs3 hk3 hby hr2 hs2 hk2 c0 hs1 hd1 hj1
  go_wp2_with fail
  go_ret
  refine ⟨_, rfl, Nat.le_refl _, ?_, Hk3.out⟩
  rw [show M.S.getD at_ [] = M.S[at_] from by rw [List.getD_eq_getElem?_getD, List.getElem?_eq_getElem hi]; rfl]
  exact Hs3.out

theorem piecesOk_le (S : List (List UInt8)) (g k p n : Nat) : ∀ (i j : Nat), piecesOk S g k p n (i + j) = true → piecesOk S g k p n i = true
  | i, 0, h => h
  | i, j + 1, h => by
    refine piecesOk_le S g k p n i j ?_
    have : piecesOk S g k p n (i + j + 1) = true := h
    simp only [piecesOk, Bool.and_eq_true] at this
    exact this.1
theorem bodyM_length (S : List (List UInt8)) (hS : ∀ s ∈ S, s.length = 64) (g p : Nat) : ∀ i, (∀ j, j < i → placeN S.length g (p + j) < S.length) → (bodyM S g p i).length = 48 * i
  | 0, _ => rfl
  | i + 1, h => by
    have h1 := bodyM_length S hS g p i (fun j hj => h j (by omega))
    have h2 := h i (by omega)
    have h3 : (secM S g (p + i)).length = 64 := by
      unfold secM
      rw [List.getD_eq_getElem?_getD, List.getElem?_eq_getElem h2]
      exact hS _ (List.getElem_mem h2)
    simp only [bodyM, List.length_append, h1, List.length_take, List.length_drop, h3]
    omega
theorem placeN_lt (n g p : Nat) (hp : p < halfN n) : placeN n g p < n := by
  unfold placeN
  have h2 : g % 2 = 0 ∨ g % 2 = 1 := by omega
  unfold halfN at *
  rcases h2 with h | h <;> rw [h] <;> omega
end Go.Proofs.YtmimplmeccoahaaDoor
