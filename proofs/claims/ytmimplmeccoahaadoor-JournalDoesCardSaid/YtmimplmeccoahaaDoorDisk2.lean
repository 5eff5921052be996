/- Read, Down, Up, Writes, Size of a disk, by contracts. -/
import Derived.Test.YtmimplmeccoahaaDoorDisk
import Derived.Test.YtmimplmeccoahaaDoorClone
namespace Go.Proofs.YtmimplmeccoahaaDoor
open Go.RowKit
set_option linter.unusedVariables false
set_option maxRecDepth 20000
attribute [local go_sem ↓] seal_append

theorem read_err (w : World) (K : DK) (M : MD) (i : Int) (h : DiskAt w K M) (hc : M.chk i ≠ 0) :
    Calls Tryd.prog 60 #[.pointer (some ⟨K.d, 0, none⟩), .int .i64 i] w fun e w' => e = .returned (.tuple #[.slice none 0 0, .int .i64 (M.chk i)]) ∧ w = w' := by
  have hb : (M.chk i == 0) = false := beq_eq_false_iff_ne.2 hc
  have hb2 : (M.chk i != 0) = true := bne_iff_ne.2 hc
  go_enter Tryd.func60, Tryd.ntmps60
  go_wp2_with fail
  refine (check_any w K M i h).mono ?_
  rintro e w' ⟨rfl, rfl⟩
  go_wp2_with fail
  go_ret2
  exact ⟨rfl, rfl⟩

theorem read_nil (w : World) (i : Int) :
    Calls Tryd.prog 60 #[.pointer none, .int .i64 i] w fun e w' => e = .returned (.tuple #[.slice none 0 0, .int .i64 9]) ∧ w = w' := by
  go_enter Tryd.func60, Tryd.ntmps60
  go_wp2_with fail
  refine (check_nil w i).mono ?_
  rintro e w' ⟨rfl, rfl⟩
  go_wp2_with fail
  go_ret2
  exact ⟨rfl, rfl⟩

theorem MD.chk_ok {M : MD} {i : Int} (h : M.chk i = 0) : M.down = false ∧ 0 ≤ i ∧ i < M.S.length := by
  unfold MD.chk at h
  split at h
  · cases h
  · split at h
    · rename_i h1 h2; exact ⟨by simpa using h1, h2⟩
    · cases h

theorem flat_get {L : List Value} {S : List (List UInt8)} (h : Sectors L S) (i : Nat) (hi : i < S.length) (j : Nat) (hj : j < (S[i]).length) : L[i * 64 + j]? = some (B (S[i])[j]) := by
  obtain ⟨h1, h2, h3⟩ := h
  have hl : (S[i]).length = 64 := h3 _ (List.getElem_mem hi)
  have := h2 i hi
  have e : ((L.drop (i * 64)).take 64)[j]? = (S[i].map B)[j]? := by rw [this]
  rw [List.getElem?_take, if_pos (by omega), List.getElem?_drop] at e
  simpa [List.getElem?_eq_getElem hj] using e

/-- a sector in memory, as a slice of bytes -/
theorem sector_bytes {w : World} {K : DK} {M : MD} (h : DiskAt w K M) (i : Nat) (hi : i < M.S.length) : Bytes K.foot w (.slice (some ⟨K.bs, i * 64, none⟩) 64 64) M.S[i] := by
  obtain ⟨L, hL, hs⟩ := h.secs
  have hl : (M.S[i]).length = 64 := hs.2.2 _ (List.getElem_mem hi)
  have h1 := hs.1
  refine ⟨some ⟨K.bs, i * 64, none⟩, 64, by rw [hl], by omega, by unfold maxLen; omega, nofun, .inr ⟨K.bs, i * 64, L.toArray, _, _, rfl, .inr (.inl rfl), hL, by simp; omega, fun j hj => ?_⟩⟩
  simpa using flat_get hs i hi j hj

theorem read_ok (w : World) (K : DK) (M : MD) (i : Nat) (h : DiskAt w K M) (hi : i < M.S.length) (hdn : M.down = false) :
    Calls Tryd.prog 60 #[.pointer (some ⟨K.d, 0, none⟩), .int .i64 (i : Int)] w fun e w' => ∃ r, e = .returned (.tuple #[r, .int .i64 0]) ∧
      w'.ownsRow w.heap.size 5 1 r 64 (M.S[i].map B) ∧ Below w.heap.size w w' := by
  have hsb := sector_bytes h i hi
  have hl : (M.S[i]).length = 64 := by obtain ⟨L, hL, hs⟩ := h.secs; exact hs.2.2 _ (List.getElem_mem hi)
  have hc : M.chk (i : Int) = 0 := by unfold MD.chk; rw [hdn, if_neg (by simp), if_pos (by omega)]
  have Hc := Lib.hid hc; clear hc
  obtain ⟨cap, hcap, hcm, h3⟩ := h.main
  have c0 := h3.cell 0
  simp at c0
  have hle := h.le
  have hn0 : (i : Int) < (M.S.length : Int) := by omega
  have HL := Lib.hid hl; clear hl
  go_enter Tryd.func60, Tryd.ntmps60
  go_wp2_with fail
  refine (check_any w K M i h).mono ?_
  rintro e w' ⟨rfl, rfl⟩
  rw [Hc.out]
  go_wp2_with fail
  refine (clone_any w K.foot _ _ hsb (by rw [HL.out]; omega)).mono ?_
  rintro e w' ⟨r, rfl, ho, hb⟩
  go_wp2_with fail
  go_ret2
  exact ⟨r, rfl, by rw [HL.out] at ho; exact ho, hb⟩

theorem down_any (w : World) (K : DK) (M : MD) (h : DiskAt w K M) :
    Calls Tryd.prog 54 #[.pointer (some ⟨K.d, 0, none⟩)] w fun e w' => e = .returned (.bool M.down) ∧ w = w' := by
  obtain ⟨cap, hcap, hcm, h3⟩ := h.main
  have c0 := h3.cell 1
  simp at c0
  go_enter Tryd.func54, Tryd.ntmps54
  go_wp2_with fail
  go_ret
  exact ⟨rfl, rfl⟩

theorem down_nil (w : World) :
    Calls Tryd.prog 54 #[.pointer none] w fun e w' => e = .returned (.bool false) ∧ w = w' := by
  go_enter Tryd.func54, Tryd.ntmps54
  go_wp2_with fail
  go_ret
  exact ⟨rfl, rfl⟩

theorem size_any (w : World) (K : DK) (M : MD) (h : DiskAt w K M) :
    Calls Tryd.prog 53 #[.pointer (some ⟨K.d, 0, none⟩)] w fun e w' => e = .returned (.int .i64 (M.S.length : Int)) ∧ w = w' := by
  obtain ⟨cap, hcap, hcm, h3⟩ := h.main
  have c0 := h3.cell 0
  simp at c0
  go_enter Tryd.func53, Tryd.ntmps53
  go_wp2_with fail
  go_ret
  exact ⟨rfl, rfl⟩

theorem size_nil (w : World) :
    Calls Tryd.prog 53 #[.pointer none] w fun e w' => e = .returned (.int .i64 0) ∧ w = w' := by
  go_enter Tryd.func53, Tryd.ntmps53
  go_wp2_with fail
  go_ret
  exact ⟨rfl, rfl⟩

theorem writes_any (w : World) (K : DK) (M : MD) (h : DiskAt w K M) :
    Calls Tryd.prog 24 #[.pointer (some ⟨K.d, 0, none⟩)] w fun e w' => e = .returned (.int .i64 (M.writes : Int)) ∧ w = w' := by
  obtain ⟨cap, hcap, hcm, h3⟩ := h.main
  have c0 := h3.cell 3
  simp at c0
  go_enter Tryd.func24, Tryd.ntmps24
  go_wp2_with fail
  go_ret
  exact ⟨rfl, rfl⟩

theorem writes_nil (w : World) :
    Calls Tryd.prog 24 #[.pointer none] w fun e w' => e = .returned (.int .i64 0) ∧ w = w' := by
  go_enter Tryd.func24, Tryd.ntmps24
  go_wp2_with fail
  go_ret
  exact ⟨rfl, rfl⟩

theorem up_nil (w : World) :
    Calls Tryd.prog 29 #[.pointer none] w fun e w' => e = .returned (.tuple #[]) ∧ w = w' := by
  go_enter Tryd.func29, Tryd.ntmps29
  go_wp2_with fail
  go_end0
  exact ⟨rfl, rfl⟩

/-- the blocks of a disk are three (or two) different ones -/
theorem DiskAt.ne {w : World} {K : DK} {M : MD} (h : DiskAt w K M) : K.d ≠ K.bs ∧ K.bs ≠ K.bf := by
  obtain ⟨cap, hcap, hcm, h3⟩ := h.main
  obtain ⟨L, hL, hs⟩ := h.secs
  have h1 : K.d ≠ K.bs := h3.ne hL (by decide)
  refine ⟨h1, ?_⟩
  cases hf : M.fault with
  | none => rw [h.none_ hf]; exact h1.symm
  | some p => exact hL.ne (h.some_ p.1 p.2 (by rw [hf])).2.2 (by decide)
theorem DiskAt.ne2 {w : World} {K : DK} {M : MD} (h : DiskAt w K M) (hf : M.fault ≠ none) : K.d ≠ K.bf := by
  obtain ⟨cap, hcap, hcm, h3⟩ := h.main
  cases hf' : M.fault with
  | none => exact absurd hf' hf
  | some p => exact h3.ne (h.some_ p.1 p.2 (by rw [hf'])).2.2 (by decide)

theorem up_any (w : World) (K : DK) (M : MD) (h : DiskAt w K M) :
    Calls Tryd.prog 29 #[.pointer (some ⟨K.d, 0, none⟩)] w fun e w' => e = .returned (.tuple #[]) ∧ DiskAt w' K { M with down := false } ∧ Only K.foot w w' ∧ w'.heap.size = w.heap.size := by
  obtain ⟨h1, h2, ⟨cap, hcap, hcm, h3⟩, ⟨L, h4, h5⟩, h6, h7⟩ := h
  have hne := h3.ne h4 (by decide)
  have c0 := h3.cell 1
  have f0 := h3.free 1
  simp at c0
  have Hst : Hid (∀ k t, M.fault = some (k, t) → K.d ≠ K.bf) := fun k t ht => h3.ne (h7 k t ht).2.2 (by decide)
  have H6 := Lib.hid h6; have H7 := Lib.hid h7; clear h6 h7
  go_enter Tryd.func29, Tryd.ntmps29
  go_wp2_with fail
  go_end0
  refine ⟨rfl, ⟨h1, h2, ⟨cap, hcap, hcm, by simpa using h3.set 1 (.bool false)⟩, ⟨L, h4.set_other _ hne.symm, h5⟩, H6.out, fun k t ht => ⟨(H7.out k t ht).1, (H7.out k t ht).2.1, (H7.out k t ht).2.2.set_other _ (Hst.out k t ht).symm⟩⟩, (Only.refl _ _).setCell (.inl (.inl rfl)) _, by simp [World.setCell]⟩
end Go.Proofs.YtmimplmeccoahaaDoor
