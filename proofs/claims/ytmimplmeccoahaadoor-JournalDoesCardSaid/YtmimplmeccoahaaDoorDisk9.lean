/- Copy of a disk, by contract: the walk. -/
import Derived.Test.YtmimplmeccoahaaDoorDisk8
namespace Go.Proofs.YtmimplmeccoahaaDoor
open Go.RowKit
set_option linter.unusedVariables false
set_option maxRecDepth 20000
attribute [local go_sem ↓] seal_append seal_build_fault seal_load_sector seal_load_fault seal_store_sector seal_store_fault seal_alloc_fault

theorem copy_nil (w : World) :
    Calls Tryd.prog 66 #[.pointer none] w fun e w' => e = .returned (.pointer none) ∧ w = w' := by
  go_enter Tryd.func66, Tryd.ntmps66
  go_wp2_with fail
  go_ret
  exact ⟨rfl, rfl⟩

theorem copy_none (w : World) (K : DK) (M : MD) (h : DiskAt w K M) (hft : M.fault = none) :
    Calls Tryd.prog 66 #[.pointer (some ⟨K.d, 0, none⟩)] w fun e w' => ∃ K' : DK, e = .returned (.pointer (some ⟨K'.d, 0, none⟩)) ∧ DiskAt w' K' M ∧ Below w.heap.size w w' ∧ (∀ b, K'.foot b → w.heap.size ≤ b) := by
  obtain ⟨h1, h2, ⟨cap', hcap, hcm, h3⟩, ⟨L, h4, h5⟩, h6, h7⟩ := h
  rw [hft] at h3
  have hne := h3.ne h4 (by decide)
  have hlt := h3.lt
  have hlt2 := h4.lt
  have c0 := h3.cell 0
  have c1 := h3.cell 1
  have c2 := h3.cell 2
  have c3 := h3.cell 3
  simp at c0 c1 c2 c3
  have H6 := Lib.hid h6; have H7 := Lib.hid h7; have Hft := Lib.hid hft; clear h6 h7 hft
  have h4a := h4.alloc (.cells #[.slice (some ⟨K.bs, 0, none⟩) M.S.length cap', .bool M.down, .pointer none, .int .i64 (M.writes : Int)] 86)
  have h3a := h3.alloc (.cells #[.slice (some ⟨K.bs, 0, none⟩) M.S.length cap', .bool M.down, .pointer none, .int .i64 (M.writes : Int)] 86)
  have hna := Blk.new w #[.slice (some ⟨K.bs, 0, none⟩) M.S.length cap', .bool M.down, .pointer none, .int .i64 (M.writes : Int)] 86
  go_enter Tryd.func66, Tryd.ntmps66
  go_wp2_with fail
  refine (cloneSectors_any _ K.bs cap' L M.S h4a h5 h1 h2).mono ?_
  rintro e w2 ⟨g, c, L2, rfl, hg, hc1, hc2, hL2, hs2, hb2⟩
  have hka := (kept_alloc w (.cells #[.slice (some ⟨K.bs, 0, none⟩) M.S.length cap', .bool M.down, .pointer none, .int .i64 (M.writes : Int)] 86)).trans (hb2.mono (by simp))
  have h3c := h3a.keep (hb2.block K.d (by simp; omega))
  have hnc := hna.keep (hb2.block w.heap.size (by simp))
  have hsz := hb2.size
  simp at hg hsz
  clear hna h3a h4a hb2
  have d0 := hnc.cell 0
  have d2 := hnc.cell 2
  have e0 := hnc.free 0
  have c2' := h3c.cell 2
  simp at d0 d2 c2'
  have hdn : K.d ≠ w.heap.size := Nat.ne_of_lt hlt
  go_wp2_with fail
  go_ret
  refine ⟨⟨w.heap.size, g, w.heap.size⟩, rfl, ⟨h1, h2, ⟨c, hc1, hc2, ?_⟩, ⟨L2, hL2.set_other _ (by simp; omega), hs2⟩, fun _ => rfl, fun k t ht => by rw [Hft.out] at ht; cases ht⟩, hka.setCell (Nat.le_refl _) _, ?_⟩
  · rw [Hft.out]; simpa using hnc.set 0 (.slice (some ⟨g, 0, none⟩) M.S.length c)
  · rintro b (rfl | rfl | rfl)
    · exact Nat.le_refl _
    · show w.heap.size ≤ _; omega
    · exact Nat.le_refl _

theorem copy_some (w : World) (K : DK) (M : MD) (h : DiskAt w K M) (n : Nat) (t : List UInt8) (hft : M.fault = some (n, t)) :
    Calls Tryd.prog 66 #[.pointer (some ⟨K.d, 0, none⟩)] w fun e w' => ∃ K' : DK, e = .returned (.pointer (some ⟨K'.d, 0, none⟩)) ∧ DiskAt w' K' M ∧ Below w.heap.size w w' ∧ (∀ b, K'.foot b → w.heap.size ≤ b) := by
  obtain ⟨h1, h2, ⟨cap', hcap, hcm, h3⟩, ⟨L, h4, h5⟩, h6, h7⟩ := h
  obtain ⟨ht, hk, h7⟩ := h7 n t hft
  rw [hft] at h3
  have hne := h3.ne h4 (by decide)
  have hlt := h3.lt
  have hlt2 := h4.lt
  have hlt3 := h7.lt
  have c0 := h3.cell 0
  have c1 := h3.cell 1
  have c2 := h3.cell 2
  have c3 := h3.cell 3
  simp at c0 c1 c2 c3
  have H6 := Lib.hid h6; have Hft := Lib.hid hft; have Ht := Lib.hid ht; clear h6 hft ht
  have h4a := h4.alloc (.cells #[.slice (some ⟨K.bs, 0, none⟩) M.S.length cap', .bool M.down, .pointer (some ⟨K.bf, 0, none⟩), .int .i64 (M.writes : Int)] 86)
  have h3a := h3.alloc (.cells #[.slice (some ⟨K.bs, 0, none⟩) M.S.length cap', .bool M.down, .pointer (some ⟨K.bf, 0, none⟩), .int .i64 (M.writes : Int)] 86)
  have h7a := h7.alloc (.cells #[.slice (some ⟨K.bs, 0, none⟩) M.S.length cap', .bool M.down, .pointer (some ⟨K.bf, 0, none⟩), .int .i64 (M.writes : Int)] 86)
  have hna := Blk.new w #[.slice (some ⟨K.bs, 0, none⟩) M.S.length cap', .bool M.down, .pointer (some ⟨K.bf, 0, none⟩), .int .i64 (M.writes : Int)] 86
  go_enter Tryd.func66, Tryd.ntmps66
  go_wp2_with fail
  refine (cloneSectors_any _ K.bs cap' L M.S h4a h5 h1 h2).mono ?_
  rintro e w2 ⟨g, c, L2, rfl, hg, hc1, hc2, hL2, hs2, hb2⟩
  have hka := (kept_alloc w (.cells #[.slice (some ⟨K.bs, 0, none⟩) M.S.length cap', .bool M.down, .pointer (some ⟨K.bf, 0, none⟩), .int .i64 (M.writes : Int)] 86)).trans (hb2.mono (by simp))
  have h3c := h3a.keep (hb2.block K.d (by simp; omega))
  have h7c := h7a.keep (hb2.block K.bf (by simp; omega))
  have hnc := hna.keep (hb2.block w.heap.size (by simp))
  have hsz := hb2.size
  simp at hg hsz
  clear hna h3a h4a h7a hb2
  have d0 := hnc.cell 0
  have e0 := hnc.free 0
  simp at d0
  -- behind the store of the new sectors
  have hnd := hnc.set 0 (.slice (some ⟨g, 0, none⟩) M.S.length c)
  have h3d := h3c.set_other (a := ⟨w.heap.size, 0, none⟩) (.slice (some ⟨g, 0, none⟩) M.S.length c) (Nat.ne_of_lt hlt)
  have h7d := h7c.set_other (a := ⟨w.heap.size, 0, none⟩) (.slice (some ⟨g, 0, none⟩) M.S.length c) (Nat.ne_of_lt hlt3)
  have hLd := hL2.set_other (a := ⟨w.heap.size, 0, none⟩) (.slice (some ⟨g, 0, none⟩) M.S.length c) (show g ≠ w.heap.size by omega)
  have hkd := hka.setCell (p := ⟨w.heap.size, 0, none⟩) (Nat.le_refl _) (.slice (some ⟨g, 0, none⟩) M.S.length c)
  have hszd : (w2.setCell ⟨w.heap.size, 0, none⟩ (.slice (some ⟨g, 0, none⟩) M.S.length c)).heap.size = w2.heap.size := by simp [World.setCell]
  have c2d := h3c.cell 2
  simp at c2d
  have hdn : K.d ≠ w.heap.size := Nat.ne_of_lt hlt
  obtain ⟨z, hz, hal⟩ := run_AL_fault (w2.setCell ⟨w.heap.size, 0, none⟩ (.slice (some ⟨g, 0, none⟩) M.S.length c)) true
  have hld := run_LV (P := Tryd.prog) Tryd.underlying89 rfl sizeFault (off := 0) h7d (by have := Ht.out; simp; omega)
  rw [List.drop_zero, List.take_of_length_le (by have := Ht.out; simp; omega)] at hld
  -- the new fault
  have hfe := Blk.new (w2.setCell ⟨w.heap.size, 0, none⟩ (.slice (some ⟨g, 0, none⟩) M.S.length c)) z 89
  have hne_ := hnd.alloc (.cells z 89)
  have hLe := hLd.alloc (.cells z 89)
  have hke := hkd.alloc (by rw [hszd]; omega) (.cells z 89)
  rw [hszd] at hal hfe
  generalize hw4 : (w2.setCell ⟨w.heap.size, 0, none⟩ (.slice (some ⟨g, 0, none⟩) M.S.length c)).alloc (.cells z 89) = w4 at *
  have Hw4 := Lib.hid hw4; clear hw4 hszd
  have hst := run_SV (P := Tryd.prog) (w := w4) sizeFault (off := 0) hfe (V := .int .i64 (n : Int) :: t.map B) (by have := Ht.out; simp; omega) (by simp; omega) (by
    intro v hv
    rcases List.mem_cons.1 hv with rfl | hv
    · rfl
    · exact oneCell_B t v hv)
  rw [List.take_zero, List.nil_append, List.drop_of_length_le (by simp; omega), List.append_nil] at hst
  have hff := hfe.row (.int .i64 (n : Int) :: t.map B)
  have hnf := hne_.row_other (.int .i64 (n : Int) :: t.map B).toArray (show w.heap.size ≠ w2.heap.size by omega)
  have hLf := hLe.row_other (.int .i64 (n : Int) :: t.map B).toArray (Nat.ne_of_lt hL2.lt)
  have hkf := below_setRow hke (show w.heap.size ≤ w2.heap.size by omega) (.int .i64 (n : Int) :: t.map B).toArray
  generalize hw5 : w4.setRow w2.heap.size (.int .i64 (n : Int) :: t.map B).toArray = w5 at *
  have Hw5 := Lib.hid hw5; clear hw5
  have p2 := hnf.cell 2
  have q2 := hnf.free 2
  simp at p2
  clear hnd h3d h7d hLd hkd hfe hne_ hLe hke
  go_wp2_with fail
  go_ret
  refine ⟨⟨w.heap.size, g, w2.heap.size⟩, rfl, ⟨h1, h2, ⟨c, hc1, hc2, ?_⟩, ⟨L2, hLf.set_other _ (show g ≠ w.heap.size by omega), hs2⟩, (fun hx => by rw [Hft.out] at hx; cases hx), fun k t' ht' => ?_⟩, hkf.setCell (Nat.le_refl _) _, ?_⟩
  · rw [Hft.out]; simpa using hnf.set 2 (.pointer (some ⟨w2.heap.size, 0, none⟩))
  · rw [Hft.out] at ht'
    simp at ht'
    obtain ⟨rfl, rfl⟩ := ht'
    exact ⟨Ht.out, hk, hff.set_other _ (show w2.heap.size ≠ w.heap.size by omega)⟩
  · rintro b (rfl | rfl | rfl)
    · exact Nat.le_refl _
    · show w.heap.size ≤ _; omega
    · show w.heap.size ≤ w2.heap.size; omega

/-- Copy: the copy lies in new blocks and is the same disk -/
theorem copy_any (w : World) (K : DK) (M : MD) (h : DiskAt w K M) :
    Calls Tryd.prog 66 #[.pointer (some ⟨K.d, 0, none⟩)] w fun e w' => ∃ K' : DK, e = .returned (.pointer (some ⟨K'.d, 0, none⟩)) ∧ DiskAt w' K' M ∧ Below w.heap.size w w' ∧ (∀ b, K'.foot b → w.heap.size ≤ b) := by
  cases hft : M.fault with
  | none => exact copy_none w K M h hft
  | some p => exact copy_some w K M h p.1 p.2 hft
end Go.Proofs.YtmimplmeccoahaaDoor
