/-
  SLawK
-/
import Derived.Test.YtkkacnfpdafadaaGreatDoorR44
import Derived.Test.YtkkacnfpdafadaaGreatDoorR34
import Derived.Test.YtkkacnfpdafadaaGreatDoorR47
import Derived.Test.YtkkacnfpdafadaaGreatDoorR45
namespace Go.Proofs.YtkkacnfpdafadaaGreatDoor
open Go.RowKit Go.Lib
set_option linter.unusedVariables false
set_option maxRecDepth 20000
attribute [local go_sem ↓] seal_make
attribute [local go_sem] opC upC

abbrev no7 : List Int := [0, 0, 0, 0, 0, 0, 0]
theorem made7 : (madeCells (Value.int .i64 0).cells (7 * 1)).toList = (List.replicate 7 (0 : Int)).map eI := by
  have h : madeCells (Array.replicate 1 (Value.int .i64 0)) 7 = Array.replicate 7 (Value.int .i64 0) := by
    apply Array.ext
    · simp [madeCells]
    · intro i h1 h2
      simp only [madeCells, Array.getElem_map, Array.getElem_range, Array.size_replicate, Array.getElem_replicate]
      rw [getElem!_pos (Array.replicate 1 (Value.int .i64 0)) (i % 1) (by simpa using Nat.mod_lt i (show 0 < 1 by decide))]
      simp
  simp only [Value.cells]
  rw [show #[Value.int .i64 0] = Array.replicate 1 (Value.int .i64 0) from rfl, show 7 * 1 = 7 from rfl, h]
  simp
def TwoL (B1 B2 : Nat) (w : World) : Prop := Blk w B1 (one8.map eI) 3 ∧ Blk w B2 (two8.map eI) 3
theorem TwoL.keep {B1 B2 : Nat} {w w' : World} (h : TwoL B1 B2 w) (hb : Below w.heap.size w w') : TwoL B1 B2 w' := ⟨h.1.keep (hb.block _ h.1.lt), h.2.keep (hb.block _ h.2.lt)⟩
set_option maxRecDepth 100000 in
set_option maxHeartbeats 8000000 in
theorem ShareKnown_walk (w : World) (hq : Tabs w ∧ 3 ≤ w.heap.size) :
    Calls Tryz.prog 11 #[] w fun e w' => e = .returned (.bool true) ∧ Below w.heap.size w w' := by
  have HTb := Lib.hid (show ∀ w', Below w.heap.size w w' → Tabs w' ∧ 3 ≤ w'.heap.size from fun w' hb => ⟨tabs_below hq.1 hq.2 hb, Nat.le_trans hq.2 hb.size⟩)
  clear hq
  have HNe : (∀ x ∈ RMap.new.items, x.key.length ≤ 1000000) ∧ (∀ x ∈ RMap.new.gone, x.key.length ≤ 1000000) := ⟨nofun, nofun⟩
  have KN := Lib.hid (show ((∀ x ∈ RMap.new.items, x.key.length ≤ 1000000) ∧ (∀ x ∈ RMap.new.gone, x.key.length ≤ 1000000)) ∧ RMap.new.seen.length ≤ 1000000 ∧ RMap.new.items.length ≤ 1000000 ∧ RMap.new.gone.length ≤ 1000000 from ⟨HNe, by decide, by decide, by decide⟩)
  obtain ⟨X, hX⟩ : ∃ X, shX = X := ⟨_, rfl⟩
  obtain ⟨Y, hY⟩ : ∃ X, shY = X := ⟨_, rfl⟩
  obtain ⟨E, hE⟩ : ∃ X, shE = X := ⟨_, rfl⟩
  have EX := Lib.hid sh_x; have EY := Lib.hid sh_y; have E1 := Lib.hid sh_since1; have E2 := Lib.hid sh_since2; have E3 := Lib.hid sh_since3
  have K1 := Lib.hid sh_k1; have K3 := Lib.hid sh_k3; have K9 := Lib.hid sh_k9
  have KX := Lib.hid (sh_keys X (.inl hX.symm)); have KY := Lib.hid (sh_keys Y (.inr (.inl hY.symm))); have KE := Lib.hid (sh_keys E (.inr (.inr hE.symm)))
  rw [hX] at EX EY E1 K1 K3
  rw [hY] at EY E2 E3 K9
  rw [hE] at E3
  have HEq := Lib.hid (show E.seen = Y.seen ∧ E.items = [] ∧ E.gone = Y.gone by rw [← hE, ← hY]; exact ⟨rfl, rfl, rfl⟩)
  have HYe := Lib.hid hY
  clear hX hY hE HNe
  have HW0 := Lib.hid (Below.refl w.heap.size w)
  have Hl0 := Lib.hid (Has.nil w)
  go_enter Tryz.func11, Tryz.ntmps11
  have HN := Lib.hid (pnew_any w)
  go_wp2_with fail
  refine HN.out.mono ?_
  rintro e w1 ⟨v1, rfl, hmn, hbn⟩
  obtain ⟨s11, s21, s31, rfl, -⟩ := id hmn
  have HW1 := Lib.hid (show Below w.heap.size w w1 from HW0.out.trans (hbn.mono HW0.out.size))
  have Hl1 := Lib.hid (Hl0.out.keep hbn)
  have Hm1 := Lib.hid (hmn.mono (G := fun q => q < w1.heap.size) fun q _ hlt => hlt)
  clear hmn hbn
  clear HN
  obtain ⟨wa2, hwa⟩ : ∃ q, q = w1.alloc (.cells #[.string ⟨sK.toArray⟩] 9) := ⟨_, rfl⟩
  have hba : Below w1.heap.size w1 wa2 := by rw [hwa]; exact kept_alloc _ _
  have hWa : Below w.heap.size w wa2 := HW1.out.trans (hba.mono HW1.out.size)
  have hra : Rows (fun q => q = w1.heap.size) wa2 1 (.slice (some ⟨w1.heap.size, 0, none⟩) 1 1) ([sK] : List RKey).length (([sK] : List RKey).map eS) := by rw [hwa]; exact rows_new w1 #[.string ⟨sK.toArray⟩] 9 1 rfl (by unfold maxLen; omega)
  have hU := puse_any wa2 (HTb.out _ hWa).1 (HTb.out _ hWa).2 _ _ .new ((Hm1.out).later hba (Nat.le_refl _)) KN.out.1.1 KN.out.1.2 KN.out.2.2.1 KN.out.2.2.2 0 _ _ [sK] hra (by decide) (by decide)
  rw [EX.out] at hU
  skip
  have HU := Lib.hid hU; have HWa2 := Lib.hid hWa; have Hla2 := Lib.hid (Hl1.out.keep hba); have Hwa2 := Lib.hid hwa
  clear hU hba hWa hra hwa
  go_wp2_with fail
  rw [← Hwa2.out]
  refine HU.out.mono ?_
  rintro e wm2 ⟨⟨r, rfl, ho, hbd⟩, hbm⟩
  obtain ⟨t1, t2, t3, rfl, ho⟩ := ho
  dsimp only at ho hbd ⊢
  obtain ⟨n12, m12, rfl⟩ := own_shape ho.seen
  obtain ⟨n22, m22, rfl⟩ := own_shape ho.items
  obtain ⟨n32, m32, rfl⟩ := own_shape ho.gone
  obtain ⟨w2, hw2⟩ : ∃ q, q = wm2.alloc (.cells #[.slice n12 X.seen.length m12, .slice n22 X.items.length m22, .slice n32 X.gone.length m32] 31) := ⟨_, rfl⟩
  have hk2 : Below wm2.heap.size wm2 w2 := by rw [hw2]; exact kept_alloc _ _
  have hbw : Below wa2.heap.size wa2 w2 := hbm.trans (hk2.mono hbm.size)
  have hmb : MB w2 wm2.heap.size X := ⟨_, _, _, _, _, _, by rw [hw2]; exact Blk.new _ _ _, (((ho.below hk2).map hbd).mono fun q _ hlt => hlt)⟩
  have Hl2 := Lib.hid (show Has ((wm2.heap.size, X) :: []) w2 from (Hla2.out.keep hbw).cons hmb)
  have HW2 := Lib.hid (show Below w.heap.size w w2 from HWa2.out.trans (hbw.mono HWa2.out.size))
  have Hw2 := Lib.hid hw2
  clear hk2 hbw hmb ho hbd hbm
  clear HU
  obtain ⟨s1X, e1X, s2X, e2X, s3X, e3X, hBX, hMX⟩ := Hl2.out.get wm2.heap.size X (by simp)
  obtain ⟨c0X, c1X, c2X⟩ := cell3 hBX
  have hzz : w2.heap.size = wm2.heap.size + 1 := by rw [Hw2.out]; simp
  obtain ⟨wa3, hwa⟩ : ∃ q, q = w2.alloc (.cells #[.string ⟨sK.toArray⟩] 9) := ⟨_, rfl⟩
  have hba : Below w2.heap.size w2 wa3 := by rw [hwa]; exact kept_alloc _ _
  have hWa : Below w.heap.size w wa3 := HW2.out.trans (hba.mono HW2.out.size)
  have hra : Rows (fun q => q = w2.heap.size) wa3 1 (.slice (some ⟨w2.heap.size, 0, none⟩) 1 1) ([sK] : List RKey).length (([sK] : List RKey).map eS) := by rw [hwa]; exact rows_new w2 #[.string ⟨sK.toArray⟩] 9 1 rfl (by unfold maxLen; omega)
  have hU := puse_any wa3 (HTb.out _ hWa).1 (HTb.out _ hWa).2 _ _ X (((show MapV _ _ _ X from ⟨_, _, _, rfl, hMX⟩)).later hba (Nat.le_refl _)) KX.out.1.1 KX.out.1.2 KX.out.2.2.1 KX.out.2.2.2 0 _ _ [sK] hra (by decide) (by decide)
  rw [EY.out] at hU
  rw [hzz] at hU; rw [Hw2.out] at c0X c1X c2X hwa; clear hBX hMX hzz
  have HU := Lib.hid hU; have HWa3 := Lib.hid hWa; have Hla3 := Lib.hid (Hl2.out.keep hba); have Hwa3 := Lib.hid hwa
  clear hU hba hWa hra hwa
  go_wp2_with fail
  rw [← Hwa3.out]
  refine HU.out.mono ?_
  rintro e wm3 ⟨⟨r, rfl, ho, hbd⟩, hbm⟩
  obtain ⟨t1, t2, t3, rfl, ho⟩ := ho
  dsimp only at ho hbd ⊢
  obtain ⟨n13, m13, rfl⟩ := own_shape ho.seen
  obtain ⟨n23, m23, rfl⟩ := own_shape ho.items
  obtain ⟨n33, m33, rfl⟩ := own_shape ho.gone
  obtain ⟨w3, hw3⟩ : ∃ q, q = wm3.alloc (.cells #[.slice n13 Y.seen.length m13, .slice n23 Y.items.length m23, .slice n33 Y.gone.length m33] 31) := ⟨_, rfl⟩
  have hk3 : Below wm3.heap.size wm3 w3 := by rw [hw3]; exact kept_alloc _ _
  have hbw : Below wa3.heap.size wa3 w3 := hbm.trans (hk3.mono hbm.size)
  have hmb : MB w3 wm3.heap.size Y := ⟨_, _, _, _, _, _, by rw [hw3]; exact Blk.new _ _ _, (((ho.below hk3).map hbd).mono fun q _ hlt => hlt)⟩
  have Hl3 := Lib.hid (show Has ((wm3.heap.size, Y) :: [(wm2.heap.size, X)]) w3 from (Hla3.out.keep hbw).cons hmb)
  have HW3 := Lib.hid (show Below w.heap.size w w3 from HWa3.out.trans (hbw.mono HWa3.out.size))
  have Hw3 := Lib.hid hw3
  clear hk3 hbw hmb ho hbd hbm
  clear HU
  clear c0X c1X c2X
  have HN := Lib.hid (none_any w3)
  clear hw2 hw3
  go_wp2_with fail
  rw [← Hw3.out]
  refine HN.out.mono ?_
  rintro e w4 ⟨v4, rfl, rfl, hS4, hb4⟩
  clear HN
  have HN := Lib.hid (none_any w4)
  go_wp2_with fail
  refine HN.out.mono ?_
  rintro e w5 ⟨v5, rfl, rfl, hS5, hb5⟩
  clear HN
  have hS45 := hS4.keep (hb5.block _ hS4.lt)
  obtain ⟨B1, hB1⟩ : ∃ B, w3.heap.size = B := ⟨_, rfl⟩
  obtain ⟨B2, hB2⟩ : ∃ B, w4.heap.size = B := ⟨_, rfl⟩
  have h12 : B1 < B2 := by rw [← hB1, ← hB2]; exact hS4.lt
  rw [hB1] at hS45
  rw [hB2] at hS5
  have hb35 : Below B1 w3 w5 := by rw [← hB1]; exact hb4.trans (hb5.mono hb4.size)
  obtain ⟨w6, hw6⟩ : ∃ q, q = (w5.setCell ⟨B1, 0, none⟩ (.int .i64 1)).setCell ⟨B2, 0, none⟩ (.int .i64 2) := ⟨_, rfl⟩
  have hk1 : Blk w6 B1 (one8.map eI) 3 := by
    have k := (hS45.set 0 (.int .i64 1)).set_other (.int .i64 2) (a := ⟨B2, 0, none⟩) (by show B1 ≠ B2; omega)
    rw [hw6]
    exact k
  have hk2 : Blk w6 B2 (two8.map eI) 3 := by
    have k := (hS5.set_other (.int .i64 1) (a := ⟨B1, 0, none⟩) (by show B2 ≠ B1; omega)).set 0 (.int .i64 2)
    rw [hw6]
    exact k
  have hb6 : Below w3.heap.size w3 w6 := by
    rw [hw6, hB1]
    exact (hb35.setCell (p := ⟨B1, 0, none⟩) (Nat.le_refl _) _).setCell (p := ⟨B2, 0, none⟩) (by show B1 ≤ B2; omega) _
  have y1 := hS45.cell 0
  have y2 := (hS5.set_other (.int .i64 1) (a := ⟨B1, 0, none⟩) (by show B2 ≠ B1; omega)).cell 0
  have z1 := hS45.free 0
  have z2 := (hS5.set_other (.int .i64 1) (a := ⟨B1, 0, none⟩) (by show B2 ≠ B1; omega)).free 0
  simp at y1 y2
  have Hw6 := Lib.hid hw6
  have Hl6 := Lib.hid (Hl3.out.keep hb6); have HW6 := Lib.hid (HW3.out.trans (hb6.mono HW3.out.size))
  have HI6 := Lib.hid (show TwoL B1 B2 w6 from ⟨hk1, hk2⟩)
  clear hS4 hb4 hS5 hb5 hS45 hb35 hw6 hk1 hk2 hb6

  obtain ⟨s1A, e1A, s2A, e2A, s3A, e3A, hBA, hMA⟩ := Hl6.out.get wm2.heap.size X (by simp)
  obtain ⟨c0A, c1A, c2A⟩ := cell3 hBA
  have pz0 : ∀ w', LaterT w6.heap.size 31 w6.drew w' → w'.cell? _ = _ := fun w' hh => laterTC c0A rfl hh
  have pz1 : ∀ w', LaterT w6.heap.size 31 w6.drew w' → w'.cell? _ = _ := fun w' hh => laterTC c1A rfl hh
  have pz2 : ∀ w', LaterT w6.heap.size 31 w6.drew w' → w'.cell? _ = _ := fun w' hh => laterTC c2A rfl hh
  have HMA := Lib.hid hMA
  clear hBA hMA c0A c1A c2A
  go_wp2_with fail
  rw [← Hw6.out]; clear y1 y2 z1 z2 hB1 hB2 h12
  refine wp_region_fl (LaterT w6.heap.size 31) (FreshT w6.heap.size 31 3) [6] ordW3 60 (by kernel_rfl) (by kernel_rfl) (laterT_refl _ _) (laterT_trans _ _) (floats_of #[.slice none 0 0, .slice none 0 0, .slice none 0 0] rfl (Nat.le_refl _) (fun j hj => ?_) (fun i j hi hj hne => ?_)) ?_
  · obtain rfl : j = 6 := by simpa using hj
    exact ⟨_, rfl, rfl, fun a W => by go_simp⟩
  · simp at hi hj
    omega
  unfold ordW3
  repeat (refine canF_yes (v := ?_) rfl (wanted_none rfl) (fun w' hC => ?_) (fun K hK => ?_); rotate_left; (focus (go_simp; (try simp (disch := omega) only [IntWalk.i64_in]); (try simp (disch := omega) only [IntWalk.u32_in]); (try simp (disch := omega) only [IntWalk.u8_in]); (try simp (disch := omega) only [IntWalk.i64_quo]); (try simp (disch := omega) only [IntWalk.rem_in]); first | done | exact rfl)); go_simp; (try simp (disch := omega) only [IntWalk.i64_in]); (try simp (disch := omega) only [IntWalk.u32_in]); (try simp (disch := omega) only [IntWalk.u8_in]); (try simp (disch := omega) only [IntWalk.i64_quo]); (try simp (disch := omega) only [IntWalk.rem_in]); refine hK _ ?_; clear hK K)
  refine canF_go rfl rfl (fun Wa hWa KK hK => ?_)
  go_simp
  have hba := hWa.belD rfl
  refine (none_any Wa).mono ?_
  rintro e wq6 ⟨vq6, rfl, rfl, hS6, hb6⟩
  refine ⟨_, rfl, LaterT.of_later hb6, hK _ _ ?_⟩
  clear hK KK
  go_simp
  refine canF_go rfl rfl (fun Wb hWb KK hK => ?_)
  go_simp
  have hb6' : Below w6.heap.size w6 wq6 := hba.trans (hb6.mono hba.size)
  have hbb : Below w6.heap.size w6 Wb := hb6'.trans (hWb.below hb6'.size)
  have hwb : Below w.heap.size w Wb := HW6.out.trans (hbb.mono HW6.out.size)
  have hN := rowsN8 (hWb.blk hS6 (by decide)) rfl
  have hU := since_any Wb (HTb.out _ hwb).1 (HTb.out _ hwb).2 _ _ (.agg #[.slice s1A X.seen.length e1A, .slice s2A X.items.length e2A, .slice s3A X.gone.length e3A]) X ⟨_, _, _, rfl, HMA.out.keep (w' := Wb) fun q hq _ => hbb.block q hq⟩ KX.out.1.1 KX.out.1.2 (.slice (some ⟨Wa.heap.size, 0, none⟩) 8 8) no8 hN
  rw [E1.out] at hU
  refine hU.mono ?_
  rintro e wq7 ⟨⟨r1, rfl, ho, hbd⟩, hb7⟩
  refine ⟨_, rfl, LaterT.of_later hb7, hK _ _ ?_⟩
  clear hK KK hU pz0 pz1 pz2
  go_simp
  obtain ⟨t1, t2, t3, rfl, ho⟩ := ho
  dsimp only at ho hbd
  obtain ⟨n1, m1, rfl⟩ := own_shape ho.seen
  obtain ⟨n2, m2, rfl⟩ := own_shape ho.items
  obtain ⟨n3, m3, rfl⟩ := own_shape ho.gone
  have hb07 : Below w6.heap.size w6 wq7 := hbb.trans (hb7.mono hbb.size)
  have Hb07 := Lib.hid hb07; have Ho := Lib.hid ho; have Hbd := Lib.hid hbd
  clear hb07 ho hbd hb7 hN hwb hbb hb6' hb6 hS6 hba hWa hWb
  repeat (refine canF_yes (v := ?_) rfl (wanted_none rfl) (fun w' hC => ?_) (fun K hK => ?_); rotate_left; (focus (go_simp; (try simp (disch := omega) only [IntWalk.i64_in]); (try simp (disch := omega) only [IntWalk.u32_in]); (try simp (disch := omega) only [IntWalk.u8_in]); (try simp (disch := omega) only [IntWalk.i64_quo]); (try simp (disch := omega) only [IntWalk.rem_in]); first | done | exact rfl)); go_simp; (try simp (disch := omega) only [IntWalk.i64_in]); (try simp (disch := omega) only [IntWalk.u32_in]); (try simp (disch := omega) only [IntWalk.u8_in]); (try simp (disch := omega) only [IntWalk.i64_quo]); (try simp (disch := omega) only [IntWalk.rem_in]); refine hK _ ?_; clear hK K)
  refine canF_float rfl (fun vO Wd hWd hZ hU KK hK => ?_)
  obtain ⟨Oa, LO, rfl, hO1, hO2, hO3⟩ := hZ
  refine hK _ _ ?_
  clear hK KK hU
  go_simp
  obtain ⟨x0, x1, x2, rfl⟩ : ∃ x0 x1 x2, LO = [x0, x1, x2] := by
    match LO, hO3 with
    | [x0, x1, x2], _ => exact ⟨x0, x1, x2, rfl⟩
  have hbd' : Below w6.heap.size w6 Wd := Hb07.out.trans (hWd.below Hb07.out.size)
  obtain ⟨w7, hw8, hblk8, hb8⟩ := fin3 hO2 hbd' hO1 (.slice n1 X.seen.length m1) (.slice n2 X.items.length m2) (.slice n3 X.gone.length m3)
  have hl8 : LaterT w6.heap.size 31 Wd w7 := by
    rw [hw8]
    exact laterT_trans _ _ _ _ _ (laterT_trans _ _ _ _ _ (LaterT.set hO2 hO1 0 _) (LaterT.set (hO2.set 0 _) hO1 1 _)) (LaterT.set ((hO2.set 0 _).set 1 _) hO1 2 _)
  have ho8 : OwnIn w7 0 (.slice n1 X.seen.length m1) (.slice n2 X.items.length m2) (.slice n3 X.gone.length m3) X :=
    ⟨own_base (hl8.own (hWd.own Ho.out.seen (by decide)) (by decide)) (Nat.zero_le _), own_base (hl8.own (hWd.own Ho.out.items (by decide)) (by decide)) (Nat.zero_le _), own_base (hl8.own (hWd.own Ho.out.gone (by decide)) (by decide)) (Nat.zero_le _)⟩
  have hmb : MB w7 Oa X := ⟨_, _, _, _, _, _, hblk8, (ho8.map Hbd.out).mono fun q _ hlt => hlt⟩
  obtain ⟨y0, y1, y2⟩ := cell3 hO2
  have z0 := hO2.free 0
  have z1 := hO2.free 1
  have z2 := hO2.free 2
  have HMBOa := Lib.hid hmb; have HBw7 := Lib.hid hb8; have Hl8 := Lib.hid hl8; have Hw8 := Lib.hid hw8
  clear hmb hb8 hl8 hw8 hblk8 hbd' hWd hO2 hO3 Ho Hbd Hb07 ho8
  refine canF_fixed rfl rfl (fun KK hK => ?_)
  go_simp
  rw [← Hw8.out]
  refine ⟨Hl8.out, hK _ _ ?_⟩
  clear hK KK y0 y1 y2 z0 z1 z2 Hl8 Hw8 hO1
  go_simp
  repeat (refine canF_yes (v := ?_) rfl (wanted_none rfl) (fun w' hC => ?_) (fun K hK => ?_); rotate_left; (focus (go_simp; (try simp (disch := omega) only [IntWalk.i64_in]); (try simp (disch := omega) only [IntWalk.u32_in]); (try simp (disch := omega) only [IntWalk.u8_in]); (try simp (disch := omega) only [IntWalk.i64_quo]); (try simp (disch := omega) only [IntWalk.rem_in]); first | done | exact rfl)); go_simp; (try simp (disch := omega) only [IntWalk.i64_in]); (try simp (disch := omega) only [IntWalk.u32_in]); (try simp (disch := omega) only [IntWalk.u8_in]); (try simp (disch := omega) only [IntWalk.i64_quo]); (try simp (disch := omega) only [IntWalk.rem_in]); refine hK _ ?_; clear hK K)
  refine canF_nil ?_
  have Hl7 := Lib.hid (show Has ((Oa, X) :: [(wm3.heap.size, Y), (wm2.heap.size, X)]) w7 from (Hl6.out.keep HBw7.out).cons HMBOa.out)
  have HW7 := Lib.hid (show Below w.heap.size w w7 from HW6.out.trans (HBw7.out.mono HW6.out.size))
  clear HMA
  have HI7 := Lib.hid (HI6.out.keep HBw7.out)
  obtain ⟨s1X, e1X, s2X, e2X, s3X, e3X, hBX, hMX⟩ := Hl7.out.get wm3.heap.size Y (by simp)
  obtain ⟨c0X, c1X, c2X⟩ := cell3 hBX
  have hU := since_any w7 (HTb.out _ HW7.out).1 (HTb.out _ HW7.out).2 _ _ (.agg #[.slice s1X Y.seen.length e1X, .slice s2X Y.items.length e2X, .slice s3X Y.gone.length e3X]) Y ⟨_, _, _, rfl, hMX⟩ KY.out.1.1 KY.out.1.2 (.slice (some ⟨B1, 0, none⟩) 8 8) one8 (rowsN8 HI7.out.1 rfl)
  rw [E2.out] at hU
  skip
  have HU := Lib.hid hU
  clear hU hBX hMX
  go_wp2_with fail
  skip
  refine HU.out.mono ?_
  rintro e wm8 ⟨⟨r, rfl, ho, hbd⟩, hbm⟩
  obtain ⟨t1, t2, t3, rfl, ho⟩ := ho
  dsimp only at ho hbd ⊢
  obtain ⟨n18, m18, rfl⟩ := own_shape ho.seen
  obtain ⟨n28, m28, rfl⟩ := own_shape ho.items
  obtain ⟨n38, m38, rfl⟩ := own_shape ho.gone
  obtain ⟨w8, hw8⟩ : ∃ q, q = wm8.alloc (.cells #[.slice n18 Y.seen.length m18, .slice n28 Y.items.length m28, .slice n38 Y.gone.length m38] 31) := ⟨_, rfl⟩
  have hk8 : Below wm8.heap.size wm8 w8 := by rw [hw8]; exact kept_alloc _ _
  have hbw : Below w7.heap.size w7 w8 := hbm.trans (hk8.mono hbm.size)
  have hmb : MB w8 wm8.heap.size Y := ⟨_, _, _, _, _, _, by rw [hw8]; exact Blk.new _ _ _, (((ho.below hk8).map hbd).mono fun q _ hlt => hlt)⟩
  have Hl8 := Lib.hid (show Has ((wm8.heap.size, Y) :: [(Oa, X), (wm3.heap.size, Y), (wm2.heap.size, X)]) w8 from (Hl7.out.keep hbw).cons hmb)
  have HW8 := Lib.hid (show Below w.heap.size w w8 from HW7.out.trans (hbw.mono HW7.out.size))
  have Hw8 := Lib.hid hw8
  have HI8 := Lib.hid (HI7.out.keep hbw)
  clear hk8 hbw hmb ho hbd hbm
  clear HU c0X c1X c2X
  clear hw8
  obtain ⟨s1X, e1X, s2X, e2X, s3X, e3X, hBX, hMX⟩ := Hl8.out.get wm3.heap.size Y (by simp)
  obtain ⟨c0X, c1X, c2X⟩ := cell3 hBX
  have hU := since_any w8 (HTb.out _ HW8.out).1 (HTb.out _ HW8.out).2 _ _ (.agg #[.slice s1X Y.seen.length e1X, .slice s2X Y.items.length e2X, .slice s3X Y.gone.length e3X]) Y ⟨_, _, _, rfl, hMX⟩ KY.out.1.1 KY.out.1.2 (.slice (some ⟨B2, 0, none⟩) 8 8) two8 (rowsN8 HI8.out.2 rfl)
  rw [E3.out] at hU
  rw [Hw8.out] at c0X c1X c2X
  have HU := Lib.hid hU
  clear hU hBX hMX
  go_wp2_with fail
  rw [← Hw8.out]
  refine HU.out.mono ?_
  rintro e wm9 ⟨⟨r, rfl, ho, hbd⟩, hbm⟩
  obtain ⟨t1, t2, t3, rfl, ho⟩ := ho
  dsimp only at ho hbd ⊢
  obtain ⟨n19, m19, rfl⟩ := own_shape ho.seen
  obtain ⟨n29, m29, rfl⟩ := own_shape ho.items
  obtain ⟨n39, m39, rfl⟩ := own_shape ho.gone
  obtain ⟨w9, hw9⟩ : ∃ q, q = wm9.alloc (.cells #[.slice n19 E.seen.length m19, .slice n29 E.items.length m29, .slice n39 E.gone.length m39] 31) := ⟨_, rfl⟩
  have hk9 : Below wm9.heap.size wm9 w9 := by rw [hw9]; exact kept_alloc _ _
  have hbw : Below w8.heap.size w8 w9 := hbm.trans (hk9.mono hbm.size)
  have hmb : MB w9 wm9.heap.size E := ⟨_, _, _, _, _, _, by rw [hw9]; exact Blk.new _ _ _, (((ho.below hk9).map hbd).mono fun q _ hlt => hlt)⟩
  have Hl9 := Lib.hid (show Has ((wm9.heap.size, E) :: [(wm8.heap.size, Y), (Oa, X), (wm3.heap.size, Y), (wm2.heap.size, X)]) w9 from (Hl8.out.keep hbw).cons hmb)
  have HW9 := Lib.hid (show Below w.heap.size w w9 from HW8.out.trans (hbw.mono HW8.out.size))
  have Hw9 := Lib.hid hw9
  have HI9 := Lib.hid (HI8.out.keep hbw)
  clear hk9 hbw hmb ho hbd hbm
  clear HU c0X c1X c2X
  clear hw9
  obtain ⟨s1Y, e1Y, s2Y, e2Y, s3Y, e3Y, hBY, hMY⟩ := Hl9.out.get wm3.heap.size Y (by simp)
  obtain ⟨c0Y, c1Y, c2Y⟩ := cell3 hBY
  have HT := Lib.hid (taken_any w9 _ (.agg #[.slice s1Y Y.seen.length e1Y, .slice s2Y Y.items.length e2Y, .slice s3Y Y.gone.length e3Y]) Y ⟨_, _, _, rfl, hMY⟩ KY.out.2.1 KY.out.2.2.1 KY.out.2.2.2)
  rw [Hw9.out] at c0Y c1Y c2Y
  clear hBY hMY
  go_wp2_with fail
  rw [← Hw9.out]
  refine HT.out.mono ?_
  rintro e wm10 ⟨v10, rfl, hv10, hb10⟩
  clear HT c0Y c1Y c2Y
  obtain ⟨u1, u2, u3, rfl, hm10⟩ := hv10
  obtain ⟨n1t, m1t, rfl, -⟩ := hm10.seen.shape
  obtain ⟨n2t, m2t, rfl, -⟩ := hm10.items.shape
  obtain ⟨n3t, m3t, rfl, -⟩ := hm10.gone.shape
  obtain ⟨w11, hw11⟩ : ∃ q, q = wm10.alloc (.cells #[.slice n1t Y.seen.length m1t, .slice none 0 0, .slice n3t Y.gone.length m3t] 26) := ⟨_, rfl⟩
  have kt11 : Blk w11 wm10.heap.size [.slice n1t Y.seen.length m1t, .slice none 0 0, .slice n3t Y.gone.length m3t] 26 := by rw [hw11]; exact Blk.new _ _ _
  have hbs : Below wm10.heap.size wm10 w11 := by rw [hw11]; exact kept_alloc _ _
  have hb11 : Below w9.heap.size w9 w11 := hb10.trans (hbs.mono hb10.size)
  have hmE : MapIn (fun q => q < w11.heap.size) w11 (.slice n1t Y.seen.length m1t) (.slice none 0 0) (.slice n3t Y.gone.length m3t) E := by
    have hk := (hm10.keep (w' := w11) fun q _ hlt => hbs.block q hlt).mono (G := fun q => q < w11.heap.size) fun q _ hlt => hlt
    obtain ⟨e1, e2, e3⟩ := HEq.out
    refine ⟨?_, ?_, ?_, ?_, ?_, ?_⟩
    · rw [e1]; exact hk.seen
    · rw [e2]; exact Rows.nil _ _ _
    · rw [e3]; exact hk.gone
    · rw [e1]; exact hk.seenB
    · rw [e2]; exact nofun
    · rw [e3]; exact hk.goneB
  have Hw11 := Lib.hid hw11
  have Hl11 := Lib.hid (Hl9.out.keep hb11); have HW11 := Lib.hid (HW9.out.trans (hb11.mono HW9.out.size)); have HI11 := Lib.hid (HI9.out.keep hb11)
  have Kt11 := Lib.hid kt11; have HmE := Lib.hid hmE
  clear hw11 kt11 hbs hb11 hmE hm10 hb10
  obtain ⟨s1X, e1X, s2X, e2X, s3X, e3X, hBX, hMX⟩ := Hl11.out.get Oa X (by simp)
  obtain ⟨c0X, c1X, c2X⟩ := cell3 hBX
  obtain ⟨s1Y, e1Y, s2Y, e2Y, s3Y, e3Y, hBY, hMY⟩ := Hl11.out.get wm2.heap.size X (by simp)
  obtain ⟨c0Y, c1Y, c2Y⟩ := cell3 hBY
  have HE := Lib.hid (equal_any w11 _ _ (.agg #[.slice s1X X.seen.length e1X, .slice s2X X.items.length e2X, .slice s3X X.gone.length e3X]) (.agg #[.slice s1Y X.seen.length e1Y, .slice s2Y X.items.length e2Y, .slice s3Y X.gone.length e3Y]) X X ⟨_, _, _, rfl, hMX⟩ ⟨_, _, _, rfl, hMY⟩ KX.out.2.1 KX.out.2.2.1 KX.out.2.2.2 KX.out.2.1 KX.out.2.2.1 KX.out.2.2.2)
  rw [Hw11.out] at c0X c1X c2X c0Y c1Y c2Y
  clear hBX hMX hBY hMY
  go_wp2_with fail
  rw [← Hw11.out]
  refine HE.out.mono ?_
  rintro e w12 ⟨r, rfl, hr, hb⟩
  obtain rfl : r = true := hr.2 rfl
  have Hl12 := Lib.hid (Hl11.out.keep hb); have HW12 := Lib.hid (show Below w.heap.size w w12 from HW11.out.trans (hb.mono HW11.out.size))
  have HBe12 := Lib.hid hb
  clear HE hr hb c0X c1X c2X c0Y c1Y c2Y
  obtain ⟨s1X, e1X, s2X, e2X, s3X, e3X, hBX, hMX⟩ := Hl12.out.get wm8.heap.size Y (by simp)
  obtain ⟨c0X, c1X, c2X⟩ := cell3 hBX
  obtain ⟨s1Y, e1Y, s2Y, e2Y, s3Y, e3Y, hBY, hMY⟩ := Hl12.out.get wm3.heap.size Y (by simp)
  obtain ⟨c0Y, c1Y, c2Y⟩ := cell3 hBY
  have HE := Lib.hid (equal_any w12 _ _ (.agg #[.slice s1X Y.seen.length e1X, .slice s2X Y.items.length e2X, .slice s3X Y.gone.length e3X]) (.agg #[.slice s1Y Y.seen.length e1Y, .slice s2Y Y.items.length e2Y, .slice s3Y Y.gone.length e3Y]) Y Y ⟨_, _, _, rfl, hMX⟩ ⟨_, _, _, rfl, hMY⟩ KY.out.2.1 KY.out.2.2.1 KY.out.2.2.2 KY.out.2.1 KY.out.2.2.1 KY.out.2.2.2)
  skip
  clear hBX hMX hBY hMY
  go_wp2_with fail
  skip
  refine HE.out.mono ?_
  rintro e w13 ⟨r, rfl, hr, hb⟩
  obtain rfl : r = true := hr.2 rfl
  have Hl13 := Lib.hid (Hl12.out.keep hb); have HW13 := Lib.hid (show Below w.heap.size w w13 from HW12.out.trans (hb.mono HW12.out.size))
  have HBe13 := Lib.hid hb
  clear HE hr hb c0X c1X c2X c0Y c1Y c2Y
  have h1113 := HBe12.out.trans (HBe13.out.mono HBe12.out.size)
  have kt13 := Kt11.out.keep (h1113.block _ Kt11.out.lt)
  obtain ⟨s1X, e1X, s2X, e2X, s3X, e3X, hBX, hMX⟩ := Hl13.out.get wm9.heap.size E (by simp)
  obtain ⟨c0X, c1X, c2X⟩ := cell3 hBX
  have HS := Lib.hid (same_any w13 _ _ (.agg #[.slice s1X E.seen.length e1X, .slice s2X E.items.length e2X, .slice s3X E.gone.length e3X]) (.agg #[.slice n1t Y.seen.length m1t, .slice none 0 0, .slice n3t Y.gone.length m3t]) E E ⟨_, _, _, rfl, hMX⟩ ⟨_, _, _, rfl, HmE.out.keep (w' := w13) fun q hq _ => h1113.block q hq⟩ KE.out.2.1 KE.out.2.2.1 KE.out.2.2.2)
  obtain ⟨t0, t1, t2⟩ := cell3 kt13
  have HI13 := Lib.hid (HI11.out.keep h1113)
  clear hBX hMX h1113 kt13
  go_wp2_with fail
  refine HS.out.mono ?_
  rintro e w14 ⟨r, rfl, hr, hb14⟩
  obtain rfl : r = true := hr.2 rfl
  have Hl14 := Lib.hid (Hl13.out.keep hb14); have HW14 := Lib.hid (HW13.out.trans (hb14.mono HW13.out.size)); have HI14 := Lib.hid (HI13.out.keep hb14)
  have Hs14 := Lib.hid (HasS.nil w14)
  clear HS hr hb14 c0X c1X c2X t0 t1 t2
  obtain ⟨s1A, e1A, s2A, e2A, s3A, e3A, hBA, hMA⟩ := Hl14.out.get wm2.heap.size X (by simp)
  obtain ⟨c0A, c1A, c2A⟩ := cell3 hBA
  have pz0 : ∀ w', LaterT w14.heap.size 39 w14.drew w' → w'.cell? _ = _ := fun w' hh => laterTC c0A rfl hh
  have pz1 : ∀ w', LaterT w14.heap.size 39 w14.drew w' → w'.cell? _ = _ := fun w' hh => laterTC c1A rfl hh
  have pz2 : ∀ w', LaterT w14.heap.size 39 w14.drew w' → w'.cell? _ = _ := fun w' hh => laterTC c2A rfl hh
  have HMA := Lib.hid hMA
  clear hBA hMA c0A c1A c2A
  go_wp2_with fail
  skip
  refine wp_region_fl (LaterT w14.heap.size 39) (FreshT w14.heap.size 39 5) [6] ordW3 60 (by kernel_rfl) (by kernel_rfl) (laterT_refl _ _) (laterT_trans _ _) (floats_of #[.int .i64 0, .slice none 0 0, .slice none 0 0, .slice none 0 0, .slice none 0 0] rfl (Nat.le_refl _) (fun j hj => ?_) (fun i j hi hj hne => ?_)) ?_
  · obtain rfl : j = 6 := by simpa using hj
    exact ⟨_, rfl, rfl, fun a W => by go_simp⟩
  · simp at hi hj
    omega
  unfold ordW3
  repeat (refine canF_yes (v := ?_) rfl (wanted_none rfl) (fun w' hC => ?_) (fun K hK => ?_); rotate_left; (focus (go_simp; (try simp (disch := omega) only [IntWalk.i64_in]); (try simp (disch := omega) only [IntWalk.u32_in]); (try simp (disch := omega) only [IntWalk.u8_in]); (try simp (disch := omega) only [IntWalk.i64_quo]); (try simp (disch := omega) only [IntWalk.rem_in]); first | done | exact rfl)); go_simp; (try simp (disch := omega) only [IntWalk.i64_in]); (try simp (disch := omega) only [IntWalk.u32_in]); (try simp (disch := omega) only [IntWalk.u8_in]); (try simp (disch := omega) only [IntWalk.i64_quo]); (try simp (disch := omega) only [IntWalk.rem_in]); refine hK _ ?_; clear hK K)
  refine canF_go rfl rfl (fun Wa hWa KK hK => ?_)
  go_simp
  have hba := hWa.belD rfl
  refine (none_any Wa).mono ?_
  rintro e wq6 ⟨vq6, rfl, rfl, hS6, hb6⟩
  refine ⟨_, rfl, LaterT.of_later hb6, hK _ _ ?_⟩
  clear hK KK
  go_simp
  refine canF_go rfl rfl (fun Wb hWb KK hK => ?_)
  go_simp
  have hb6' : Below w14.heap.size w14 wq6 := hba.trans (hb6.mono hba.size)
  have hbb : Below w14.heap.size w14 Wb := hb6'.trans (hWb.below hb6'.size)
  have hwb : Below w.heap.size w Wb := HW14.out.trans (hbb.mono HW14.out.size)
  have hN := rowsN8 (hWb.blk hS6 (by decide)) rfl
  have hU := send_any Wb (HTb.out _ hwb).1 (HTb.out _ hwb).2 _ _ 8 (.agg #[.slice s1A X.seen.length e1A, .slice s2A X.items.length e2A, .slice s3A X.gone.length e3A]) X ⟨_, _, _, rfl, HMA.out.keep (w' := Wb) fun q hq _ => hbb.block q hq⟩ KX.out.1.1 KX.out.1.2 (.slice (some ⟨Wa.heap.size, 0, none⟩) 8 8) no8 hN
  rw [K1.out] at hU
  refine hU.mono ?_
  rintro e wq7 ⟨⟨r1, rfl, ho, hbd⟩, hb7⟩
  refine ⟨_, rfl, LaterT.of_later hb7, hK _ _ ?_⟩
  clear hK KK hU pz0 pz1 pz2
  go_simp
  obtain ⟨t0, t1, t2, t3, rfl, ho⟩ := ho
  dsimp only at ho hbd
  obtain ⟨n0, m0, rfl⟩ := own_shape ho.seen
  obtain ⟨n1, m1, rfl⟩ := own_shape ho.tell.seen
  obtain ⟨n2, m2, rfl⟩ := own_shape ho.tell.items
  obtain ⟨n3, m3, rfl⟩ := own_shape ho.tell.gone
  have hb07 : Below w14.heap.size w14 wq7 := hbb.trans (hb7.mono hbb.size)
  have Hb07 := Lib.hid hb07; have Ho := Lib.hid ho; have Hbd := Lib.hid hbd
  clear hb07 ho hbd hb7 hN hwb hbb hb6' hb6 hS6 hba hWa hWb
  repeat (refine canF_yes (v := ?_) rfl (wanted_none rfl) (fun w' hC => ?_) (fun K hK => ?_); rotate_left; (focus (go_simp; (try simp (disch := omega) only [IntWalk.i64_in]); (try simp (disch := omega) only [IntWalk.u32_in]); (try simp (disch := omega) only [IntWalk.u8_in]); (try simp (disch := omega) only [IntWalk.i64_quo]); (try simp (disch := omega) only [IntWalk.rem_in]); first | done | exact rfl)); go_simp; (try simp (disch := omega) only [IntWalk.i64_in]); (try simp (disch := omega) only [IntWalk.u32_in]); (try simp (disch := omega) only [IntWalk.u8_in]); (try simp (disch := omega) only [IntWalk.i64_quo]); (try simp (disch := omega) only [IntWalk.rem_in]); refine hK _ ?_; clear hK K)
  refine canF_float rfl (fun vO Wd hWd hZ hU KK hK => ?_)
  obtain ⟨Om, LO, rfl, hO1, hO2, hO3⟩ := hZ
  refine hK _ _ ?_
  clear hK KK hU
  go_simp
  obtain ⟨x0, x1, x2, x3, x4, rfl⟩ : ∃ x0 x1 x2 x3 x4, LO = [x0, x1, x2, x3, x4] := by
    match LO, hO3 with
    | [x0, x1, x2, x3, x4], _ => exact ⟨x0, x1, x2, x3, x4, rfl⟩
  have hbd' : Below w14.heap.size w14 Wd := Hb07.out.trans (hWd.below Hb07.out.size)
  obtain ⟨w15, hw8, hblk8, hb8⟩ := fin5 hO2 hbd' hO1 (.int .i64 SMsg.empty.frm) (.slice n0 SMsg.empty.seen.length m0) (.slice n1 SMsg.empty.tell.seen.length m1) (.slice n2 SMsg.empty.tell.items.length m2) (.slice n3 SMsg.empty.tell.gone.length m3)
  have hl8 : LaterT w14.heap.size 39 Wd w15 := by
    rw [hw8]
    exact laterT_trans _ _ _ _ _ (laterT_trans _ _ _ _ _ (laterT_trans _ _ _ _ _ (laterT_trans _ _ _ _ _ (LaterT.set hO2 hO1 0 _) (LaterT.set (hO2.set 0 _) hO1 1 _)) (LaterT.set ((hO2.set 0 _).set 1 _) hO1 2 _)) (LaterT.set (((hO2.set 0 _).set 1 _).set 2 _) hO1 3 _)) (LaterT.set ((((hO2.set 0 _).set 1 _).set 2 _).set 3 _) hO1 4 _)
  have ho8 : OwnMsg w15 0 (.slice n0 SMsg.empty.seen.length m0) (.slice n1 SMsg.empty.tell.seen.length m1) (.slice n2 SMsg.empty.tell.items.length m2) (.slice n3 SMsg.empty.tell.gone.length m3) SMsg.empty :=
    ⟨own_base (hl8.own (hWd.own Ho.out.seen (by decide)) (by decide)) (Nat.zero_le _), own_base (hl8.own (hWd.own Ho.out.tell.seen (by decide)) (by decide)) (Nat.zero_le _), own_base (hl8.own (hWd.own Ho.out.tell.items (by decide)) (by decide)) (Nat.zero_le _), own_base (hl8.own (hWd.own Ho.out.tell.gone (by decide)) (by decide)) (Nat.zero_le _)⟩
  have hmb : MBS w15 Om SMsg.empty := ⟨_, _, _, _, _, _, _, _, hblk8, (ho8.msg Hbd.out).mono fun q _ hlt => hlt⟩
  obtain ⟨y0, y1, y2, y3, y4⟩ := cell5 hO2
  have z0 := hO2.free 0
  have z1 := hO2.free 1
  have z2 := hO2.free 2
  have z3 := hO2.free 3
  have z4 := hO2.free 4
  have HMBOm := Lib.hid hmb; have HBw15 := Lib.hid hb8; have Hl8 := Lib.hid hl8; have Hw8 := Lib.hid hw8
  clear hmb hb8 hl8 hw8 hblk8 hbd' hWd hO2 hO3 Ho Hbd Hb07 ho8
  refine canF_fixed rfl rfl (fun KK hK => ?_)
  go_simp
  rw [← Hw8.out]
  refine ⟨Hl8.out, hK _ _ ?_⟩
  clear hK KK y0 y1 y2 y3 y4 z0 z1 z2 z3 z4 Hl8 Hw8 hO1
  go_simp
  repeat (refine canF_yes (v := ?_) rfl (wanted_none rfl) (fun w' hC => ?_) (fun K hK => ?_); rotate_left; (focus (go_simp; (try simp (disch := omega) only [IntWalk.i64_in]); (try simp (disch := omega) only [IntWalk.u32_in]); (try simp (disch := omega) only [IntWalk.u8_in]); (try simp (disch := omega) only [IntWalk.i64_quo]); (try simp (disch := omega) only [IntWalk.rem_in]); first | done | exact rfl)); go_simp; (try simp (disch := omega) only [IntWalk.i64_in]); (try simp (disch := omega) only [IntWalk.u32_in]); (try simp (disch := omega) only [IntWalk.u8_in]); (try simp (disch := omega) only [IntWalk.i64_quo]); (try simp (disch := omega) only [IntWalk.rem_in]); refine hK _ ?_; clear hK K)
  refine canF_nil ?_
  have Hl15 := Lib.hid (Hl14.out.keep HBw15.out)
  have Hs15 := Lib.hid (show HasS ((Om, SMsg.empty) :: []) w15 from (Hs14.out.keep HBw15.out).cons HMBOm.out)
  have HW15 := Lib.hid (show Below w.heap.size w w15 from HW14.out.trans (HBw15.out.mono HW14.out.size))
  clear HMA
  have HI15 := Lib.hid (HI14.out.keep HBw15.out)
  have hU := send_any w15 (HTb.out _ HW15.out).1 (HTb.out _ HW15.out).2 (fun q => 0 ≤ q) (fun _ => True) (-1) nilV .empty ((own_nil w15 0).map bnd_empty) nofun nofun (.slice none 0 0) [] (Rows.nil _ _ _)
  rw [sh_k2] at hU
  have HU := Lib.hid hU
  clear hU
  go_wp2_with fail
  refine HU.out.mono ?_
  rintro e wm16 ⟨⟨r, rfl, ho, hbd⟩, hbm⟩
  obtain ⟨t0, t1, t2, t3, rfl, ho⟩ := ho
  dsimp only at ho hbd ⊢
  obtain ⟨n016, m016, rfl⟩ := own_shape ho.seen
  obtain ⟨n116, m116, rfl⟩ := own_shape ho.tell.seen
  obtain ⟨n216, m216, rfl⟩ := own_shape ho.tell.items
  obtain ⟨n316, m316, rfl⟩ := own_shape ho.tell.gone
  obtain ⟨w16, hw16⟩ : ∃ q, q = wm16.alloc (.cells #[.int .i64 SMsg.empty.frm, .slice n016 SMsg.empty.seen.length m016, .slice n116 SMsg.empty.tell.seen.length m116, .slice n216 SMsg.empty.tell.items.length m216, .slice n316 SMsg.empty.tell.gone.length m316] 39) := ⟨_, rfl⟩
  have hk16 : Below wm16.heap.size wm16 w16 := by rw [hw16]; exact kept_alloc _ _
  have hbw : Below w15.heap.size w15 w16 := hbm.trans (hk16.mono hbm.size)
  have hmb : MBS w16 wm16.heap.size SMsg.empty := ⟨_, _, _, _, _, _, _, _, by rw [hw16]; exact Blk.new _ _ _, (((ho.below hk16).msg hbd).mono fun q _ hlt => hlt)⟩
  have Hl16 := Lib.hid (Hl15.out.keep hbw)
  have Hs16 := Lib.hid (show HasS ((wm16.heap.size, SMsg.empty) :: [(Om, SMsg.empty)]) w16 from (Hs15.out.keep hbw).cons hmb)
  have HW16 := Lib.hid (show Below w.heap.size w w16 from HW15.out.trans (hbw.mono HW15.out.size))
  have Hw16 := Lib.hid hw16
  have HI16 := Lib.hid (HI15.out.keep hbw)
  clear hk16 hbw hmb ho hbd hbm hw16
  clear HU
  have Hs16' := Lib.hid (HasS.nil w16)
  obtain ⟨s1A, e1A, s2A, e2A, s3A, e3A, hBA, hMA⟩ := Hl16.out.get wm2.heap.size X (by simp)
  obtain ⟨c0A, c1A, c2A⟩ := cell3 hBA
  have pz0 : ∀ w', LaterT w16.heap.size 39 w16.drew w' → w'.cell? _ = _ := fun w' hh => laterTC c0A rfl hh
  have pz1 : ∀ w', LaterT w16.heap.size 39 w16.drew w' → w'.cell? _ = _ := fun w' hh => laterTC c1A rfl hh
  have pz2 : ∀ w', LaterT w16.heap.size 39 w16.drew w' → w'.cell? _ = _ := fun w' hh => laterTC c2A rfl hh
  have HMA := Lib.hid hMA
  clear hBA hMA c0A c1A c2A
  go_wp2_with fail
  rw [← Hw16.out]
  refine wp_region_fl (LaterT w16.heap.size 39) (FreshT w16.heap.size 39 5) [6] ordW3 60 (by kernel_rfl) (by kernel_rfl) (laterT_refl _ _) (laterT_trans _ _) (floats_of #[.int .i64 0, .slice none 0 0, .slice none 0 0, .slice none 0 0, .slice none 0 0] rfl (Nat.le_refl _) (fun j hj => ?_) (fun i j hi hj hne => ?_)) ?_
  · obtain rfl : j = 6 := by simpa using hj
    exact ⟨_, rfl, rfl, fun a W => by go_simp⟩
  · simp at hi hj
    omega
  unfold ordW3
  repeat (refine canF_yes (v := ?_) rfl (wanted_none rfl) (fun w' hC => ?_) (fun K hK => ?_); rotate_left; (focus (go_simp; (try simp (disch := omega) only [IntWalk.i64_in]); (try simp (disch := omega) only [IntWalk.u32_in]); (try simp (disch := omega) only [IntWalk.u8_in]); (try simp (disch := omega) only [IntWalk.i64_quo]); (try simp (disch := omega) only [IntWalk.rem_in]); first | done | exact rfl)); go_simp; (try simp (disch := omega) only [IntWalk.i64_in]); (try simp (disch := omega) only [IntWalk.u32_in]); (try simp (disch := omega) only [IntWalk.u8_in]); (try simp (disch := omega) only [IntWalk.i64_quo]); (try simp (disch := omega) only [IntWalk.rem_in]); refine hK _ ?_; clear hK K)
  refine canF_go rfl rfl (fun Wa hWa KK hK => ?_)
  have hba := hWa.belD rfl
  obtain ⟨i0, q1, q2, q3, q4⟩ := info_parts infoI
  obtain ⟨wq6, hmk, hownk, hgbk⟩ := run_make_full (P := Tryz.prog) Wa Wa.heap.size 22 3 i0 _ 1 Tryz.underlying22 q1 q2 q3 .i64 .i64 7 (by rw [q4]; omega) (by unfold maxLen; omega) (Nat.le_refl _)
  have hmk' : (MK 22 (.int .i64 7) (.int .i64 7)).run Tryz.prog Wa = .ok (.slice (some ⟨Wa.heap.size, 0, none⟩) 7 7) wq6 := hmk
  have hb6 : Below Wa.heap.size Wa wq6 := (Below.refl Wa.heap.size Wa).grown hgbk (Nat.le_refl _) (by simp)
  rw [made7] at hownk
  have ho6 : wq6.ownsRow Wa.heap.size 3 1 (.slice (some ⟨Wa.heap.size, 0, none⟩) 7 7) 7 (no7.map eI) := hownk
  clear q1 q2 q3 q4 hmk hownk hgbk
  go_simp
  refine ⟨LaterT.of_later hb6, hK _ _ ?_⟩
  clear hK KK hmk'
  go_simp
  refine canF_go rfl rfl (fun Wb hWb KK hK => ?_)
  go_simp
  have hb6' : Below w16.heap.size w16 wq6 := hba.trans (hb6.mono hba.size)
  have hbb : Below w16.heap.size w16 Wb := hb6'.trans (hWb.below hb6'.size)
  have hwb : Below w.heap.size w Wb := HW16.out.trans (hbb.mono HW16.out.size)
  have hN := Rows.of_owns (hWb.own ho6 (by decide))
  have hU := send_any Wb (HTb.out _ hwb).1 (HTb.out _ hwb).2 _ _ 0 (.agg #[.slice s1A X.seen.length e1A, .slice s2A X.items.length e2A, .slice s3A X.gone.length e3A]) X ⟨_, _, _, rfl, HMA.out.keep (w' := Wb) fun q hq _ => hbb.block q hq⟩ KX.out.1.1 KX.out.1.2 (.slice (some ⟨Wa.heap.size, 0, none⟩) 7 7) no7 hN
  rw [K3.out] at hU
  refine hU.mono ?_
  rintro e wq7 ⟨⟨r1, rfl, ho, hbd⟩, hb7⟩
  refine ⟨_, rfl, LaterT.of_later hb7, hK _ _ ?_⟩
  clear hK KK hU pz0 pz1 pz2
  go_simp
  obtain ⟨t0, t1, t2, t3, rfl, ho⟩ := ho
  dsimp only at ho hbd
  obtain ⟨n0, m0, rfl⟩ := own_shape ho.seen
  obtain ⟨n1, m1, rfl⟩ := own_shape ho.tell.seen
  obtain ⟨n2, m2, rfl⟩ := own_shape ho.tell.items
  obtain ⟨n3, m3, rfl⟩ := own_shape ho.tell.gone
  have hb07 : Below w16.heap.size w16 wq7 := hbb.trans (hb7.mono hbb.size)
  have Hb07 := Lib.hid hb07; have Ho := Lib.hid ho; have Hbd := Lib.hid hbd
  clear hb07 ho hbd hb7 hN hwb hbb hb6' hb6 ho6 hba hWa hWb
  repeat (refine canF_yes (v := ?_) rfl (wanted_none rfl) (fun w' hC => ?_) (fun K hK => ?_); rotate_left; (focus (go_simp; (try simp (disch := omega) only [IntWalk.i64_in]); (try simp (disch := omega) only [IntWalk.u32_in]); (try simp (disch := omega) only [IntWalk.u8_in]); (try simp (disch := omega) only [IntWalk.i64_quo]); (try simp (disch := omega) only [IntWalk.rem_in]); first | done | exact rfl)); go_simp; (try simp (disch := omega) only [IntWalk.i64_in]); (try simp (disch := omega) only [IntWalk.u32_in]); (try simp (disch := omega) only [IntWalk.u8_in]); (try simp (disch := omega) only [IntWalk.i64_quo]); (try simp (disch := omega) only [IntWalk.rem_in]); refine hK _ ?_; clear hK K)
  refine canF_float rfl (fun vO Wd hWd hZ hU KK hK => ?_)
  obtain ⟨On, LO, rfl, hO1, hO2, hO3⟩ := hZ
  refine hK _ _ ?_
  clear hK KK hU
  go_simp
  obtain ⟨x0, x1, x2, x3, x4, rfl⟩ : ∃ x0 x1 x2 x3 x4, LO = [x0, x1, x2, x3, x4] := by
    match LO, hO3 with
    | [x0, x1, x2, x3, x4], _ => exact ⟨x0, x1, x2, x3, x4, rfl⟩
  have hbd' : Below w16.heap.size w16 Wd := Hb07.out.trans (hWd.below Hb07.out.size)
  obtain ⟨w17, hw8, hblk8, hb8⟩ := fin5 hO2 hbd' hO1 (.int .i64 SMsg.empty.frm) (.slice n0 SMsg.empty.seen.length m0) (.slice n1 SMsg.empty.tell.seen.length m1) (.slice n2 SMsg.empty.tell.items.length m2) (.slice n3 SMsg.empty.tell.gone.length m3)
  have hl8 : LaterT w16.heap.size 39 Wd w17 := by
    rw [hw8]
    exact laterT_trans _ _ _ _ _ (laterT_trans _ _ _ _ _ (laterT_trans _ _ _ _ _ (laterT_trans _ _ _ _ _ (LaterT.set hO2 hO1 0 _) (LaterT.set (hO2.set 0 _) hO1 1 _)) (LaterT.set ((hO2.set 0 _).set 1 _) hO1 2 _)) (LaterT.set (((hO2.set 0 _).set 1 _).set 2 _) hO1 3 _)) (LaterT.set ((((hO2.set 0 _).set 1 _).set 2 _).set 3 _) hO1 4 _)
  have ho8 : OwnMsg w17 0 (.slice n0 SMsg.empty.seen.length m0) (.slice n1 SMsg.empty.tell.seen.length m1) (.slice n2 SMsg.empty.tell.items.length m2) (.slice n3 SMsg.empty.tell.gone.length m3) SMsg.empty :=
    ⟨own_base (hl8.own (hWd.own Ho.out.seen (by decide)) (by decide)) (Nat.zero_le _), own_base (hl8.own (hWd.own Ho.out.tell.seen (by decide)) (by decide)) (Nat.zero_le _), own_base (hl8.own (hWd.own Ho.out.tell.items (by decide)) (by decide)) (Nat.zero_le _), own_base (hl8.own (hWd.own Ho.out.tell.gone (by decide)) (by decide)) (Nat.zero_le _)⟩
  have hmb : MBS w17 On SMsg.empty := ⟨_, _, _, _, _, _, _, _, hblk8, (ho8.msg Hbd.out).mono fun q _ hlt => hlt⟩
  obtain ⟨y0, y1, y2, y3, y4⟩ := cell5 hO2
  have z0 := hO2.free 0
  have z1 := hO2.free 1
  have z2 := hO2.free 2
  have z3 := hO2.free 3
  have z4 := hO2.free 4
  have HMBOn := Lib.hid hmb; have HBw17 := Lib.hid hb8; have Hl8 := Lib.hid hl8; have Hw8 := Lib.hid hw8
  clear hmb hb8 hl8 hw8 hblk8 hbd' hWd hO2 hO3 Ho Hbd Hb07 ho8
  refine canF_fixed rfl rfl (fun KK hK => ?_)
  go_simp
  rw [← Hw8.out]
  refine ⟨Hl8.out, hK _ _ ?_⟩
  clear hK KK y0 y1 y2 y3 y4 z0 z1 z2 z3 z4 Hl8 Hw8 hO1
  go_simp
  repeat (refine canF_yes (v := ?_) rfl (wanted_none rfl) (fun w' hC => ?_) (fun K hK => ?_); rotate_left; (focus (go_simp; (try simp (disch := omega) only [IntWalk.i64_in]); (try simp (disch := omega) only [IntWalk.u32_in]); (try simp (disch := omega) only [IntWalk.u8_in]); (try simp (disch := omega) only [IntWalk.i64_quo]); (try simp (disch := omega) only [IntWalk.rem_in]); first | done | exact rfl)); go_simp; (try simp (disch := omega) only [IntWalk.i64_in]); (try simp (disch := omega) only [IntWalk.u32_in]); (try simp (disch := omega) only [IntWalk.u8_in]); (try simp (disch := omega) only [IntWalk.i64_quo]); (try simp (disch := omega) only [IntWalk.rem_in]); refine hK _ ?_; clear hK K)
  refine canF_nil ?_
  have Hl17 := Lib.hid (Hl16.out.keep HBw17.out)
  have Hs17 := Lib.hid (show HasS ((On, SMsg.empty) :: []) w17 from (Hs16'.out.keep HBw17.out).cons HMBOn.out)
  have HW17 := Lib.hid (show Below w.heap.size w w17 from HW16.out.trans (HBw17.out.mono HW16.out.size))
  clear HMA
  have HI17 := Lib.hid (HI16.out.keep HBw17.out)
  have HN := Lib.hid (none_any w17)
  go_wp2_with fail
  refine HN.out.mono ?_
  rintro e w18 ⟨v18, rfl, rfl, hS18, hb18⟩
  have HW18 := Lib.hid (HW17.out.trans (hb18.mono HW17.out.size)); have Hl18 := Lib.hid (Hl17.out.keep hb18); have HI18 := Lib.hid (HI17.out.keep hb18)
  have hU := since_any w18 (HTb.out _ HW18.out).1 (HTb.out _ HW18.out).2 (fun q => 0 ≤ q) _ nilV .empty ((own_nil w18 0).map bnd_empty) nofun nofun (.slice (some ⟨w17.heap.size, 0, none⟩) 8 8) no8 (rowsN8 hS18 rfl)
  rw [sh_k4] at hU
  have HU := Lib.hid hU
  clear HN hU hS18 hb18
  go_wp2_with fail
  refine HU.out.mono ?_
  rintro e wm19 ⟨⟨r, rfl, ho, hbd⟩, hbm⟩
  obtain ⟨t1, t2, t3, rfl, ho⟩ := ho
  dsimp only at ho hbd ⊢
  obtain ⟨n119, m119, rfl⟩ := own_shape ho.seen
  obtain ⟨n219, m219, rfl⟩ := own_shape ho.items
  obtain ⟨n319, m319, rfl⟩ := own_shape ho.gone
  obtain ⟨w19, hw19⟩ : ∃ q, q = wm19.alloc (.cells #[.slice n119 RMap.empty.seen.length m119, .slice n219 RMap.empty.items.length m219, .slice n319 RMap.empty.gone.length m319] 31) := ⟨_, rfl⟩
  have hk19 : Below wm19.heap.size wm19 w19 := by rw [hw19]; exact kept_alloc _ _
  have hbw : Below w18.heap.size w18 w19 := hbm.trans (hk19.mono hbm.size)
  have hmb : MB w19 wm19.heap.size RMap.empty := ⟨_, _, _, _, _, _, by rw [hw19]; exact Blk.new _ _ _, (((ho.below hk19).map hbd).mono fun q _ hlt => hlt)⟩
  have Hl19 := Lib.hid (show Has ((wm19.heap.size, RMap.empty) :: [(wm9.heap.size, E), (wm8.heap.size, Y), (Oa, X), (wm3.heap.size, Y), (wm2.heap.size, X)]) w19 from (Hl18.out.keep hbw).cons hmb)
  have HW19 := Lib.hid (show Below w.heap.size w w19 from HW18.out.trans (hbw.mono HW18.out.size))
  have Hw19 := Lib.hid hw19
  have HI19 := Lib.hid (HI18.out.keep hbw)
  clear hk19 hbw hmb ho hbd hbm
  clear HU hw19
  have hU := sencode_any w19 (HTb.out _ HW19.out).1 (HTb.out _ HW19.out).2 (fun q => 0 ≤ q) nilM .empty ((ownM_nil w19 0).msg bndS_empty) nofun nofun
  rw [sh_k6] at hU
  unfold EncPost at hU
  have HU := Lib.hid hU
  clear hU
  go_wp2_with fail
  rw [← Hw19.out]
  refine HU.out.mono ?_
  rintro e w20 ⟨⟨v20, rfl, -⟩, hb20⟩
  have HW20 := Lib.hid (HW19.out.trans (hb20.mono HW19.out.size)); have Hl20 := Lib.hid (Hl19.out.keep hb20); have HI20 := Lib.hid (HI19.out.keep hb20)
  clear HU hb20
  have hU := sdecode_any w20 (HTb.out _ HW20.out).1 (HTb.out _ HW20.out).2 (fun q => q < w20.heap.size) none 0 [] (bytes_nil _ _) (by decide)
  unfold SDPost at hU
  rw [sh_k0] at hU
  have HU := Lib.hid (show Calls Tryz.prog 32 #[.slice none 0 0] w20 _ from hU)
  clear hU
  go_wp2_with fail
  refine HU.out.mono ?_
  rintro e wm21 ⟨r, rfl, hmv, hbm⟩
  obtain ⟨t0, t1, t2, t3, rfl, hmi⟩ := hmv
  dsimp only at hmi ⊢
  obtain ⟨n021, m021, rfl, -⟩ := hmi.seen.shape
  obtain ⟨n121, m121, rfl, -⟩ := hmi.tell.seen.shape
  obtain ⟨n221, m221, rfl, -⟩ := hmi.tell.items.shape
  obtain ⟨n321, m321, rfl, -⟩ := hmi.tell.gone.shape
  obtain ⟨w21, hw21⟩ : ∃ q, q = wm21.alloc (.cells #[.int .i64 SMsg.empty.frm, .slice n021 SMsg.empty.seen.length m021, .slice n121 SMsg.empty.tell.seen.length m121, .slice n221 SMsg.empty.tell.items.length m221, .slice n321 SMsg.empty.tell.gone.length m321] 39) := ⟨_, rfl⟩
  have hk21 : Below wm21.heap.size wm21 w21 := by rw [hw21]; exact kept_alloc _ _
  have hbw : Below w20.heap.size w20 w21 := hbm.trans (hk21.mono hbm.size)
  have Hb21 := Lib.hid (show Blk w21 wm21.heap.size [.int .i64 SMsg.empty.frm, .slice n021 SMsg.empty.seen.length m021, .slice n121 SMsg.empty.tell.seen.length m121, .slice n221 SMsg.empty.tell.items.length m221, .slice n321 SMsg.empty.tell.gone.length m321] 39 by rw [hw21]; exact Blk.new _ _ _)
  have Hm21 := Lib.hid ((hmi.keep (w' := w21) fun q _ hlt => hk21.block q hlt).mono (G := fun q => q < w21.heap.size) fun q _ hlt => hlt)
  have HW21 := Lib.hid (show Below w.heap.size w w21 from HW20.out.trans (hbw.mono HW20.out.size))
  have HB21 := Lib.hid hbw
  have Hw21 := Lib.hid hw21
  clear hk21 hbw hmi hbm hw21
  have Hl21 := Lib.hid (Hl20.out.keep HB21.out); have HI21 := Lib.hid (HI20.out.keep HB21.out)
  clear HU
  have hU := recv_any w21 (HTb.out _ HW21.out).1 (HTb.out _ HW21.out).2 (fun q => 0 ≤ q) (fun q => 0 ≤ q) nilV .empty ((own_nil w21 0).map bnd_empty) nofun nofun nilM .empty ((ownM_nil w21 0).msg bndS_empty) nofun nofun
  rw [sh_k7] at hU
  have HU := Lib.hid hU
  clear hU
  go_wp2_with fail
  rw [← Hw21.out]
  refine HU.out.mono ?_
  rintro e wm22 ⟨⟨r, rfl, ho, hbd⟩, hbm⟩
  obtain ⟨t1, t2, t3, rfl, ho⟩ := ho
  dsimp only at ho hbd ⊢
  obtain ⟨n122, m122, rfl⟩ := own_shape ho.seen
  obtain ⟨n222, m222, rfl⟩ := own_shape ho.items
  obtain ⟨n322, m322, rfl⟩ := own_shape ho.gone
  obtain ⟨w22, hw22⟩ : ∃ q, q = wm22.alloc (.cells #[.slice n122 RMap.empty.seen.length m122, .slice n222 RMap.empty.items.length m222, .slice n322 RMap.empty.gone.length m322] 31) := ⟨_, rfl⟩
  have hk22 : Below wm22.heap.size wm22 w22 := by rw [hw22]; exact kept_alloc _ _
  have hbw : Below w21.heap.size w21 w22 := hbm.trans (hk22.mono hbm.size)
  have hmb : MB w22 wm22.heap.size RMap.empty := ⟨_, _, _, _, _, _, by rw [hw22]; exact Blk.new _ _ _, (((ho.below hk22).map hbd).mono fun q _ hlt => hlt)⟩
  have Hl22 := Lib.hid (show Has ((wm22.heap.size, RMap.empty) :: [(wm19.heap.size, RMap.empty), (wm9.heap.size, E), (wm8.heap.size, Y), (Oa, X), (wm3.heap.size, Y), (wm2.heap.size, X)]) w22 from (Hl21.out.keep hbw).cons hmb)
  have HW22 := Lib.hid (show Below w.heap.size w w22 from HW21.out.trans (hbw.mono HW21.out.size))
  have Hw22 := Lib.hid hw22
  have HI22 := Lib.hid (HI21.out.keep hbw)
  clear hk22 hbw hmb ho hbd hbm
  clear HU hw22
  obtain ⟨s1Y, e1Y, s2Y, e2Y, s3Y, e3Y, hBY, hMY⟩ := Hl22.out.get wm3.heap.size Y (by simp)
  obtain ⟨c0Y, c1Y, c2Y⟩ := cell3 hBY
  obtain ⟨w23, hw23⟩ : ∃ q, q = w22.alloc (.cells #[.int .i64 1, .slice (some ⟨B2, 0, none⟩) 8 8, .slice s1Y Y.seen.length e1Y, .slice s2Y Y.items.length e2Y, .slice s3Y Y.gone.length e3Y] 39) := ⟨_, rfl⟩
  have hb23 : Below w22.heap.size w22 w23 := by rw [hw23]; exact kept_alloc _ _
  have hz22 : w22.heap.size = wm22.heap.size + 1 := by rw [Hw22.out]; simp
  have kL : Blk w23 (wm22.heap.size + 1) [.int .i64 1, .slice (some ⟨B2, 0, none⟩) 8 8, .slice s1Y Y.seen.length e1Y, .slice s2Y Y.items.length e2Y, .slice s3Y Y.gone.length e3Y] 39 := by
    have k := Blk.new w22 #[.int .i64 1, .slice (some ⟨B2, 0, none⟩) 8 8, .slice s1Y Y.seen.length e1Y, .slice s2Y Y.items.length e2Y, .slice s3Y Y.gone.length e3Y] 39
    rw [← hw23, hz22] at k
    exact k
  have hmL : MsgIn (fun q => q < w23.heap.size) w23 (.slice (some ⟨B2, 0, none⟩) 8 8) (.slice s1Y Y.seen.length e1Y) (.slice s2Y Y.items.length e2Y) (.slice s3Y Y.gone.length e3Y) ⟨1, two8, Y⟩ := by
    refine ⟨?_, (hMY.keep (w' := w23) fun q _ hlt => hb23.block q hlt).mono fun q hq hlt => hlt, by unfold i64ok; dsimp only; omega, fun n hn => ?_⟩
    · have k := (HI22.out.keep hb23).2
      exact (rowsN8 k rfl).mono fun q hq hlt => hlt
    · have : n = 2 ∨ n = 0 := by simpa [two8] using hn
      rcases this with rfl | rfl <;> exact ⟨by decide, by decide⟩
  have K8 := Lib.hid (show sencR ⟨1, two8, Y⟩ = ([], 5) by rw [← HYe.out]; exact sh_k8)
  have K9' := Lib.hid (show recvR Y ⟨1, two8, Y⟩ = (.empty, 5) by rw [← HYe.out]; exact sh_k9)
  have HW23 := Lib.hid (HW22.out.trans (hb23.mono HW22.out.size))
  have Hl23 := Lib.hid (Hl22.out.keep hb23)
  have hU := sencode_any w23 (HTb.out _ HW23.out).1 (HTb.out _ HW23.out).2 _ (.agg #[.int .i64 1, .slice (some ⟨B2, 0, none⟩) 8 8, .slice s1Y Y.seen.length e1Y, .slice s2Y Y.items.length e2Y, .slice s3Y Y.gone.length e3Y]) ⟨1, two8, Y⟩ ⟨_, _, _, _, rfl, hmL⟩ KY.out.1.1 KY.out.1.2
  rw [K8.out] at hU
  unfold EncPost at hU
  have HU := Lib.hid hU
  obtain ⟨d0, d1, d2, d3, d4⟩ := cell5 kL
  rw [hw23, Hw22.out] at d0 d1 d2 d3 d4
  rw [Hw22.out] at c0Y c1Y c2Y
  have KL := Lib.hid kL; have HmL := Lib.hid hmL; have Hw23 := Lib.hid hw23
  clear hU hBY hMY hw23 hb23 kL hmL hz22
  go_wp2_with fail
  rw [← Hw22.out, ← Hw23.out]
  refine HU.out.mono ?_
  rintro e w24 ⟨⟨v24, rfl, -⟩, hb24⟩
  have HW24 := Lib.hid (HW23.out.trans (hb24.mono HW23.out.size)); have Hl24 := Lib.hid (Hl23.out.keep hb24)
  clear HU d0 d1 d2 d3 d4 c0Y c1Y c2Y
  obtain ⟨s1Y, e1Y, s2Y, e2Y, s3Y, e3Y, hBY, hMY⟩ := Hl24.out.get wm3.heap.size Y (by simp)
  obtain ⟨c0Y, c1Y, c2Y⟩ := cell3 hBY
  obtain ⟨d0, d1, d2, d3, d4⟩ := cell5 (KL.out.keep (hb24.block _ KL.out.lt))
  have hU := recv_any w24 (HTb.out _ HW24.out).1 (HTb.out _ HW24.out).2 _ _ (.agg #[.slice s1Y Y.seen.length e1Y, .slice s2Y Y.items.length e2Y, .slice s3Y Y.gone.length e3Y]) Y ⟨_, _, _, rfl, hMY⟩ KY.out.1.1 KY.out.1.2 _ ⟨1, two8, Y⟩ ⟨_, _, _, _, rfl, HmL.out.keep (w' := w24) fun q hq _ => hb24.block q hq⟩ KY.out.1.1 KY.out.1.2
  rw [K9'.out] at hU
  have HU := Lib.hid hU
  clear hU hBY hMY hb24
  go_wp2_with fail
  refine HU.out.mono ?_
  rintro e wm25 ⟨⟨r, rfl, ho, hbd⟩, hbm⟩
  obtain ⟨t1, t2, t3, rfl, ho⟩ := ho
  dsimp only at ho hbd ⊢
  obtain ⟨n125, m125, rfl⟩ := own_shape ho.seen
  obtain ⟨n225, m225, rfl⟩ := own_shape ho.items
  obtain ⟨n325, m325, rfl⟩ := own_shape ho.gone
  obtain ⟨w25, hw25⟩ : ∃ q, q = wm25.alloc (.cells #[.slice n125 RMap.empty.seen.length m125, .slice n225 RMap.empty.items.length m225, .slice n325 RMap.empty.gone.length m325] 31) := ⟨_, rfl⟩
  have hk25 : Below wm25.heap.size wm25 w25 := by rw [hw25]; exact kept_alloc _ _
  have hbw : Below w24.heap.size w24 w25 := hbm.trans (hk25.mono hbm.size)
  have hmb : MB w25 wm25.heap.size RMap.empty := ⟨_, _, _, _, _, _, by rw [hw25]; exact Blk.new _ _ _, (((ho.below hk25).map hbd).mono fun q _ hlt => hlt)⟩
  have Hl25 := Lib.hid (show Has ((wm25.heap.size, RMap.empty) :: [(wm22.heap.size, RMap.empty), (wm19.heap.size, RMap.empty), (wm9.heap.size, E), (wm8.heap.size, Y), (Oa, X), (wm3.heap.size, Y), (wm2.heap.size, X)]) w25 from (Hl24.out.keep hbw).cons hmb)
  have HW25 := Lib.hid (show Below w.heap.size w w25 from HW24.out.trans (hbw.mono HW24.out.size))
  have Hw25 := Lib.hid hw25
  clear hk25 hbw hmb ho hbd hbm
  clear HU hw25 d0 d1 d2 d3 d4 c0Y c1Y c2Y
  have HW := Lib.hid (works_any w25 (HTb.out _ HW25.out).1 (HTb.out _ HW25.out).2)
  go_wp2_with fail
  rw [← Hw25.out]
  refine HW.out.mono ?_
  rintro e wf ⟨rfl, hbf⟩
  clear HW
  go_wp2_with fail
  go_ret
  exact ⟨rfl, HW25.out.trans (hbf.mono HW25.out.size)⟩
end Go.Proofs.YtkkacnfpdafadaaGreatDoor
