/- The law RmapKnown. -/
import Derived.Test.YteadnkdkkhicfaaGreatDoorRDecP
import Derived.Test.YteadnkdkkhicfaaGreatDoorREncP
import Derived.Test.YteadnkdkkhicfaaGreatDoorRHas
import Derived.Test.YteadnkdkkhicfaaGreatDoorRForg2
import Derived.Test.YteadnkdkkhicfaaGreatDoorRMerge2
import Derived.Test.YteadnkdkkhicfaaGreatDoorRWorks
import Derived.Test.YteadnkdkkhicfaaGreatDoorRArg
import Derived.Test.YteadnkdkkhicfaaGreatDoorRKnP
namespace Go.Proofs.YteadnkdkkhicfaaGreatDoor
open Go.RowKit Go.Lib
set_option linter.unusedVariables false
set_option maxRecDepth 20000
attribute [local go_sem ↓] seal_append
attribute [local go_sem ↓] seal_make
attribute [local go_sem] opC upC

theorem zero10 : (madeCells (Value.int .u8 0).cells (10 * 1)).toList = (List.replicate 10 (0 : UInt8)).map B := by
  have h : madeCells (Array.replicate 1 (Value.int .u8 0)) 10 = Array.replicate 10 (Value.int .u8 0) := by
    apply Array.ext
    · simp [madeCells]
    · intro i h1 h2
      simp only [madeCells, Array.getElem_map, Array.getElem_range, Array.size_replicate, Array.getElem_replicate]
      rw [getElem!_pos (Array.replicate 1 (Value.int .u8 0)) (i % 1) (by simpa using Nat.mod_lt i (show 0 < 1 by decide))]
      simp
  simp only [Value.cells]
  rw [show #[Value.int .u8 0] = Array.replicate 1 (Value.int .u8 0) from rfl, show 10 * 1 = 10 from rfl, h]
  simp
  rfl
theorem rows_newK (w : World) (cs : Array Value) (t : TypeId) (n k : Nat) (hn : cs.size = n * k) (hle : n ≤ maxLen) : Rows (fun b => b = w.heap.size) (w.alloc (.cells cs t)) k (.slice (some ⟨w.heap.size, 0, none⟩) n n) n cs.toList :=
  ⟨_, n, rfl, Nat.le_refl _, hle, nofun, by simp [hn], .inr ⟨w.heap.size, 0, cs, t, (0, 0), rfl, rfl, by unfold World.alloc; simp, by omega, fun i hi => by simp⟩⟩
set_option maxRecDepth 100000 in
set_option maxHeartbeats 8000000 in
theorem RmapKnown_walk (w : World) (hq : Tabs w ∧ 3 ≤ w.heap.size) :
    Calls Tryz.prog 4 #[] w fun e w' => e = .returned (.bool true) ∧ Below w.heap.size w w' := by
  have HTb := Lib.hid (show ∀ w', Below w.heap.size w w' → Tabs w' ∧ 3 ≤ w'.heap.size from fun w' hb => ⟨tabs_below hq.1 hq.2 hb, Nat.le_trans hq.2 hb.size⟩)
  clear hq
  have HNw := Lib.hid (show ∀ W, Calls Tryz.prog 11 #[] W _ from fun W => pnew_any W)
  have HNe : (∀ x ∈ RMap.new.items, x.key.length ≤ 1000000) ∧ (∀ x ∈ RMap.new.gone, x.key.length ≤ 1000000) := ⟨nofun, nofun⟩
  have KN := Lib.hid (show ((∀ x ∈ RMap.new.items, x.key.length ≤ 1000000) ∧ (∀ x ∈ RMap.new.gone, x.key.length ≤ 1000000)) ∧ RMap.new.seen.length ≤ 1000000 ∧ RMap.new.items.length ≤ 1000000 ∧ RMap.new.gone.length ≤ 1000000 from ⟨HNe, by decide, by decide, by decide⟩)
  obtain ⟨X, hX⟩ : ∃ X, knX = X := ⟨_, rfl⟩
  obtain ⟨Y, hY⟩ : ∃ X, knY = X := ⟨_, rfl⟩
  obtain ⟨Z, hZ⟩ : ∃ X, knZ = X := ⟨_, rfl⟩
  obtain ⟨M, hM⟩ : ∃ X, knB = X := ⟨_, rfl⟩
  obtain ⟨E, hE⟩ : ∃ X, RMap.empty = X := ⟨_, rfl⟩
  have HX := Lib.hid hX; have HY := Lib.hid hY; have HZ := Lib.hid hZ; have HM := Lib.hid hM; have HE := Lib.hid hE
  have EX := Lib.hid kn_x; have EY := Lib.hid kn_y; have EZ := Lib.hid kn_z; have EA := Lib.hid kn_a; have EB := Lib.hid kn_b
  have E1 := Lib.hid kn_e1; have E2 := Lib.hid kn_e2; have E3 := Lib.hid kn_e3; have E4 := Lib.hid kn_e4; have E5 := Lib.hid kn_e5
  have VX := Lib.hid kn_vx; have VB := Lib.hid kn_vb
  have KX := Lib.hid (kn_keys X (.inl hX.symm)); have KY := Lib.hid (kn_keys Y (.inr (.inl hY.symm))); have KZ := Lib.hid (kn_keys Z (.inr (.inr (.inl hZ.symm)))); have KM := Lib.hid (kn_keys M (.inr (.inr (.inr hM.symm))))
  rw [hX] at EX EY EZ EA VX
  rw [hY] at EY EA EB
  rw [hZ] at EZ EB
  rw [hM] at EB VB
  rw [hE] at E1 E2 E3 E4 E5
  clear hX hY hZ hM hE HNe
  have HW0 := Lib.hid (Below.refl w.heap.size w)
  have Hl0 := Lib.hid (Has.nil w)
  go_enter Tryz.func4, Tryz.ntmps4
  have HN := Lib.hid (HNw.out w)
  go_wp2_with fail
  refine HN.out.mono ?_
  rintro e w1 ⟨v1, rfl, hmn, hbn⟩
  obtain ⟨s11, s21, s31, rfl, -⟩ := id hmn
  have HW1 := Lib.hid (show Below w.heap.size w w1 from HW0.out.trans (hbn.mono HW0.out.size))
  have Hl1 := Lib.hid (Hl0.out.keep hbn)
  have Hm1 := Lib.hid (hmn.mono (G := fun q => q < w1.heap.size) fun q _ hlt => hlt)
  clear hmn hbn
  clear HN
  obtain ⟨wa2, hwa⟩ : ∃ q, q = w1.alloc (.cells #[.string ⟨kC.toArray⟩, .string ⟨kB.toArray⟩] 9) := ⟨_, rfl⟩
  have hba : Below w1.heap.size w1 wa2 := by rw [hwa]; exact kept_alloc _ _
  have hWa : Below w.heap.size w wa2 := HW1.out.trans (hba.mono HW1.out.size)
  have hra : Rows (fun q => q = w1.heap.size) wa2 1 (.slice (some ⟨w1.heap.size, 0, none⟩) 2 2) ([kC, kB] : List RKey).length (([kC, kB] : List RKey).map eS) := by rw [hwa]; exact rows_new w1 #[.string ⟨kC.toArray⟩, .string ⟨kB.toArray⟩] 9 2 rfl (by unfold maxLen; omega)
  have hU := puse_any wa2 (HTb.out _ hWa).1 (HTb.out _ hWa).2 _ _ .new ((Hm1.out).later hba (Nat.le_refl _)) KN.out.1.1 KN.out.1.2 KN.out.2.2.1 KN.out.2.2.2 0 _ _ [kC, kB] hra (by decide) (by decide)
  rw [EX.out] at hU
  skip
  have HU := Lib.hid hU; have HWa2 := Lib.hid hWa; have Hla2 := Lib.hid (Hl1.out.keep hba); have Hwa2 := Lib.hid hwa
  clear hU hba hWa hra hwa
  go_wp2_with fail
  rw [← Hwa2.out]
  refine HU.out.mono ?_
  rintro e wm2 ⟨⟨r, rfl, ho, hbd⟩, hbm⟩
  obtain ⟨t1, t2, t3, rfl, ho⟩ := ho
  dsimp only at ho hbd ⊢
  obtain ⟨n12, m12, rfl⟩ := own_shape ho.seen
  obtain ⟨n22, m22, rfl⟩ := own_shape ho.items
  obtain ⟨n32, m32, rfl⟩ := own_shape ho.gone
  obtain ⟨w2, hw2⟩ : ∃ q, q = wm2.alloc (.cells #[.slice n12 X.seen.length m12, .slice n22 X.items.length m22, .slice n32 X.gone.length m32] 27) := ⟨_, rfl⟩
  have hk2 : Below wm2.heap.size wm2 w2 := by rw [hw2]; exact kept_alloc _ _
  have hbw : Below wa2.heap.size wa2 w2 := hbm.trans (hk2.mono hbm.size)
  have hmb : MB w2 wm2.heap.size X := ⟨_, _, _, _, _, _, by rw [hw2]; exact Blk.new _ _ _, (((ho.below hk2).map hbd).mono fun q _ hlt => hlt)⟩
  have Hl2 := Lib.hid (show Has ((wm2.heap.size, X) :: []) w2 from (Hla2.out.keep hbw).cons hmb)
  have HW2 := Lib.hid (show Below w.heap.size w w2 from HWa2.out.trans (hbw.mono HWa2.out.size))
  have Hw2 := Lib.hid hw2
  clear hk2 hbw hmb ho hbd hbm
  clear HU
  obtain ⟨s1X, e1X, s2X, e2X, s3X, e3X, hBX, hMX⟩ := Hl2.out.get wm2.heap.size X (by simp)
  obtain ⟨c0X, c1X, c2X⟩ := cell3 hBX
  have hzz : w2.heap.size = wm2.heap.size + 1 := by rw [Hw2.out]; simp
  obtain ⟨wa3, hwa⟩ : ∃ q, q = w2.alloc (.cells #[.string ⟨kB.toArray⟩] 9) := ⟨_, rfl⟩
  have hba : Below w2.heap.size w2 wa3 := by rw [hwa]; exact kept_alloc _ _
  have hWa : Below w.heap.size w wa3 := HW2.out.trans (hba.mono HW2.out.size)
  have hra : Rows (fun q => q = w2.heap.size) wa3 1 (.slice (some ⟨w2.heap.size, 0, none⟩) 1 1) ([kB] : List RKey).length (([kB] : List RKey).map eS) := by rw [hwa]; exact rows_new w2 #[.string ⟨kB.toArray⟩] 9 1 rfl (by unfold maxLen; omega)
  have hU := pforget_any wa3 (HTb.out _ hWa).1 (HTb.out _ hWa).2 _ _ X (((show MapV _ _ _ X from ⟨_, _, _, rfl, hMX⟩)).later hba (Nat.le_refl _)) KX.out.1.1 KX.out.1.2 KX.out.2.2.1 KX.out.2.2.2 1 _ _ [kB] hra (by decide) (by decide)
  rw [EY.out] at hU
  rw [hzz] at hU; rw [Hw2.out] at c0X c1X c2X hwa; clear hBX hMX hzz
  have HU := Lib.hid hU; have HWa3 := Lib.hid hWa; have Hla3 := Lib.hid (Hl2.out.keep hba); have Hwa3 := Lib.hid hwa
  clear hU hba hWa hra hwa
  go_wp2_with fail
  rw [← Hwa3.out]
  refine HU.out.mono ?_
  rintro e wm3 ⟨⟨r, rfl, ho, hbd⟩, hbm⟩
  obtain ⟨t1, t2, t3, rfl, ho⟩ := ho
  dsimp only at ho hbd ⊢
  obtain ⟨n13, m13, rfl⟩ := own_shape ho.seen
  obtain ⟨n23, m23, rfl⟩ := own_shape ho.items
  obtain ⟨n33, m33, rfl⟩ := own_shape ho.gone
  obtain ⟨w3, hw3⟩ : ∃ q, q = wm3.alloc (.cells #[.slice n13 Y.seen.length m13, .slice n23 Y.items.length m23, .slice n33 Y.gone.length m33] 27) := ⟨_, rfl⟩
  have hk3 : Below wm3.heap.size wm3 w3 := by rw [hw3]; exact kept_alloc _ _
  have hbw : Below wa3.heap.size wa3 w3 := hbm.trans (hk3.mono hbm.size)
  have hmb : MB w3 wm3.heap.size Y := ⟨_, _, _, _, _, _, by rw [hw3]; exact Blk.new _ _ _, (((ho.below hk3).map hbd).mono fun q _ hlt => hlt)⟩
  have Hl3 := Lib.hid (show Has ((wm3.heap.size, Y) :: [(wm2.heap.size, X)]) w3 from (Hla3.out.keep hbw).cons hmb)
  have HW3 := Lib.hid (show Below w.heap.size w w3 from HWa3.out.trans (hbw.mono HWa3.out.size))
  have Hw3 := Lib.hid hw3
  clear hk3 hbw hmb ho hbd hbm
  clear HU
  clear c0X c1X c2X
  obtain ⟨s1X, e1X, s2X, e2X, s3X, e3X, hBX, hMX⟩ := Hl3.out.get wm2.heap.size X (by simp)
  obtain ⟨c0X, c1X, c2X⟩ := cell3 hBX
  have hzz : w3.heap.size = wm3.heap.size + 1 := by rw [Hw3.out]; simp
  obtain ⟨wa4, hwa⟩ : ∃ q, q = w3.alloc (.cells #[.string ⟨kB.toArray⟩] 9) := ⟨_, rfl⟩
  have hba : Below w3.heap.size w3 wa4 := by rw [hwa]; exact kept_alloc _ _
  have hWa : Below w.heap.size w wa4 := HW3.out.trans (hba.mono HW3.out.size)
  have hra : Rows (fun q => q = w3.heap.size) wa4 1 (.slice (some ⟨w3.heap.size, 0, none⟩) 1 1) ([kB] : List RKey).length (([kB] : List RKey).map eS) := by rw [hwa]; exact rows_new w3 #[.string ⟨kB.toArray⟩] 9 1 rfl (by unfold maxLen; omega)
  have hU := puse_any wa4 (HTb.out _ hWa).1 (HTb.out _ hWa).2 _ _ X (((show MapV _ _ _ X from ⟨_, _, _, rfl, hMX⟩)).later hba (Nat.le_refl _)) KX.out.1.1 KX.out.1.2 KX.out.2.2.1 KX.out.2.2.2 0 _ _ [kB] hra (by decide) (by decide)
  rw [EZ.out] at hU
  rw [hzz] at hU; rw [Hw3.out] at c0X c1X c2X hwa; clear hBX hMX hzz
  have HU := Lib.hid hU; have HWa4 := Lib.hid hWa; have Hla4 := Lib.hid (Hl3.out.keep hba); have Hwa4 := Lib.hid hwa
  clear hU hba hWa hra hwa
  go_wp2_with fail
  rw [← Hwa4.out]
  refine HU.out.mono ?_
  rintro e wm4 ⟨⟨r, rfl, ho, hbd⟩, hbm⟩
  obtain ⟨t1, t2, t3, rfl, ho⟩ := ho
  dsimp only at ho hbd ⊢
  obtain ⟨n14, m14, rfl⟩ := own_shape ho.seen
  obtain ⟨n24, m24, rfl⟩ := own_shape ho.items
  obtain ⟨n34, m34, rfl⟩ := own_shape ho.gone
  obtain ⟨w4, hw4⟩ : ∃ q, q = wm4.alloc (.cells #[.slice n14 Z.seen.length m14, .slice n24 Z.items.length m24, .slice n34 Z.gone.length m34] 27) := ⟨_, rfl⟩
  have hk4 : Below wm4.heap.size wm4 w4 := by rw [hw4]; exact kept_alloc _ _
  have hbw : Below wa4.heap.size wa4 w4 := hbm.trans (hk4.mono hbm.size)
  have hmb : MB w4 wm4.heap.size Z := ⟨_, _, _, _, _, _, by rw [hw4]; exact Blk.new _ _ _, (((ho.below hk4).map hbd).mono fun q _ hlt => hlt)⟩
  have Hl4 := Lib.hid (show Has ((wm4.heap.size, Z) :: [(wm3.heap.size, Y), (wm2.heap.size, X)]) w4 from (Hla4.out.keep hbw).cons hmb)
  have HW4 := Lib.hid (show Below w.heap.size w w4 from HWa4.out.trans (hbw.mono HWa4.out.size))
  have Hw4 := Lib.hid hw4
  clear hk4 hbw hmb ho hbd hbm
  clear HU
  clear c0X c1X c2X
  obtain ⟨s1X, e1X, s2X, e2X, s3X, e3X, hBX, hMX⟩ := Hl4.out.get wm2.heap.size X (by simp)
  obtain ⟨c0X, c1X, c2X⟩ := cell3 hBX
  have HV := Lib.hid (pvalue_any w4 (HTb.out _ HW4.out).1 (HTb.out _ HW4.out).2 _ (.agg #[.slice s1X X.seen.length e1X, .slice s2X X.items.length e2X, .slice s3X X.gone.length e3X]) X ⟨_, _, _, rfl, hMX⟩ KX.out.1.1 KX.out.1.2 kB (by decide))
  rw [VX.out] at HV
  rw [Hw4.out] at c0X c1X c2X
  clear hBX hMX
  go_wp2_with fail
  rw [← Hw4.out]
  refine HV.out.mono ?_
  rintro e w5 ⟨rfl, hb5⟩
  have Hl5 := Lib.hid (Hl4.out.keep hb5); have HW5 := Lib.hid (HW4.out.trans (hb5.mono HW4.out.size))
  clear HV c0X c1X c2X hb5
  obtain ⟨s1Y, e1Y, s2Y, e2Y, s3Y, e3Y, hBY, hMY⟩ := Hl5.out.get wm3.heap.size Y (by simp)
  obtain ⟨c0Y, c1Y, c2Y⟩ := cell3 hBY
  obtain ⟨w6, hw6⟩ : ∃ q, q = ((w5.alloc (.cells #[.int .i64 1, .int .i64 1, .int .i64 0, .int .i64 0, .int .i64 0, .int .i64 0, .int .i64 0, .int .i64 0] 3)).alloc (.cells #[.string ⟨kC.toArray⟩, .int .i64 0, .int .i64 1, .int .i64 65536] 45)).alloc (.cells #[.string ⟨kB.toArray⟩, .int .i64 0, .int .i64 1] 47) := ⟨_, rfl⟩
  have hb6 : Below w5.heap.size w5 w6 := by rw [hw6]; exact ((kept_alloc _ _).alloc (by simp) _).alloc (by simp; omega) _
  have hlit : MapV (fun _ => True) w6 (.agg #[.slice (some ⟨w5.heap.size, 0, none⟩) 8 8, .slice (some ⟨w5.heap.size + 1, 0, none⟩) 1 1, .slice (some ⟨w5.heap.size + 1 + 1, 0, none⟩) 1 1]) knY := by
    have hbY := HY.out ▸ hMY.bnd
    refine ⟨_, _, _, rfl, ?_, ?_, ?_, hbY.seenB, hbY.itemsB, hbY.goneB⟩
    · have h1 := rows_newK w5 #[.int .i64 1, .int .i64 1, .int .i64 0, .int .i64 0, .int .i64 0, .int .i64 0, .int .i64 0, .int .i64 0] 3 8 1 rfl (by unfold maxLen; omega)
      rw [hw6]
      exact ((h1.keep fun b _ hlt => Below.heap_alloc _ _ _ hlt).keep fun b _ hlt => Below.heap_alloc _ _ _ hlt).mono fun _ _ _ => trivial
    · have h1 := rows_newK (w5.alloc (.cells #[.int .i64 1, .int .i64 1, .int .i64 0, .int .i64 0, .int .i64 0, .int .i64 0, .int .i64 0, .int .i64 0] 3)) #[.string ⟨kC.toArray⟩, .int .i64 0, .int .i64 1, .int .i64 65536] 45 1 4 rfl (by unfold maxLen; omega)
      simp only [World.size_alloc] at h1
      rw [hw6]
      exact (h1.keep fun b _ hlt => Below.heap_alloc _ _ _ hlt).mono fun _ _ _ => trivial
    · have h1 := rows_newK ((w5.alloc (.cells #[.int .i64 1, .int .i64 1, .int .i64 0, .int .i64 0, .int .i64 0, .int .i64 0, .int .i64 0, .int .i64 0] 3)).alloc (.cells #[.string ⟨kC.toArray⟩, .int .i64 0, .int .i64 1, .int .i64 65536] 45)) #[.string ⟨kB.toArray⟩, .int .i64 0, .int .i64 1] 47 1 3 rfl (by unfold maxLen; omega)
      simp only [World.size_alloc] at h1
      rw [hw6]
      exact h1.mono fun _ _ _ => trivial
  have HS := Lib.hid (same_any w6 _ _ (.agg #[.slice s1Y Y.seen.length e1Y, .slice s2Y Y.items.length e2Y, .slice s3Y Y.gone.length e3Y]) _ Y knY ⟨_, _, _, rfl, hMY.keep (w' := w6) fun q hq _ => hb6.block q hq⟩ hlit KY.out.2.1 KY.out.2.2.1 KY.out.2.2.2)
  have Hw6 := Lib.hid hw6; have Hl6 := Lib.hid (Hl5.out.keep hb6); have HW6 := Lib.hid (HW5.out.trans (hb6.mono HW5.out.size))
  clear hw6 hb6 hlit hBY hMY
  go_wp2_with fail
  rw [← Hw6.out]
  refine HS.out.mono ?_
  rintro e w7 ⟨r, rfl, hr, hb7⟩
  obtain rfl : r = true := hr.2 HY.out.symm
  have Hl7 := Lib.hid (Hl6.out.keep hb7); have HW7 := Lib.hid (HW6.out.trans (hb7.mono HW6.out.size))
  clear HS hr hb7 c0Y c1Y c2Y
  obtain ⟨s1X, e1X, s2X, e2X, s3X, e3X, hBX, hMX⟩ := Hl7.out.get wm2.heap.size X (by simp)
  obtain ⟨c0X, c1X, c2X⟩ := cell3 hBX
  obtain ⟨s1Y, e1Y, s2Y, e2Y, s3Y, e3Y, hBY, hMY⟩ := Hl7.out.get wm3.heap.size Y (by simp)
  obtain ⟨c0Y, c1Y, c2Y⟩ := cell3 hBY
  have hU := pmerge_any w7 (HTb.out _ HW7.out).1 (HTb.out _ HW7.out).2 _ _ (.agg #[.slice s1X X.seen.length e1X, .slice s2X X.items.length e2X, .slice s3X X.gone.length e3X]) (.agg #[.slice s1Y Y.seen.length e1Y, .slice s2Y Y.items.length e2Y, .slice s3Y Y.gone.length e3Y]) X Y ⟨_, _, _, rfl, hMX⟩ ⟨_, _, _, rfl, hMY⟩ KX.out.1.1 KX.out.1.2 KY.out.1.1 KY.out.1.2
  rw [EA.out] at hU
  have HU := Lib.hid hU
  skip
  clear hU hBX hMX hBY hMY
  go_wp2_with fail
  skip
  refine HU.out.mono ?_
  rintro e wm8 ⟨⟨r, rfl, ho, hbd⟩, hbm⟩
  obtain ⟨t1, t2, t3, rfl, ho⟩ := ho
  dsimp only at ho hbd ⊢
  obtain ⟨n18, m18, rfl⟩ := own_shape ho.seen
  obtain ⟨n28, m28, rfl⟩ := own_shape ho.items
  obtain ⟨n38, m38, rfl⟩ := own_shape ho.gone
  obtain ⟨w8, hw8⟩ : ∃ q, q = wm8.alloc (.cells #[.slice n18 Y.seen.length m18, .slice n28 Y.items.length m28, .slice n38 Y.gone.length m38] 27) := ⟨_, rfl⟩
  have hk8 : Below wm8.heap.size wm8 w8 := by rw [hw8]; exact kept_alloc _ _
  have hbw : Below w7.heap.size w7 w8 := hbm.trans (hk8.mono hbm.size)
  have hmb : MB w8 wm8.heap.size Y := ⟨_, _, _, _, _, _, by rw [hw8]; exact Blk.new _ _ _, (((ho.below hk8).map hbd).mono fun q _ hlt => hlt)⟩
  have Hl8 := Lib.hid (show Has ((wm8.heap.size, Y) :: [(wm4.heap.size, Z), (wm3.heap.size, Y), (wm2.heap.size, X)]) w8 from (Hl7.out.keep hbw).cons hmb)
  have HW8 := Lib.hid (show Below w.heap.size w w8 from HW7.out.trans (hbw.mono HW7.out.size))
  have Hw8 := Lib.hid hw8
  clear hk8 hbw hmb ho hbd hbm
  clear HU c0X c1X c2X c0Y c1Y c2Y
  obtain ⟨s1X, e1X, s2X, e2X, s3X, e3X, hBX, hMX⟩ := Hl8.out.get wm4.heap.size Z (by simp)
  obtain ⟨c0X, c1X, c2X⟩ := cell3 hBX
  obtain ⟨s1Y, e1Y, s2Y, e2Y, s3Y, e3Y, hBY, hMY⟩ := Hl8.out.get wm3.heap.size Y (by simp)
  obtain ⟨c0Y, c1Y, c2Y⟩ := cell3 hBY
  have hU := pmerge_any w8 (HTb.out _ HW8.out).1 (HTb.out _ HW8.out).2 _ _ (.agg #[.slice s1X Z.seen.length e1X, .slice s2X Z.items.length e2X, .slice s3X Z.gone.length e3X]) (.agg #[.slice s1Y Y.seen.length e1Y, .slice s2Y Y.items.length e2Y, .slice s3Y Y.gone.length e3Y]) Z Y ⟨_, _, _, rfl, hMX⟩ ⟨_, _, _, rfl, hMY⟩ KZ.out.1.1 KZ.out.1.2 KY.out.1.1 KY.out.1.2
  rw [EB.out] at hU
  have HU := Lib.hid hU
  rw [Hw8.out] at c0X c1X c2X c0Y c1Y c2Y
  clear hU hBX hMX hBY hMY
  go_wp2_with fail
  rw [← Hw8.out]
  refine HU.out.mono ?_
  rintro e wm9 ⟨⟨r, rfl, ho, hbd⟩, hbm⟩
  obtain ⟨t1, t2, t3, rfl, ho⟩ := ho
  dsimp only at ho hbd ⊢
  obtain ⟨n19, m19, rfl⟩ := own_shape ho.seen
  obtain ⟨n29, m29, rfl⟩ := own_shape ho.items
  obtain ⟨n39, m39, rfl⟩ := own_shape ho.gone
  obtain ⟨w9, hw9⟩ : ∃ q, q = wm9.alloc (.cells #[.slice n19 M.seen.length m19, .slice n29 M.items.length m29, .slice n39 M.gone.length m39] 27) := ⟨_, rfl⟩
  have hk9 : Below wm9.heap.size wm9 w9 := by rw [hw9]; exact kept_alloc _ _
  have hbw : Below w8.heap.size w8 w9 := hbm.trans (hk9.mono hbm.size)
  have hmb : MB w9 wm9.heap.size M := ⟨_, _, _, _, _, _, by rw [hw9]; exact Blk.new _ _ _, (((ho.below hk9).map hbd).mono fun q _ hlt => hlt)⟩
  have Hl9 := Lib.hid (show Has ((wm9.heap.size, M) :: [(wm8.heap.size, Y), (wm4.heap.size, Z), (wm3.heap.size, Y), (wm2.heap.size, X)]) w9 from (Hl8.out.keep hbw).cons hmb)
  have HW9 := Lib.hid (show Below w.heap.size w w9 from HW8.out.trans (hbw.mono HW8.out.size))
  have Hw9 := Lib.hid hw9
  clear hk9 hbw hmb ho hbd hbm
  clear HU c0X c1X c2X c0Y c1Y c2Y
  obtain ⟨s1X, e1X, s2X, e2X, s3X, e3X, hBX, hMX⟩ := Hl9.out.get wm8.heap.size Y (by simp)
  obtain ⟨c0X, c1X, c2X⟩ := cell3 hBX
  obtain ⟨s1Y, e1Y, s2Y, e2Y, s3Y, e3Y, hBY, hMY⟩ := Hl9.out.get wm3.heap.size Y (by simp)
  obtain ⟨c0Y, c1Y, c2Y⟩ := cell3 hBY
  have HE := Lib.hid (equal_any w9 _ _ (.agg #[.slice s1X Y.seen.length e1X, .slice s2X Y.items.length e2X, .slice s3X Y.gone.length e3X]) (.agg #[.slice s1Y Y.seen.length e1Y, .slice s2Y Y.items.length e2Y, .slice s3Y Y.gone.length e3Y]) Y Y ⟨_, _, _, rfl, hMX⟩ ⟨_, _, _, rfl, hMY⟩ KY.out.2.1 KY.out.2.2.1 KY.out.2.2.2 KY.out.2.1 KY.out.2.2.1 KY.out.2.2.2)
  rw [Hw9.out] at c0X c1X c2X c0Y c1Y c2Y
  clear hBX hMX hBY hMY
  go_wp2_with fail
  rw [← Hw9.out]
  refine HE.out.mono ?_
  rintro e w10 ⟨r, rfl, hr, hb⟩
  obtain rfl : r = true := hr.2 rfl
  have Hl10 := Lib.hid (Hl9.out.keep hb); have HW10 := Lib.hid (show Below w.heap.size w w10 from HW9.out.trans (hb.mono HW9.out.size))
  clear HE hr hb c0X c1X c2X c0Y c1Y c2Y
  obtain ⟨s1B, e1B, s2B, e2B, s3B, e3B, hBB, hMB⟩ := Hl10.out.get wm9.heap.size M (by simp)
  obtain ⟨c0B, c1B, c2B⟩ := cell3 hBB
  have hit : M.items = [⟨kB, 0, 2, 130816⟩, ⟨kC, 0, 1, 65536⟩] := by rw [← HM.out]; rfl
  have hl2 : M.items.length = 2 := by rw [hit]; rfl
  obtain ⟨bb, ob, rfl, -, -, hc⟩ := it_cell hMB.items (by omega)
  obtain ⟨x0, x1, x2, x3⟩ := hc 0 (by omega)
  have hx : M.items[0]'(by omega) = ⟨kB, 0, 2, 130816⟩ := by simp only [hit]; rfl
  rw [hx] at x0 x1 x2 x3
  simp only [Nat.zero_mul, Nat.add_zero] at x0 x1 x2 x3
  have HV := Lib.hid (pvalue_any w10 (HTb.out _ HW10.out).1 (HTb.out _ HW10.out).2 _ (.agg #[.slice s1B M.seen.length e1B, .slice (some ⟨bb, ob, none⟩) M.items.length e2B, .slice s3B M.gone.length e3B]) M ⟨_, _, _, rfl, hMB⟩ KM.out.1.1 KM.out.1.2 kB (by decide))
  rw [VB.out, hl2] at HV
  rw [hl2] at c1B
  clear hBB hMB hit hl2 hc hx
  go_wp2_with fail
  refine HV.out.mono ?_
  rintro e w11 ⟨rfl, hb11⟩
  have Hl11 := Lib.hid (Hl10.out.keep hb11); have HW11 := Lib.hid (HW10.out.trans (hb11.mono HW10.out.size))
  clear HV c0B c1B c2B hb11 x0 x1 x2 x3
  have HL0 := Lib.hid (Has.nil w11)
  have HN := Lib.hid (HNw.out w11)
  go_wp2_with fail
  skip
  refine HN.out.mono ?_
  rintro e w12 ⟨v12, rfl, hmn, hbn⟩
  obtain ⟨s112, s212, s312, rfl, -⟩ := id hmn
  have HW12 := Lib.hid (show Below w.heap.size w w12 from HW11.out.trans (hbn.mono HW11.out.size))
  have Hl12 := Lib.hid (HL0.out.keep hbn)
  have Hm12 := Lib.hid (hmn.mono (G := fun q => q < w12.heap.size) fun q _ hlt => hlt)
  clear hmn hbn
  clear HN
  have hU := puse_any w12 (HTb.out _ HW12.out).1 (HTb.out _ HW12.out).2 _ _ .new Hm12.out KN.out.1.1 KN.out.1.2 KN.out.2.2.1 KN.out.2.2.2 8 (fun _ => True) (.slice none 0 0) [] (Rows.nil _ _ _) (by decide) nofun
  rw [E1.out] at hU
  have HU := Lib.hid hU
  clear hU
  go_wp2_with fail
  skip
  refine HU.out.mono ?_
  rintro e wm13 ⟨⟨r, rfl, ho, hbd⟩, hbm⟩
  obtain ⟨t1, t2, t3, rfl, ho⟩ := ho
  dsimp only at ho hbd ⊢
  obtain ⟨n113, m113, rfl⟩ := own_shape ho.seen
  obtain ⟨n213, m213, rfl⟩ := own_shape ho.items
  obtain ⟨n313, m313, rfl⟩ := own_shape ho.gone
  obtain ⟨w13, hw13⟩ : ∃ q, q = wm13.alloc (.cells #[.slice n113 E.seen.length m113, .slice n213 E.items.length m213, .slice n313 E.gone.length m313] 27) := ⟨_, rfl⟩
  have hk13 : Below wm13.heap.size wm13 w13 := by rw [hw13]; exact kept_alloc _ _
  have hbw : Below w12.heap.size w12 w13 := hbm.trans (hk13.mono hbm.size)
  have hmb : MB w13 wm13.heap.size E := ⟨_, _, _, _, _, _, by rw [hw13]; exact Blk.new _ _ _, (((ho.below hk13).map hbd).mono fun q _ hlt => hlt)⟩
  have Hl13 := Lib.hid (show Has ((wm13.heap.size, E) :: []) w13 from (Hl12.out.keep hbw).cons hmb)
  have HW13 := Lib.hid (show Below w.heap.size w w13 from HW12.out.trans (hbw.mono HW12.out.size))
  have Hw13 := Lib.hid hw13
  clear hk13 hbw hmb ho hbd hbm
  clear HU
  have HN := Lib.hid (HNw.out w13)
  go_wp2_with fail
  rw [← Hw13.out]
  refine HN.out.mono ?_
  rintro e w14 ⟨v14, rfl, hmn, hbn⟩
  obtain ⟨s114, s214, s314, rfl, -⟩ := id hmn
  have HW14 := Lib.hid (show Below w.heap.size w w14 from HW13.out.trans (hbn.mono HW13.out.size))
  have Hl14 := Lib.hid (Hl13.out.keep hbn)
  have Hm14 := Lib.hid (hmn.mono (G := fun q => q < w14.heap.size) fun q _ hlt => hlt)
  clear hmn hbn
  clear HN
  obtain ⟨wa15, hwa⟩ : ∃ q, q = w14.alloc (.cells #[.string ⟨kB.toArray⟩, .string ⟨kB.toArray⟩] 9) := ⟨_, rfl⟩
  have hba : Below w14.heap.size w14 wa15 := by rw [hwa]; exact kept_alloc _ _
  have hWa : Below w.heap.size w wa15 := HW14.out.trans (hba.mono HW14.out.size)
  have hra : Rows (fun q => q = w14.heap.size) wa15 1 (.slice (some ⟨w14.heap.size, 0, none⟩) 2 2) ([kB, kB] : List RKey).length (([kB, kB] : List RKey).map eS) := by rw [hwa]; exact rows_new w14 #[.string ⟨kB.toArray⟩, .string ⟨kB.toArray⟩] 9 2 rfl (by unfold maxLen; omega)
  have hU := puse_any wa15 (HTb.out _ hWa).1 (HTb.out _ hWa).2 _ _ .new ((Hm14.out).later hba (Nat.le_refl _)) KN.out.1.1 KN.out.1.2 KN.out.2.2.1 KN.out.2.2.2 0 _ _ [kB, kB] hra (by decide) (by decide)
  rw [E2.out] at hU
  skip
  have HU := Lib.hid hU; have HWa15 := Lib.hid hWa; have Hla15 := Lib.hid (Hl14.out.keep hba); have Hwa15 := Lib.hid hwa
  clear hU hba hWa hra hwa
  go_wp2_with fail
  rw [← Hwa15.out]
  refine HU.out.mono ?_
  rintro e wm15 ⟨⟨r, rfl, ho, hbd⟩, hbm⟩
  obtain ⟨t1, t2, t3, rfl, ho⟩ := ho
  dsimp only at ho hbd ⊢
  obtain ⟨n115, m115, rfl⟩ := own_shape ho.seen
  obtain ⟨n215, m215, rfl⟩ := own_shape ho.items
  obtain ⟨n315, m315, rfl⟩ := own_shape ho.gone
  obtain ⟨w15, hw15⟩ : ∃ q, q = wm15.alloc (.cells #[.slice n115 E.seen.length m115, .slice n215 E.items.length m215, .slice n315 E.gone.length m315] 27) := ⟨_, rfl⟩
  have hk15 : Below wm15.heap.size wm15 w15 := by rw [hw15]; exact kept_alloc _ _
  have hbw : Below wa15.heap.size wa15 w15 := hbm.trans (hk15.mono hbm.size)
  have hmb : MB w15 wm15.heap.size E := ⟨_, _, _, _, _, _, by rw [hw15]; exact Blk.new _ _ _, (((ho.below hk15).map hbd).mono fun q _ hlt => hlt)⟩
  have Hl15 := Lib.hid (show Has ((wm15.heap.size, E) :: [(wm13.heap.size, E)]) w15 from (Hla15.out.keep hbw).cons hmb)
  have HW15 := Lib.hid (show Below w.heap.size w w15 from HWa15.out.trans (hbw.mono HWa15.out.size))
  have Hw15 := Lib.hid hw15
  clear hk15 hbw hmb ho hbd hbm
  clear HU
  have HN := Lib.hid (HNw.out w15)
  go_wp2_with fail
  rw [← Hw15.out]
  refine HN.out.mono ?_
  rintro e w16 ⟨v16, rfl, hmn, hbn⟩
  obtain ⟨s116, s216, s316, rfl, -⟩ := id hmn
  have HW16 := Lib.hid (show Below w.heap.size w w16 from HW15.out.trans (hbn.mono HW15.out.size))
  have Hl16 := Lib.hid (Hl15.out.keep hbn)
  have Hm16 := Lib.hid (hmn.mono (G := fun q => q < w16.heap.size) fun q _ hlt => hlt)
  clear hmn hbn
  clear HN
  obtain ⟨wa17, hwa⟩ : ∃ q, q = w16.alloc (.cells #[.string ⟨([107] : RKey).toArray⟩] 9) := ⟨_, rfl⟩
  have hba : Below w16.heap.size w16 wa17 := by rw [hwa]; exact kept_alloc _ _
  have hWa : Below w.heap.size w wa17 := HW16.out.trans (hba.mono HW16.out.size)
  have hra : Rows (fun q => q = w16.heap.size) wa17 1 (.slice (some ⟨w16.heap.size, 0, none⟩) 1 1) ([([107] : RKey)] : List RKey).length (([([107] : RKey)] : List RKey).map eS) := by rw [hwa]; exact rows_new w16 #[.string ⟨([107] : RKey).toArray⟩] 9 1 rfl (by unfold maxLen; omega)
  have hU := puse_any wa17 (HTb.out _ hWa).1 (HTb.out _ hWa).2 _ _ .new ((Hm16.out).later hba (Nat.le_refl _)) KN.out.1.1 KN.out.1.2 KN.out.2.2.1 KN.out.2.2.2 0 _ _ [([107] : RKey)] hra (by decide) (by decide)
  rw [E3.out] at hU
  skip
  have HU := Lib.hid hU; have HWa17 := Lib.hid hWa; have Hla17 := Lib.hid (Hl16.out.keep hba); have Hwa17 := Lib.hid hwa
  clear hU hba hWa hra hwa
  go_wp2_with fail
  rw [← Hwa17.out]
  refine HU.out.mono ?_
  rintro e wm17 ⟨⟨r, rfl, ho, hbd⟩, hbm⟩
  obtain ⟨t1, t2, t3, rfl, ho⟩ := ho
  dsimp only at ho hbd ⊢
  obtain ⟨n117, m117, rfl⟩ := own_shape ho.seen
  obtain ⟨n217, m217, rfl⟩ := own_shape ho.items
  obtain ⟨n317, m317, rfl⟩ := own_shape ho.gone
  obtain ⟨w17, hw17⟩ : ∃ q, q = wm17.alloc (.cells #[.slice n117 E.seen.length m117, .slice n217 E.items.length m217, .slice n317 E.gone.length m317] 27) := ⟨_, rfl⟩
  have hk17 : Below wm17.heap.size wm17 w17 := by rw [hw17]; exact kept_alloc _ _
  have hbw : Below wa17.heap.size wa17 w17 := hbm.trans (hk17.mono hbm.size)
  have hmb : MB w17 wm17.heap.size E := ⟨_, _, _, _, _, _, by rw [hw17]; exact Blk.new _ _ _, (((ho.below hk17).map hbd).mono fun q _ hlt => hlt)⟩
  have Hl17 := Lib.hid (show Has ((wm17.heap.size, E) :: [(wm15.heap.size, E), (wm13.heap.size, E)]) w17 from (Hla17.out.keep hbw).cons hmb)
  have HW17 := Lib.hid (show Below w.heap.size w w17 from HWa17.out.trans (hbw.mono HWa17.out.size))
  have Hw17 := Lib.hid hw17
  clear hk17 hbw hmb ho hbd hbm
  clear HU
  have KE := Lib.hid (show ((∀ x ∈ E.items, x.key.length ≤ 1000000) ∧ (∀ x ∈ E.gone, x.key.length ≤ 1000000)) ∧ E.seen.length ≤ 1000000 ∧ E.items.length ≤ 1000000 ∧ E.gone.length ≤ 1000000 by rw [← HE.out]; exact ⟨⟨nofun, nofun⟩, by decide, by decide, by decide⟩)
  have HmE := Lib.hid (show MapV (fun q => 0 ≤ q) w17 nilV E by rw [← HE.out]; exact (own_nil w17 0).map bnd_empty)
  have hU := puse_any w17 (HTb.out _ HW17.out).1 (HTb.out _ HW17.out).2 _ _ E HmE.out KE.out.1.1 KE.out.1.2 KE.out.2.2.1 KE.out.2.2.2 8 (fun _ => True) (.slice none 0 0) [] (Rows.nil _ _ _) (by decide) nofun
  rw [E4.out] at hU
  have HU := Lib.hid hU
  clear hU
  go_wp2_with fail
  rw [← Hw17.out]
  refine HU.out.mono ?_
  rintro e wm18 ⟨⟨r, rfl, ho, hbd⟩, hbm⟩
  obtain ⟨t1, t2, t3, rfl, ho⟩ := ho
  dsimp only at ho hbd ⊢
  obtain ⟨n118, m118, rfl⟩ := own_shape ho.seen
  obtain ⟨n218, m218, rfl⟩ := own_shape ho.items
  obtain ⟨n318, m318, rfl⟩ := own_shape ho.gone
  obtain ⟨w18, hw18⟩ : ∃ q, q = wm18.alloc (.cells #[.slice n118 E.seen.length m118, .slice n218 E.items.length m218, .slice n318 E.gone.length m318] 27) := ⟨_, rfl⟩
  have hk18 : Below wm18.heap.size wm18 w18 := by rw [hw18]; exact kept_alloc _ _
  have hbw : Below w17.heap.size w17 w18 := hbm.trans (hk18.mono hbm.size)
  have hmb : MB w18 wm18.heap.size E := ⟨_, _, _, _, _, _, by rw [hw18]; exact Blk.new _ _ _, (((ho.below hk18).map hbd).mono fun q _ hlt => hlt)⟩
  have Hl18 := Lib.hid (show Has ((wm18.heap.size, E) :: [(wm17.heap.size, E), (wm15.heap.size, E), (wm13.heap.size, E)]) w18 from (Hl17.out.keep hbw).cons hmb)
  have HW18 := Lib.hid (show Below w.heap.size w w18 from HW17.out.trans (hbw.mono HW17.out.size))
  have Hw18 := Lib.hid hw18
  clear hk18 hbw hmb ho hbd hbm
  clear HU
  have HDc := Lib.hid (show Calls Tryz.prog 6 #[.slice none 0 0] w18 (DPost w18 []) from pdecode_any w18 (HTb.out _ HW18.out).1 (HTb.out _ HW18.out).2 (fun q => q < w18.heap.size) none 0 [] (bytes_nil _ _) (fun q hq => hq) (by decide))
  unfold DPost at HDc
  rw [E5.out] at HDc
  go_wp2_with fail
  rw [← Hw18.out]
  refine HDc.out.mono ?_
  rintro e wm19 ⟨r, rfl, hmv, hbm⟩
  obtain ⟨t1, t2, t3, rfl, hmi⟩ := hmv
  dsimp only at hmi ⊢
  obtain ⟨n1, m1, rfl, -⟩ := hmi.seen.shape
  obtain ⟨n2, m2, rfl, -⟩ := hmi.items.shape
  obtain ⟨n3, m3, rfl, -⟩ := hmi.gone.shape
  obtain ⟨w19, hw19⟩ : ∃ q, q = wm19.alloc (.cells #[.slice n1 E.seen.length m1, .slice n2 E.items.length m2, .slice n3 E.gone.length m3] 27) := ⟨_, rfl⟩
  have hk19 : Below wm19.heap.size wm19 w19 := by rw [hw19]; exact kept_alloc _ _
  have HW19 := Lib.hid (show Below w.heap.size w w19 from HW18.out.trans ((hbm.trans (hk19.mono hbm.size)).mono HW18.out.size))
  have Hw19 := Lib.hid hw19
  have HL19 := Lib.hid (Has.nil w19)
  clear hmi hbm hk19 hw19 HDc
  have HN := Lib.hid (HNw.out w19)
  go_wp2_with fail
  rw [← Hw19.out]
  refine HN.out.mono ?_
  rintro e w20 ⟨v20, rfl, hmn, hbn⟩
  obtain ⟨s120, s220, s320, rfl, -⟩ := id hmn
  have HW20 := Lib.hid (show Below w.heap.size w w20 from HW19.out.trans (hbn.mono HW19.out.size))
  have Hl20 := Lib.hid (HL19.out.keep hbn)
  have Hm20 := Lib.hid (hmn.mono (G := fun q => q < w20.heap.size) fun q _ hlt => hlt)
  clear hmn hbn
  clear HN
  have hEn := pencode_any w20 (HTb.out _ HW20.out).1 (HTb.out _ HW20.out).2 _ _ .new Hm20.out KN.out.1.1 KN.out.1.2
  unfold EncPost at hEn
  rw [show encR .new = (List.replicate 10 0, 0) by unfold encR; rw [kn_new, kn_code]; rfl] at hEn
  have HEn := Lib.hid hEn
  clear hEn
  go_wp2_with fail
  refine HEn.out.mono ?_
  rintro e w21 ⟨⟨v21, rfl, hv21⟩, hb21⟩
  obtain ⟨bz, hbz⟩ : ∃ b, List.replicate 10 (0 : UInt8) = b := ⟨_, rfl⟩
  rw [hbz] at hv21
  have HW21 := Lib.hid (HW20.out.trans (hb21.mono HW20.out.size))
  obtain ⟨i0, q1, q2, q3, q4⟩ := info_parts infoU8
  obtain ⟨wk, hmk, hownk, hgbk⟩ := run_make_full (P := Tryz.prog) w21.drew w21.heap.size 22 5 i0 _ 1 Tryz.underlying22 q1 q2 q3 .i64 .i64 10 (by rw [q4]; omega) (by unfold maxLen; omega) (Nat.le_refl _)
  have hmk' : (MK 22 (.int .i64 10) (.int .i64 10)).run Tryz.prog w21.drew = .ok (.slice (some ⟨w21.heap.size, 0, none⟩) 10 10) wk := hmk
  have hbk : Later w21.drew wk := (Below.refl w21.drew.heap.size w21.drew).grown hgbk (Nat.le_refl _) (by simp)
  have pc : ∀ w', Later w21.drew w' → (convert 22 9 v21).run Tryz.prog w' = .ok (.string ⟨bz.toArray⟩) w' := fun w' hh => run_strB (hv21.keep (w' := w') fun q _ hlt => hh.block q hlt)
  have hkb : Bytes (fun q => q < wk.heap.size) wk (.slice (some ⟨w21.heap.size, 0, none⟩) 10 10) (List.replicate 10 0) := by
    rw [zero10] at hownk
    exact Bytes.of_owns (l := List.replicate 10 0) (by simpa using hownk) _ fun k _ h => h
  rw [hbz] at hkb
  have pz : ∀ w', Later wk w' → (convert 22 9 (.slice (some ⟨w21.heap.size, 0, none⟩) 10 10)).run Tryz.prog w' = .ok (.string ⟨bz.toArray⟩) w' := fun w' hh => run_strB (hkb.keep (w' := w') fun q _ hlt => hh.block q hlt)
  have hWk : Below w.heap.size w wk := HW21.out.trans (((Below.refl w21.heap.size w21).drew.trans hbk).mono HW21.out.size)
  have HWk := Lib.hid hWk
  have HWo := Lib.hid (works_any wk (HTb.out _ hWk).1 (HTb.out _ hWk).2)
  have Hbk := Lib.hid hbk
  clear HEn hv21 hb21 q1 q2 q3 q4 hmk hownk hgbk hkb hWk hbk hbz
  go_wp2_with fail
  refine wp_region_can Later [(0, true), (1, true), (2, true), (3, true), (4, true), (5, true), (6, true), (7, true), (8, true), (9, true), (10, true), (11, true), (12, true), (13, true), (14, true), (15, true), (16, true), (17, true), (18, true), (19, true), (20, true), (21, true), (22, true), (23, true), (24, true), (25, false), (26, true), (27, true), (28, true), (29, true), (30, false), (31, true), (32, true)] (by kernel_rfl) (by kernel_rfl) later_refl later_trans ?_
  repeat (first
    | (refine can_yes (v := ?_) rfl (wanted_none rfl) (fun w' hC => ?_) (fun K hK => ?_); rotate_left; (focus (go_simp; (try simp (disch := omega) only [IntWalk.i64_in]); first | done | exact rfl)); go_simp; (try simp (disch := omega) only [IntWalk.i64_in]); refine hK _ ?_; clear hK K)
    | (refine can_guard rfl (fun A B hA hB => ?_); go_simp; first | (refine hA ⟨?_, fun w' hC => ?_, fun K hK => ?_⟩; rotate_left; (focus (go_simp; (try simp (disch := omega) only [IntWalk.i64_in]); first | done | exact rfl)); go_simp; (try simp (disch := omega) only [IntWalk.i64_in]); refine hK _ ?_; clear hK K hA hB A B) | (refine hB (fun K hK => ?_); go_simp; (try simp (disch := omega) only [IntWalk.i64_in]); refine hK _ ?_; clear hK K hA hB A B))
    | (refine can_guard_go rfl (fun A B hA hB => ?_); go_simp; refine hB (fun K hK => ?_); go_simp; (try simp (disch := omega) only [IntWalk.i64_in]); refine hK _ ?_; clear hK K hA hB A B))
  refine can_go rfl rfl (fun KK hK => ?_)
  go_simp
  refine ⟨Hbk.out, hK _ _ ?_⟩
  clear hK KK hmk' pc
  go_simp
  repeat (first
    | (refine can_yes (v := ?_) rfl (wanted_none rfl) (fun w' hC => ?_) (fun K hK => ?_); rotate_left; (focus (go_simp; (try simp (disch := omega) only [IntWalk.i64_in]); first | done | exact rfl)); go_simp; (try simp (disch := omega) only [IntWalk.i64_in]); refine hK _ ?_; clear hK K)
    | (refine can_guard rfl (fun A B hA hB => ?_); go_simp; first | (refine hA ⟨?_, fun w' hC => ?_, fun K hK => ?_⟩; rotate_left; (focus (go_simp; (try simp (disch := omega) only [IntWalk.i64_in]); first | done | exact rfl)); go_simp; (try simp (disch := omega) only [IntWalk.i64_in]); refine hK _ ?_; clear hK K hA hB A B) | (refine hB (fun K hK => ?_); go_simp; (try simp (disch := omega) only [IntWalk.i64_in]); refine hK _ ?_; clear hK K hA hB A B))
    | (refine can_guard_go rfl (fun A B hA hB => ?_); go_simp; refine hB (fun K hK => ?_); go_simp; (try simp (disch := omega) only [IntWalk.i64_in]); refine hK _ ?_; clear hK K hA hB A B))
  refine can_go rfl rfl (fun KK hK => ?_)
  go_simp
  refine HWo.out.mono ?_
  rintro e w22 ⟨rfl, hb22⟩
  refine ⟨_, rfl, hb22, hK _ _ ?_⟩
  clear hK KK HWo pz
  go_simp
  repeat (first
    | (refine can_yes (v := ?_) rfl (wanted_none rfl) (fun w' hC => ?_) (fun K hK => ?_); rotate_left; (focus (go_simp; (try simp (disch := omega) only [IntWalk.i64_in]); first | done | exact rfl)); go_simp; (try simp (disch := omega) only [IntWalk.i64_in]); refine hK _ ?_; clear hK K)
    | (refine can_guard rfl (fun A B hA hB => ?_); go_simp; first | (refine hA ⟨?_, fun w' hC => ?_, fun K hK => ?_⟩; rotate_left; (focus (go_simp; (try simp (disch := omega) only [IntWalk.i64_in]); first | done | exact rfl)); go_simp; (try simp (disch := omega) only [IntWalk.i64_in]); refine hK _ ?_; clear hK K hA hB A B) | (refine hB (fun K hK => ?_); go_simp; (try simp (disch := omega) only [IntWalk.i64_in]); refine hK _ ?_; clear hK K hA hB A B))
    | (refine can_guard_go rfl (fun A B hA hB => ?_); go_simp; refine hB (fun K hK => ?_); go_simp; (try simp (disch := omega) only [IntWalk.i64_in]); refine hK _ ?_; clear hK K hA hB A B))
  refine can_nil ?_
  go_wp2_with fail
  go_ret
  exact ⟨rfl, HWk.out.trans (hb22.mono HWk.out.size)⟩
end Go.Proofs.YteadnkdkkhicfaaGreatDoor
