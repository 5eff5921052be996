/-
  SLawA
-/
import Derived.Test.YtelphnigdancpaaGreatDoorZA42
import Derived.Test.YtelphnigdancpaaGreatDoorZA38
namespace Go.Proofs.YtelphnigdancpaaGreatDoor
open Go.RowKit Go.Lib
set_option linter.unusedVariables false
set_option maxRecDepth 20000
attribute [local go_sem] opC upC

def ordF6 : List FStep := [.steady 0, .steady 1, .steady 2, .steady 3, .steady 4, .steady 5, .steady 6, .steady 7, .steady 8, .steady 9, .steady 10, .steady 11, .steady 12, .steady 13, .steady 14, .steady 15, .float 16, .float 17, .fixed 18, .fixed 19]
set_option maxRecDepth 100000 in
set_option maxHeartbeats 8000000 in
theorem ShareSuffices_walk (v : Value) (fr tt : Int) (w : World) (hv : IsActs w v) (hfr : (Lit.int .u8 fr).wf = true) (hto : (Lit.int .u8 tt).wf = true) (hq : Tabs w ∧ 3 ≤ w.heap.size) :
    Calls Tryz.prog 6 #[v, .int .u8 fr, .int .u8 tt] w fun e w' => e = .returned (.bool true) ∧ Below w.heap.size w w' := by
  obtain ⟨A, hA⟩ := acts_of hv
  obtain ⟨i, him, hi3⟩ := mod3 (bounds_u8 hfr)
  obtain ⟨j, hjm, hj3⟩ := mod3 (bounds_u8 hto)
  have hi3I : (i : Int) < 3 := by omega
  have hj3I : (j : Int) < 3 := by omega
  have HTb := Lib.hid (show ∀ w', Below w.heap.size w w' → Tabs w' ∧ 3 ≤ w'.heap.size from fun w' hb => ⟨tabs_below hq.1 hq.2 hb, Nat.le_trans hq.2 hb.size⟩)
  have HOk := Lib.hid hA.ok
  have HPl := Lib.hid (fun h => play_any w hq.1 hq.2 v A hA h)
  obtain ⟨aa, ca, rfl, h9, -⟩ := hA
  have h9I : (A.length : Int) ≤ 9223372036854775807 := by omega
  have HAv := Lib.hid hv
  clear hq hfr hto hv
  go_enter Tryz.func6, Tryz.ntmps6
  by_cases h60 : (60 : Int) < (A.length : Int)
  · go_wp2_with fail
    go_ret
    exact ⟨rfl, Below.refl _ _⟩
  have hl60 : A.length ≤ 60 := by omega
  have HC := Lib.hid (HPl.out hl60)
  have Hl60 := Lib.hid hl60
  clear HPl hl60
  go_wp2_with fail
  refine HC.out.mono ?_
  rintro e w1 ⟨p, g, hb, lv, rfl, hW1, hb1⟩
  clear HC
  obtain ⟨s, hs⟩ : ∃ s, runS A A.length = s := ⟨_, rfl⟩
  have hI := run_inv HOk.out A.length (Nat.le_refl _) (by have := Hl60.out; omega)
  rw [hs] at hW1 hI
  obtain ⟨N, hN⟩ : ∃ N : Int, (A.length : Int) = N := ⟨_, rfl⟩
  have HI := Lib.hid (show SInv K4 N [] s by rw [← hN]; exact hI)
  clear hI hs hN
  obtain ⟨s1A, e1A, s2A, e2A, s3A, e3A, y0, y1, y2, hMA⟩ := hW1.maps.get i hi3
  obtain ⟨s1B, e1B, s2B, e2B, s3B, e3B, v0, v1, v2, hMB⟩ := hW1.maps.get j hj3
  have x0 : w1.cell? ⟨p, 0, none⟩ = some (.slice (some ⟨g, 0, none⟩) 3 3) := hW1.box.cell 0
  have pz : ∀ q x, w1.cell? q = some x → ∀ w', LaterT w1.heap.size 31 w1.drew w' → w'.cell? q = some x := fun q x hc w' hh => laterTC hc rfl hh
  have px0 := pz _ _ x0
  have py0 := pz _ _ y0
  have py1 := pz _ _ y1
  have py2 := pz _ _ y2
  have pv0 := pz _ _ v0
  have pv1 := pz _ _ v1
  have pv2 := pz _ _ v2
  obtain ⟨a, ha⟩ : ∃ a, s.m i = a := ⟨_, rfl⟩
  obtain ⟨b, hb'⟩ : ∃ b, s.m j = b := ⟨_, rfl⟩
  rw [ha] at hMA py0 py1 py2
  rw [hb'] at hMB pv0 pv1 pv2
  have hga : Good K4 N a := ha ▸ HI.out.three.good i hi3
  have hgb : Good K4 N b := hb' ▸ HI.out.three.good j hj3
  have Hva := Lib.hid (hga.valid (by decide))
  have Hvb := Lib.hid (hgb.valid (by decide))
  have Ka := Lib.hid (valid_keys Hva.out)
  have Kb := Lib.hid (valid_keys Hvb.out)
  have hOk : LetOk K4 N s.m ⟨j, i, (s.m j).seen, s.m i⟩ := write_ok HI.out hi3 hj3 (HI.out.three.good j hj3).formed.knows fun _ => Int.le_refl _
  have hE1 := send_ok hOk (by decide)
  have hE2 := recv_ok HI.out hOk (.inl ⟨i, hi3, rfl⟩) (by decide)
  have hvm := msg_valid hOk (by decide)
  dsimp only at hE1 hE2
  obtain ⟨X, hX⟩ : ∃ X, (⟨j, i, (s.m j).seen, s.m i⟩ : SLet).msg = X := ⟨_, rfl⟩
  rw [hX] at hE1 hE2 hvm
  rw [ha, hb'] at hE1 hE2
  have HE1 := Lib.hid hE1; have HE2 := Lib.hid hE2
  have KX := Lib.hid (valid_keys (svalid_tell hvm))
  have hE3 := mergeR_ok hgb hga (by decide)
  have HE3 := Lib.hid hE3
  obtain ⟨M, hM⟩ : ∃ M, mergeM b a = M := ⟨_, rfl⟩
  rw [hM] at HE2 HE3
  have Hvm := Lib.hid (show validR M = true by rw [← hM]; exact (hgb.merge hga).valid (by decide))
  have HMA := Lib.hid hMA; have HMB := Lib.hid hMB; have Hb1 := Lib.hid hb1
  clear hE1 hE2 hE3 hM hX hvm hOk hga hgb ha hb' hMA hMB y0 y1 y2 v0 v1 v2 x0 pz hW1 hb1
  go_wp2_with fail
  refine wp_region_fl (LaterT w1.heap.size 31) (FreshT w1.heap.size 31 3) [16, 17] ordF6 60 (by kernel_rfl) (by kernel_rfl) (laterT_refl _ _) (laterT_trans _ _) (floats_of #[.slice none 0 0, .slice none 0 0, .slice none 0 0] rfl (Nat.le_refl _) (fun j hj => ?_) (fun i j hi hj hne => ?_)) ?_
  · have hj' : j = 16 ∨ j = 17 := by simpa using hj
    rcases hj' with rfl | rfl
    · exact ⟨_, rfl, rfl, fun a W => by go_simp⟩
    · exact ⟨_, rfl, rfl, fun a W => by go_simp⟩
  · have hi' : i = 16 ∨ i = 17 := by simpa using hi
    have hj' : j = 16 ∨ j = 17 := by simpa using hj
    intro d hd hd2
    rw [← hd2] at hd
    rcases hi' with rfl | rfl <;> rcases hj' with rfl | rfl <;> first | exact hne rfl | exact absurd hd (by decide)
  unfold ordF6
  repeat (refine canF_yes (v := ?_) rfl (wanted_none rfl) (fun w' hC => ?_) (fun K hK => ?_); rotate_left; (focus (go_simp; (try simp (disch := omega) only [IntWalk.i64_in]); (try simp (disch := omega) only [IntWalk.u32_in]); (try simp (disch := omega) only [IntWalk.u8_in]); (try simp (disch := omega) only [IntWalk.i64_quo]); (try simp (disch := omega) only [IntWalk.rem_in]); first | done | exact rfl)); go_simp; (try simp (disch := omega) only [IntWalk.i64_in]); (try simp (disch := omega) only [IntWalk.u32_in]); (try simp (disch := omega) only [IntWalk.u8_in]); (try simp (disch := omega) only [IntWalk.i64_quo]); (try simp (disch := omega) only [IntWalk.rem_in]); refine hK _ ?_; clear hK K)
  clear px0 py0 py1 py2 pv0 pv1 pv2
  refine canF_float rfl (fun vO1 W1 hW1 hZ hU1 KK hK => ?_)
  obtain ⟨O1, L1, rfl, hO1, hk1, hn1⟩ := hZ
  refine hK _ _ ?_
  clear hK KK
  go_simp
  refine canF_float rfl (fun vO2 W2 hW2 hZ hU2 KK hK => ?_)
  obtain ⟨O2, L2, rfl, hO2, hk2, hn2⟩ := hZ
  have hne : O2 ≠ O1 := fun e => hU2 (by rw [e]; exact List.mem_cons_self)
  refine hK _ _ ?_
  clear hK KK hU1 hU2
  go_simp
  obtain ⟨L1', hk1, hn1'⟩ := hW2.typed O1 _ hO1 hk1
  rw [hn1] at hn1'
  obtain ⟨x0, x1, x2, rfl⟩ : ∃ x0 x1 x2, L1' = [x0, x1, x2] := by
    match L1', hn1' with
    | [x0, x1, x2], _ => exact ⟨x0, x1, x2, rfl⟩
  obtain ⟨y0, y1, y2, rfl⟩ : ∃ y0 y1 y2, L2 = [y0, y1, y2] := by
    match L2, hn2 with
    | [y0, y1, y2], _ => exact ⟨y0, y1, y2, rfl⟩
  have hb02 : Below w1.heap.size w1 W2 := (Below.refl w1.heap.size w1).drew.trans ((hW1.below (Nat.le_refl _)).trans (hW2.below hW1.size))
  obtain ⟨w3, hw3, kk1, hb3⟩ := fin3 hk1 hb02 hO1 (.slice s1A a.seen.length e1A) (.slice s2A a.items.length e2A) (.slice s3A a.gone.length e3A)
  have hl3 : LaterT w1.heap.size 31 W2 w3 := by
    rw [hw3]
    exact laterT_trans _ _ _ _ _ (laterT_trans _ _ _ _ _ (LaterT.set hk1 hO1 0 _) (LaterT.set (hk1.set 0 _) hO1 1 _)) (LaterT.set ((hk1.set 0 _).set 1 _) hO1 2 _)
  have hk23 : Blk w3 O2 [y0, y1, y2] 31 := by
    rw [hw3]
    exact ((hk2.set_other _ hne).set_other _ hne).set_other _ hne
  obtain ⟨w4, hw4, kk2, hb4⟩ := fin3 hk23 hb3 hO2 (.slice s1B b.seen.length e1B) (.slice s2B b.items.length e2B) (.slice s3B b.gone.length e3B)
  have hl4 : LaterT w1.heap.size 31 w3 w4 := by
    rw [hw4]
    exact laterT_trans _ _ _ _ _ (laterT_trans _ _ _ _ _ (LaterT.set hk23 hO2 0 _) (LaterT.set (hk23.set 0 _) hO2 1 _)) (LaterT.set ((hk23.set 0 _).set 1 _) hO2 2 _)
  have kk14 : Blk w4 O1 [.slice s1A a.seen.length e1A, .slice s2A a.items.length e2A, .slice s3A a.gone.length e3A] 31 := by
    rw [hw4]
    exact ((kk1.set_other _ hne.symm).set_other _ hne.symm).set_other _ hne.symm
  have hold : ∀ q, q < w1.heap.size → w4.heap[q]? = w1.heap[q]? := fun q hq => hb4.block q hq
  have Hl4 := Lib.hid (show Has [(O1, a), (O2, b)] w4 from ((Has.nil w4).cons (⟨_, _, _, _, _, _, kk2, (HMB.out.keep (w' := w4) fun q hq hlt => hold q hlt).mono fun q _ hlt => hlt⟩ : MB w4 O2 b)).cons (⟨_, _, _, _, _, _, kk14, (HMA.out.keep (w' := w4) fun q hq hlt => hold q hlt).mono fun q _ hlt => hlt⟩ : MB w4 O1 a))
  have Hs4 := Lib.hid (HasS.nil w4)
  have HW4 := Lib.hid (show Below w.heap.size w w4 from Hb1.out.trans (hb4.mono Hb1.out.size))
  have Hl3' := Lib.hid hl3; have Hl4' := Lib.hid hl4; have Hw3 := Lib.hid hw3; have Hw4 := Lib.hid hw4
  obtain ⟨u0, u1, u2⟩ := cell3 hk1
  obtain ⟨u3, u4, u5⟩ := cell3 hk23
  have f0 := hk1.free 0; have f1 := hk1.free 1; have f2 := hk1.free 2
  have f3 := hk23.free 0; have f4 := hk23.free 1; have f5 := hk23.free 2
  clear hl3 hl4 hw3 hw4 kk1 kk2 kk14 hb3 hb4 hk1 hk2 hk23 hold hb02 hW1 hW2 hn1 hn2 hn1' hne hO1 hO2
  refine canF_fixed rfl rfl (fun KK hK => ?_)
  go_simp
  rw [← Hw3.out]
  refine ⟨Hl3'.out, hK _ _ ?_⟩
  clear hK KK u0 u1 u2 f0 f1 f2
  go_simp
  refine canF_fixed rfl rfl (fun KK hK => ?_)
  go_simp
  rw [← Hw4.out]
  refine ⟨Hl4'.out, hK _ _ ?_⟩
  clear hK KK u3 u4 u5 f3 f4 f5
  go_simp
  refine canF_nil ?_
  -- Send
  obtain ⟨s1X, e1X, s2X, e2X, s3X, e3X, hBX, hMX⟩ := Hl4.out.get O1 a (by simp)
  obtain ⟨c0X, c1X, c2X⟩ := cell3 hBX
  obtain ⟨s1Y, e1Y, s2Y, e2Y, s3Y, e3Y, hBY, hMY⟩ := Hl4.out.get O2 b (by simp)
  obtain ⟨c0Y, c1Y, c2Y⟩ := cell3 hBY
  have hU := send_any w4 (HTb.out _ HW4.out).1 (HTb.out _ HW4.out).2 _ _ (i : Int) (.agg #[.slice s1X a.seen.length e1X, .slice s2X a.items.length e2X, .slice s3X a.gone.length e3X]) a ⟨_, _, _, rfl, hMX⟩ Ka.out.1 Ka.out.2 (.slice s1Y b.seen.length e1Y) b.seen hMY.seen
  rw [HE1.out] at hU
  have HU := Lib.hid hU
  clear hU hBX hMX hBY hMY
  go_wp2_with fail
  refine HU.out.mono ?_
  rintro e wm7 ⟨⟨r, rfl, ho, hbd⟩, hbm⟩
  obtain ⟨t0, t1, t2, t3, rfl, ho⟩ := ho
  dsimp only at ho hbd ⊢
  obtain ⟨n07, m07, rfl⟩ := own_shape ho.seen
  obtain ⟨n17, m17, rfl⟩ := own_shape ho.tell.seen
  obtain ⟨n27, m27, rfl⟩ := own_shape ho.tell.items
  obtain ⟨n37, m37, rfl⟩ := own_shape ho.tell.gone
  obtain ⟨w7, hw7⟩ : ∃ q, q = wm7.alloc (.cells #[.int .i64 X.frm, .slice n07 X.seen.length m07, .slice n17 X.tell.seen.length m17, .slice n27 X.tell.items.length m27, .slice n37 X.tell.gone.length m37] 39) := ⟨_, rfl⟩
  have hk7 : Below wm7.heap.size wm7 w7 := by rw [hw7]; exact kept_alloc _ _
  have hbw : Below w4.heap.size w4 w7 := hbm.trans (hk7.mono hbm.size)
  have hmb : MBS w7 wm7.heap.size X := ⟨_, _, _, _, _, _, _, _, by rw [hw7]; exact Blk.new _ _ _, (((ho.below hk7).msg hbd).mono fun q _ hlt => hlt)⟩
  have Hl7 := Lib.hid (Hl4.out.keep hbw)
  have Hs7 := Lib.hid (show HasS ((wm7.heap.size, X) :: []) w7 from (Hs4.out.keep hbw).cons hmb)
  have HW7 := Lib.hid (show Below w.heap.size w w7 from HW4.out.trans (hbw.mono HW4.out.size))
  have Hw7 := Lib.hid hw7
  clear hk7 hbw hmb ho hbd hbm hw7
  clear HU c0X c1X c2X c0Y c1Y c2Y
  -- Receive
  obtain ⟨s1A, e1A, s2A, e2A, s3A, e3A, hBA, hMA⟩ := Hl7.out.get O2 b (by simp)
  obtain ⟨c0A, c1A, c2A⟩ := cell3 hBA
  obtain ⟨s0X, e0X, s1X, e1X, s2X, e2X, s3X, e3X, hBX, hMX⟩ := Hs7.out.get wm7.heap.size X (by simp)
  obtain ⟨c0X, c1X, c2X, c3X, c4X⟩ := cell5 hBX
  have hU := recv_any w7 (HTb.out _ HW7.out).1 (HTb.out _ HW7.out).2 _ _ (.agg #[.slice s1A b.seen.length e1A, .slice s2A b.items.length e2A, .slice s3A b.gone.length e3A]) b ⟨_, _, _, rfl, hMA⟩ Kb.out.1 Kb.out.2 (.agg #[.int .i64 X.frm, .slice s0X X.seen.length e0X, .slice s1X X.tell.seen.length e1X, .slice s2X X.tell.items.length e2X, .slice s3X X.tell.gone.length e3X]) X ⟨_, _, _, _, rfl, hMX⟩ KX.out.1 KX.out.2
  rw [HE2.out] at hU
  have HU := Lib.hid hU
  rw [Hw7.out] at c0A c1A c2A c0X c1X c2X c3X c4X
  clear hU hBX hMX hBA hMA
  go_wp2_with fail
  rw [← Hw7.out]
  refine HU.out.mono ?_
  rintro e wm8 ⟨⟨r, rfl, ho, hbd⟩, hbm⟩
  obtain ⟨t1, t2, t3, rfl, ho⟩ := ho
  dsimp only at ho hbd ⊢
  obtain ⟨n18, m18, rfl⟩ := own_shape ho.seen
  obtain ⟨n28, m28, rfl⟩ := own_shape ho.items
  obtain ⟨n38, m38, rfl⟩ := own_shape ho.gone
  obtain ⟨w8, hw8⟩ : ∃ q, q = wm8.alloc (.cells #[.slice n18 M.seen.length m18, .slice n28 M.items.length m28, .slice n38 M.gone.length m38] 31) := ⟨_, rfl⟩
  have hk8 : Below wm8.heap.size wm8 w8 := by rw [hw8]; exact kept_alloc _ _
  have hbw : Below w7.heap.size w7 w8 := hbm.trans (hk8.mono hbm.size)
  have hmb : MB w8 wm8.heap.size M := ⟨_, _, _, _, _, _, by rw [hw8]; exact Blk.new _ _ _, (((ho.below hk8).map hbd).mono fun q _ hlt => hlt)⟩
  have Hl8 := Lib.hid (show Has ((wm8.heap.size, M) :: [(O1, a), (O2, b)]) w8 from (Hl7.out.keep hbw).cons hmb)
  have HW8 := Lib.hid (show Below w.heap.size w w8 from HW7.out.trans (hbw.mono HW7.out.size))
  have Hw8 := Lib.hid hw8
  clear hk8 hbw hmb ho hbd hbm
  clear HU c0X c1X c2X c3X c4X c0A c1A c2A
  obtain ⟨s1X, e1X, s2X, e2X, s3X, e3X, hBX, hMX⟩ := Hl8.out.get O2 b (by simp)
  obtain ⟨c0X, c1X, c2X⟩ := cell3 hBX
  obtain ⟨s1Y, e1Y, s2Y, e2Y, s3Y, e3Y, hBY, hMY⟩ := Hl8.out.get O1 a (by simp)
  obtain ⟨c0Y, c1Y, c2Y⟩ := cell3 hBY
  have hU := pmerge_any w8 (HTb.out _ HW8.out).1 (HTb.out _ HW8.out).2 _ _ (.agg #[.slice s1X b.seen.length e1X, .slice s2X b.items.length e2X, .slice s3X b.gone.length e3X]) (.agg #[.slice s1Y a.seen.length e1Y, .slice s2Y a.items.length e2Y, .slice s3Y a.gone.length e3Y]) b a ⟨_, _, _, rfl, hMX⟩ ⟨_, _, _, rfl, hMY⟩ Kb.out.1 Kb.out.2 Ka.out.1 Ka.out.2
  rw [HE3.out] at hU
  have HU := Lib.hid hU
  rw [Hw8.out] at c0X c1X c2X c0Y c1Y c2Y
  clear hU hBX hMX hBY hMY
  go_wp2_with fail
  rw [← Hw8.out]
  refine HU.out.mono ?_
  rintro e wm9 ⟨⟨r, rfl, ho, hbd⟩, hbm⟩
  obtain ⟨t1, t2, t3, rfl, ho⟩ := ho
  dsimp only at ho hbd ⊢
  obtain ⟨n19, m19, rfl⟩ := own_shape ho.seen
  obtain ⟨n29, m29, rfl⟩ := own_shape ho.items
  obtain ⟨n39, m39, rfl⟩ := own_shape ho.gone
  obtain ⟨w9, hw9⟩ : ∃ q, q = wm9.alloc (.cells #[.slice n19 M.seen.length m19, .slice n29 M.items.length m29, .slice n39 M.gone.length m39] 31) := ⟨_, rfl⟩
  have hk9 : Below wm9.heap.size wm9 w9 := by rw [hw9]; exact kept_alloc _ _
  have hbw : Below w8.heap.size w8 w9 := hbm.trans (hk9.mono hbm.size)
  have hmb : MB w9 wm9.heap.size M := ⟨_, _, _, _, _, _, by rw [hw9]; exact Blk.new _ _ _, (((ho.below hk9).map hbd).mono fun q _ hlt => hlt)⟩
  have Hl9 := Lib.hid (show Has ((wm9.heap.size, M) :: [(wm8.heap.size, M), (O1, a), (O2, b)]) w9 from (Hl8.out.keep hbw).cons hmb)
  have HW9 := Lib.hid (show Below w.heap.size w w9 from HW8.out.trans (hbw.mono HW8.out.size))
  have Hw9 := Lib.hid hw9
  clear hk9 hbw hmb ho hbd hbm
  clear HU c0X c1X c2X c0Y c1Y c2Y
  obtain ⟨s1X, e1X, s2X, e2X, s3X, e3X, hBX, hMX⟩ := Hl9.out.get wm8.heap.size M (by simp)
  obtain ⟨c0X, c1X, c2X⟩ := cell3 hBX
  obtain ⟨s1Y, e1Y, s2Y, e2Y, s3Y, e3Y, hBY, hMY⟩ := Hl9.out.get wm9.heap.size M (by simp)
  obtain ⟨c0Y, c1Y, c2Y⟩ := cell3 hBY
  have HE := Lib.hid (equal_any w9 _ _ (.agg #[.slice s1X M.seen.length e1X, .slice s2X M.items.length e2X, .slice s3X M.gone.length e3X]) (.agg #[.slice s1Y M.seen.length e1Y, .slice s2Y M.items.length e2Y, .slice s3Y M.gone.length e3Y]) M M ⟨_, _, _, rfl, hMX⟩ ⟨_, _, _, rfl, hMY⟩ (lenOk Hvm.out).1 (lenOk Hvm.out).2.1 (lenOk Hvm.out).2.2 (lenOk Hvm.out).1 (lenOk Hvm.out).2.1 (lenOk Hvm.out).2.2)
  rw [Hw9.out] at c0X c1X c2X c0Y c1Y c2Y
  clear hBX hMX hBY hMY
  go_wp2_with fail
  rw [← Hw9.out]
  refine HE.out.mono ?_
  rintro e w10 ⟨r, rfl, hr, hb⟩
  obtain rfl : r = true := hr.2 rfl
  have Hl10 := Lib.hid (Hl9.out.keep hb); have HW10 := Lib.hid (show Below w.heap.size w w10 from HW9.out.trans (hb.mono HW9.out.size))
  clear HE hr hb c0X c1X c2X c0Y c1Y c2Y
  have HW := Lib.hid (works_any w10 (HTb.out _ HW10.out).1 (HTb.out _ HW10.out).2)
  go_wp2_with fail
  skip
  refine HW.out.mono ?_
  rintro e wf ⟨rfl, hbf⟩
  clear HW
  go_wp2_with fail
  go_ret
  exact ⟨rfl, HW10.out.trans (hbf.mono HW10.out.size)⟩
end Go.Proofs.YtelphnigdancpaaGreatDoor
