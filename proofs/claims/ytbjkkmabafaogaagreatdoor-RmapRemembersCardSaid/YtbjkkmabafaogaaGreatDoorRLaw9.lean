/- The law RmapRemembers. -/
import Derived.Test.YtbjkkmabafaogaaGreatDoorRLaw8
namespace Go.Proofs.YtbjkkmabafaogaaGreatDoor
open Go.RowKit Go.Lib
set_option linter.unusedVariables false
set_option maxRecDepth 20000
attribute [local go_sem ↓] seal_append
attribute [local go_sem] opC upC

/-- what the law says, of maps -/
theorem rem_pure {m : RMap} (h : Good K5 60 m) {a b n : Nat} (ha : a < 3) (hb : b < 3) (hne : a ≠ b) :
    ∃ f u y, forgetR m a [keyN n] = (f, 0) ∧ useR m b [keyN n] = (u, 0) ∧ mergeR f u = (y, 0) ∧ Good K5 61 f ∧ Good K5 61 u ∧ Good K5 61 y ∧ valueR f (keyN n) = 0 ∧ 65536 ≤ valueR y (keyN n) := by
  have hk : ∀ k ∈ [keyN n], k ∈ K5 := fun k hk => by rw [List.mem_singleton.1 hk]; exact keyN_mem n
  have hal : ∀ d : Int, 0 ≤ d → d < 8 → Allowed d [keyN n] := fun d h0 h8 => ⟨h0, h8, by simp, fun k hk => by rw [List.mem_singleton.1 hk]; exact keyN_ok n⟩
  have hA := hal a (by omega) (by omega)
  have hB := hal b (by omega) (by omega)
  have hf := h.forget hA (by omega)
  have hu := h.use hB (by omega) hk (by omega)
  have hy := hf.merge hu
  have s1 := h.seen (a : Int).toNat
  have s2 := h.seen (b : Int).toNat
  refine ⟨_, _, _, forgetR_ok h (by decide) hA (by omega), useR_ok h (by decide) hB (by omega) hk (by omega), mergeR_ok hf hu (by decide), hf, hu, hy, ?_, ?_⟩
  · unfold valueR
    rw [if_pos (hf.valid (by decide))]
    exact forget_value (by simp)
  · unfold valueR
    rw [if_pos (hy.valid (by decide))]
    exact remember h.formed hA hB (by omega) (by unfold nowR; omega) (by unfold nowR; omega)

theorem LaterT.blockS {B0 : Nat} {T : TypeId} {w w' : World} (h : LaterT B0 T w w') (q : Nat) (hq : (∃ L t, t ≠ T ∧ Blk w q L t)) : w'.heap[q]? = w.heap[q]? := by
  obtain ⟨L, t, hne, hb⟩ := hq
  exact h.block q hb.lt fun M _ hM => hne (hb.inj hM).2

def ordR : List FStep := [.steady 0, .steady 1, .steady 2, .steady 3, .steady 4, .move 5, .move 6, .move 7, .steady 8, .steady 9, .steady 10, .float 11, .fixed 12, .steady 13]
set_option maxRecDepth 100000 in
set_option maxHeartbeats 8000000 in
theorem RmapRemembers_walk (v : Value) (one two k : Int) (w : World) (hv : IsActs w v) (w1 : (Lit.int .u8 one).wf = true) (w2 : (Lit.int .u8 two).wf = true) (w3 : (Lit.int .u8 k).wf = true) (hq : Tabs w ∧ 3 ≤ w.heap.size) :
    Calls Tryz.prog 12 #[v, .int .u8 one, .int .u8 two, .int .u8 k] w fun e w' => e = .returned (.bool true) ∧ Below w.heap.size w w' := by
  obtain ⟨A, hA⟩ := acts_of hv
  have HTb := Lib.hid (show ∀ w', Below w.heap.size w w' → Tabs w' ∧ 3 ≤ w'.heap.size from fun w' hb => ⟨tabs_below hq.1 hq.2 hb, Nat.le_trans hq.2 hb.size⟩)
  obtain ⟨aa, ca, rfl, h9, -⟩ := id hA
  obtain ⟨g0, g1⟩ := bounds_u8 w1
  obtain ⟨g2, g3⟩ := bounds_u8 w2
  obtain ⟨g4, g5⟩ := bounds_u8 w3
  obtain ⟨nk, rfl⟩ := Int.eq_ofNat_of_zero_le g4
  have Hnk := Lib.hid (show nk ≤ 255 by omega)
  obtain ⟨a, ha⟩ := Int.eq_ofNat_of_zero_le (show 0 ≤ one.tmod 3 by rw [Int.tmod_eq_emod_of_nonneg g0]; omega)
  obtain ⟨b, hb⟩ := Int.eq_ofNat_of_zero_le (show 0 ≤ two.tmod 3 by rw [Int.tmod_eq_emod_of_nonneg g2]; omega)
  have ha3 : a < 3 := by rw [Int.tmod_eq_emod_of_nonneg g0] at ha; omega
  have hb3 : b < 3 := by rw [Int.tmod_eq_emod_of_nonneg g2] at hb; omega
  have hw0 : Below w.heap.size w w := Below.refl _ _
  have HW0 := Lib.hid hw0
  obtain ⟨n, hn⟩ : ∃ n, A.length = n := ⟨_, rfl⟩
  by_cases hn40 : 40 < n
  · have hI : (40 : Int) < (n : Int) := by omega
    rw [hn]
    clear hA hv hn hw0
    go_enter Tryz.func12, Tryz.ntmps12
    have HW := Lib.hid (works_any w (HTb.out _ HW0.out).1 (HTb.out _ HW0.out).2)
    go_wp2_with fail
    skip
    refine HW.out.mono ?_
    rintro e wf ⟨rfl, hbf⟩
    clear HW
    go_wp2_with fail
    go_ret
    exact ⟨rfl, HW0.out.trans (hbf.mono HW0.out.size)⟩
  have hI : ¬ (40 : Int) < (n : Int) := by omega
  by_cases hab : a = b
  · subst hab
    rw [hn]
    clear hA hv hn hw0
    go_enter Tryz.func12, Tryz.ntmps12
    have HW := Lib.hid (works_any w (HTb.out _ HW0.out).1 (HTb.out _ HW0.out).2)
    go_wp2_with fail
    skip
    refine HW.out.mono ?_
    rintro e wf ⟨rfl, hbf⟩
    clear HW
    go_wp2_with fail
    go_ret
    exact ⟨rfl, HW0.out.trans (hbf.mono HW0.out.size)⟩
  have habI : ¬ (a : Int) = (b : Int) := by omega
  have hRun := run_any w hq.1 hq.2 w.heap.size _ A hA (Nat.le_refl _) (by omega)
  obtain ⟨M, hM⟩ : ∃ M, runK A A.length = M := ⟨_, rfl⟩
  rw [hM, hn] at hRun
  rw [hn]
  have HRun := Lib.hid hRun
  clear hA hv hRun hq hn hM hw0
  go_enter Tryz.func12, Tryz.ntmps12
  go_wp2_with fail
  refine HRun.out.mono ?_
  rintro e w1 ⟨⟨g, rfl, hm3, hgw, hth⟩, hb1⟩
  clear HRun
  have hgd := hth.good 0 (by omega)
  obtain ⟨m, hm⟩ : ∃ m, M 0 = m := ⟨_, rfl⟩
  obtain ⟨s1A, e1A, s2A, e2A, s3A, e3A, z0, z1, z2, hMA⟩ := hm3.get 0 (by omega)
  rw [hm] at hgd z0 z1 z2 hMA
  obtain ⟨f, u, y, hf, hu, hy, gf, gu, gy, vf, vy⟩ := rem_pure (n := nk) hgd ha3 hb3 hab
  obtain ⟨w2, hw2⟩ : ∃ w2, w2 = w1.alloc (.cells #[.slice s1A m.seen.length e1A, .slice s2A m.items.length e2A, .slice s3A m.gone.length e3A] 31) := ⟨_, rfl⟩
  have hk2 : Below w1.heap.size w1 w2 := by rw [hw2]; exact kept_alloc _ _
  have hmb2 : MB w2 w1.heap.size m := ⟨_, _, _, _, _, _, by rw [hw2]; exact Blk.new _ _ _, (hMA.keep (w' := w2) fun q hq _ => hk2.block q hq.1).mono fun q hq _ => Nat.lt_of_lt_of_le hq.1 hk2.size⟩
  have HW2 := Lib.hid (show Below w.heap.size w w2 from hb1.trans (hk2.mono hb1.size))
  have Hkm := Lib.hid (valid_keys (hgd.valid (by decide))); have Hlm := Lib.hid (valid_lens (hgd.valid (by decide)))
  have Hw2 := Lib.hid hw2; have Hmb2 := Lib.hid hmb2
  have Hf := Lib.hid hf; have Hu := Lib.hid hu; have Hy := Lib.hid hy; have Gf := Lib.hid gf; have Gu := Lib.hid gu; have Gy := Lib.hid gy; have Vf := Lib.hid vf; have Vy := Lib.hid vy
  obtain ⟨F, hF⟩ : ∃ F, w1.heap.size = F := ⟨_, rfl⟩
  have Hmb := Lib.hid (show MB w2 F m by rw [← hF]; exact hmb2)
  clear hm3 hth hgd hm hMA hf hu hy gf gu gy vf vy hw2 hk2 hmb2 hb1 Hmb2
  go_wp2_with fail
  rw [← Hw2.out]
  clear Hw2 z0 z1 z2 hF
  obtain ⟨s1B, e1B, s2B, e2B, s3B, e3B, hBB, hMB⟩ := Hmb.out
  obtain ⟨v0, v1, v2⟩ := cell3 hBB
  have pv0 : ∀ w', LaterT w2.heap.size 31 w2.drew w' → w'.cell? _ = _ := fun w' hh => laterTC v0 hh
  have pv1 : ∀ w', LaterT w2.heap.size 31 w2.drew w' → w'.cell? _ = _ := fun w' hh => laterTC v1 hh
  have pv2 : ∀ w', LaterT w2.heap.size 31 w2.drew w' → w'.cell? _ = _ := fun w' hh => laterTC v2 hh
  have HMB := Lib.hid hMB
  clear hMB hBB v0 v1 v2
  go_wp2_with fail
  refine wp_region_fl (LaterT w2.heap.size 31) (FreshT w2.heap.size 31 3) [11] ordR 60 (by kernel_rfl) (by kernel_rfl) (laterT_refl _ _) (laterT_trans _ _) (floats_of #[.slice none 0 0, .slice none 0 0, .slice none 0 0] rfl (Nat.le_refl _) (fun j hj => ?_) (fun i j hi hj hne => ?_)) ?_
  · obtain rfl : j = 11 := by simpa using hj
    exact ⟨_, rfl, rfl, fun a W => by go_simp⟩
  · simp at hi hj
    omega
  unfold ordR
  repeat (refine canF_yes (v := ?_) rfl (wanted_none rfl) (fun w' hC => ?_) (fun K hK => ?_); rotate_left; (focus (go_simp; (try simp (disch := omega) only [IntWalk.i64_in]); first | done | exact rfl)); go_simp; (try simp (disch := omega) only [IntWalk.i64_in]); refine hK _ ?_; clear hK K)
  refine canF_go rfl rfl (fun Wa hWa KK hK => ?_)
  go_simp
  refine (key_any Wa nk Hnk.out).mono ?_
  rintro e w7 ⟨rfl, rfl⟩
  refine ⟨_, rfl, laterT_refl _ _ _, hK _ _ ?_⟩
  clear hK KK
  go_simp
  refine canF_go rfl rfl (fun Wb hWb KK hK => ?_)
  have hba : Below w2.heap.size w2 Wb := hWa.bel.trans (hWb.below hWa.bel.size)
  go_simp
  obtain ⟨wl, hwl⟩ : ∃ wl, wl = Wb.alloc (.cells #[.string ⟨(keyN nk).toArray⟩] 9) := ⟨_, rfl⟩
  have hr2 : Rows (fun b => b = Wb.heap.size) wl 1 (.slice (some ⟨Wb.heap.size, 0, none⟩) 1 1) [keyN nk].length ([keyN nk].map eS) := by
    rw [hwl]; exact rows_new Wb #[.string ⟨(keyN nk).toArray⟩] 9 1 rfl (by unfold maxLen; omega)
  have hbl : Below Wb.heap.size Wb wl := by rw [hwl]; exact kept_alloc _ _
  have hkl : Blk wl Wb.heap.size [.string ⟨(keyN nk).toArray⟩] 9 := by rw [hwl]; exact Blk.new _ _ _
  have hbl0 : Later Wb wl := hbl
  obtain ⟨lb, hlb⟩ : ∃ lb, Wb.heap.size = lb := ⟨_, rfl⟩
  rw [← hwl]
  clear hwl
  rw [hlb] at hr2 hkl ⊢
  refine ⟨LaterT.of_later hbl0, hK _ _ ?_⟩
  clear hK KK
  go_simp
  refine canF_go rfl rfl (fun Wc hWc KK hK => ?_)
  have hbl2 : Below w2.heap.size w2 Wc := hba.trans ((hbl.mono hba.size).trans (hWc.below (Nat.le_trans hba.size hbl.size)))
  have hwa : Below w.heap.size w Wc := HW2.out.trans (hbl2.mono HW2.out.size)
  go_simp
  have hU := pforget_any Wc (HTb.out _ hwa).1 (HTb.out _ hwa).2 _ (.agg #[.slice s1B m.seen.length e1B, .slice s2B m.items.length e2B, .slice s3B m.gone.length e3B]) m ⟨_, _, _, rfl, HMB.out.keep (w' := Wc) fun q hq _ => hbl2.block q hq⟩ Hkm.out.1 Hkm.out.2 (by have := Hlm.out; omega) (by have := Hlm.out; omega) (a : Int) _ (.slice (some ⟨lb, 0, none⟩) 1 1) [keyN nk] (hr2.keep (w' := Wc) fun q hq _ => by have hq' : q = lb := hq; rw [hq']; exact hWc.blockS lb ⟨_, 9, (by decide), hkl⟩) (by simp) (fun q hq => by rw [List.mem_singleton.1 hq, keyN_len]; decide)
  rw [Hf.out] at hU
  refine hU.mono ?_
  rintro e w7 ⟨⟨r1, rfl, ho, hbd⟩, hb7⟩
  refine ⟨_, rfl, LaterT.of_later hb7, hK _ _ ?_⟩
  clear hK KK hU
  go_simp
  obtain ⟨t1, t2, t3, rfl, ho⟩ := ho
  dsimp only at ho hbd
  obtain ⟨n1, m1, rfl⟩ := own_shape ho.seen
  obtain ⟨n2, m2, rfl⟩ := own_shape ho.items
  obtain ⟨n3, m3, rfl⟩ := own_shape ho.gone
  have hb07 : Below w2.heap.size w2 w7 := hbl2.trans (hb7.mono hbl2.size)
  have Hb07 := Lib.hid hb07; have Ho := Lib.hid ho; have Hbd := Lib.hid hbd
  clear hb07 ho hbd hba hwa hb7 hWa hWb hWc hbl hbl0 hbl2 hr2 hkl hlb pv0 pv1 pv2
  repeat (refine canF_yes (v := ?_) rfl (wanted_none rfl) (fun w' hC => ?_) (fun K hK => ?_); rotate_left; (focus (go_simp; (try simp (disch := omega) only [IntWalk.i64_in]); first | done | exact rfl)); go_simp; (try simp (disch := omega) only [IntWalk.i64_in]); refine hK _ ?_; clear hK K)
  refine canF_float rfl (fun vO Wd hWd hZ hU KK hK => ?_)
  obtain ⟨Oa, LO, rfl, hO1, hO2, hO3⟩ := hZ
  refine hK _ _ ?_
  clear hK KK hU
  go_simp
  obtain ⟨x0, x1, x2, rfl⟩ : ∃ x0 x1 x2, LO = [x0, x1, x2] := by
    match LO, hO3 with
    | [x0, x1, x2], _ => exact ⟨x0, x1, x2, rfl⟩
  have hbd' : Below w2.heap.size w2 Wd := Hb07.out.trans (hWd.below Hb07.out.size)
  obtain ⟨w8, hw8, hblk8, hb8⟩ := fin3 hO2 hbd' hO1 (.slice n1 f.seen.length m1) (.slice n2 f.items.length m2) (.slice n3 f.gone.length m3)
  have hl8 : LaterT w2.heap.size 31 Wd w8 := by
    rw [hw8]
    exact laterT_trans _ _ _ _ _ (laterT_trans _ _ _ _ _ (LaterT.set hO2 hO1 0 _) (LaterT.set (hO2.set 0 _) hO1 1 _)) (LaterT.set ((hO2.set 0 _).set 1 _) hO1 2 _)
  have hmo : MO w8 Oa f := ⟨_, _, _, _, _, _, hblk8, ((Ho.out.laterT hWd).laterT hl8).mono (Nat.zero_le _), Hbd.out⟩
  obtain ⟨y0, y1, y2⟩ := cell3 hO2
  have z0 := hO2.free 0
  have z1 := hO2.free 1
  have z2 := hO2.free 2
  have HMOOa := Lib.hid hmo; have HBw8 := Lib.hid hb8; have Hl8 := Lib.hid hl8; have Hw8 := Lib.hid hw8
  clear hmo hb8 hl8 hw8 hblk8 hbd' hWd hO2 hO3 Ho Hbd Hb07
  refine canF_fixed rfl rfl (fun KK hK => ?_)
  go_simp
  rw [← Hw8.out]
  refine ⟨Hl8.out, hK _ _ ?_⟩
  clear hK KK y0 y1 y2 z0 z1 z2 Hl8 Hw8 hO1
  go_simp
  repeat (refine canF_yes (v := ?_) rfl (wanted_none rfl) (fun w' hC => ?_) (fun K hK => ?_); rotate_left; (focus (go_simp; (try simp (disch := omega) only [IntWalk.i64_in]); first | done | exact rfl)); go_simp; (try simp (disch := omega) only [IntWalk.i64_in]); refine hK _ ?_; clear hK K)
  refine canF_nil ?_
  have HW8 := Lib.hid (show Below w.heap.size w w8 from HW2.out.trans (HBw8.out.mono HW2.out.size))
  have Hmb8 := Lib.hid (Hmb.out.keep HBw8.out)
  obtain ⟨s1B, e1B, s2B, e2B, s3B, e3B, hBB, hMB⟩ := Hmb8.out
  obtain ⟨v0, v1, v2⟩ := cell3 hBB
  have pv0 : ∀ w', LaterT w8.heap.size 31 w8.drew w' → w'.cell? _ = _ := fun w' hh => laterTC v0 hh
  have pv1 : ∀ w', LaterT w8.heap.size 31 w8.drew w' → w'.cell? _ = _ := fun w' hh => laterTC v1 hh
  have pv2 : ∀ w', LaterT w8.heap.size 31 w8.drew w' → w'.cell? _ = _ := fun w' hh => laterTC v2 hh
  have HMB := Lib.hid hMB
  clear hMB hBB v0 v1 v2
  go_wp2_with fail
  refine wp_region_fl (LaterT w8.heap.size 31) (FreshT w8.heap.size 31 3) [11] ordR 60 (by kernel_rfl) (by kernel_rfl) (laterT_refl _ _) (laterT_trans _ _) (floats_of #[.slice none 0 0, .slice none 0 0, .slice none 0 0] rfl (Nat.le_refl _) (fun j hj => ?_) (fun i j hi hj hne => ?_)) ?_
  · obtain rfl : j = 11 := by simpa using hj
    exact ⟨_, rfl, rfl, fun a W => by go_simp⟩
  · simp at hi hj
    omega
  unfold ordR
  repeat (refine canF_yes (v := ?_) rfl (wanted_none rfl) (fun w' hC => ?_) (fun K hK => ?_); rotate_left; (focus (go_simp; (try simp (disch := omega) only [IntWalk.i64_in]); first | done | exact rfl)); go_simp; (try simp (disch := omega) only [IntWalk.i64_in]); refine hK _ ?_; clear hK K)
  refine canF_go rfl rfl (fun Wa hWa KK hK => ?_)
  go_simp
  refine (key_any Wa nk Hnk.out).mono ?_
  rintro e w7 ⟨rfl, rfl⟩
  refine ⟨_, rfl, laterT_refl _ _ _, hK _ _ ?_⟩
  clear hK KK
  go_simp
  refine canF_go rfl rfl (fun Wb hWb KK hK => ?_)
  have hba : Below w8.heap.size w8 Wb := hWa.bel.trans (hWb.below hWa.bel.size)
  go_simp
  obtain ⟨wl, hwl⟩ : ∃ wl, wl = Wb.alloc (.cells #[.string ⟨(keyN nk).toArray⟩] 9) := ⟨_, rfl⟩
  have hr2 : Rows (fun b => b = Wb.heap.size) wl 1 (.slice (some ⟨Wb.heap.size, 0, none⟩) 1 1) [keyN nk].length ([keyN nk].map eS) := by
    rw [hwl]; exact rows_new Wb #[.string ⟨(keyN nk).toArray⟩] 9 1 rfl (by unfold maxLen; omega)
  have hbl : Below Wb.heap.size Wb wl := by rw [hwl]; exact kept_alloc _ _
  have hkl : Blk wl Wb.heap.size [.string ⟨(keyN nk).toArray⟩] 9 := by rw [hwl]; exact Blk.new _ _ _
  have hbl0 : Later Wb wl := hbl
  obtain ⟨lb, hlb⟩ : ∃ lb, Wb.heap.size = lb := ⟨_, rfl⟩
  rw [← hwl]
  clear hwl
  rw [hlb] at hr2 hkl ⊢
  refine ⟨LaterT.of_later hbl0, hK _ _ ?_⟩
  clear hK KK
  go_simp
  refine canF_go rfl rfl (fun Wc hWc KK hK => ?_)
  have hbl2 : Below w8.heap.size w8 Wc := hba.trans ((hbl.mono hba.size).trans (hWc.below (Nat.le_trans hba.size hbl.size)))
  have hwa : Below w.heap.size w Wc := HW8.out.trans (hbl2.mono HW8.out.size)
  go_simp
  have hU := puse_any Wc (HTb.out _ hwa).1 (HTb.out _ hwa).2 _ (.agg #[.slice s1B m.seen.length e1B, .slice s2B m.items.length e2B, .slice s3B m.gone.length e3B]) m ⟨_, _, _, rfl, HMB.out.keep (w' := Wc) fun q hq _ => hbl2.block q hq⟩ Hkm.out.1 Hkm.out.2 (by have := Hlm.out; omega) (by have := Hlm.out; omega) (b : Int) _ (.slice (some ⟨lb, 0, none⟩) 1 1) [keyN nk] (hr2.keep (w' := Wc) fun q hq _ => by have hq' : q = lb := hq; rw [hq']; exact hWc.blockS lb ⟨_, 9, (by decide), hkl⟩) (by simp) (fun q hq => by rw [List.mem_singleton.1 hq, keyN_len]; decide)
  rw [Hu.out] at hU
  refine hU.mono ?_
  rintro e w7 ⟨⟨r1, rfl, ho, hbd⟩, hb7⟩
  refine ⟨_, rfl, LaterT.of_later hb7, hK _ _ ?_⟩
  clear hK KK hU
  go_simp
  obtain ⟨t1, t2, t3, rfl, ho⟩ := ho
  dsimp only at ho hbd
  obtain ⟨n1, m1, rfl⟩ := own_shape ho.seen
  obtain ⟨n2, m2, rfl⟩ := own_shape ho.items
  obtain ⟨n3, m3, rfl⟩ := own_shape ho.gone
  have hb07 : Below w8.heap.size w8 w7 := hbl2.trans (hb7.mono hbl2.size)
  have Hb07 := Lib.hid hb07; have Ho := Lib.hid ho; have Hbd := Lib.hid hbd
  clear hb07 ho hbd hba hwa hb7 hWa hWb hWc hbl hbl0 hbl2 hr2 hkl hlb pv0 pv1 pv2
  repeat (refine canF_yes (v := ?_) rfl (wanted_none rfl) (fun w' hC => ?_) (fun K hK => ?_); rotate_left; (focus (go_simp; (try simp (disch := omega) only [IntWalk.i64_in]); first | done | exact rfl)); go_simp; (try simp (disch := omega) only [IntWalk.i64_in]); refine hK _ ?_; clear hK K)
  refine canF_float rfl (fun vO Wd hWd hZ hU KK hK => ?_)
  obtain ⟨Ob, LO, rfl, hO1, hO2, hO3⟩ := hZ
  refine hK _ _ ?_
  clear hK KK hU
  go_simp
  obtain ⟨x0, x1, x2, rfl⟩ : ∃ x0 x1 x2, LO = [x0, x1, x2] := by
    match LO, hO3 with
    | [x0, x1, x2], _ => exact ⟨x0, x1, x2, rfl⟩
  have hbd' : Below w8.heap.size w8 Wd := Hb07.out.trans (hWd.below Hb07.out.size)
  obtain ⟨w9, hw8, hblk8, hb8⟩ := fin3 hO2 hbd' hO1 (.slice n1 u.seen.length m1) (.slice n2 u.items.length m2) (.slice n3 u.gone.length m3)
  have hl8 : LaterT w8.heap.size 31 Wd w9 := by
    rw [hw8]
    exact laterT_trans _ _ _ _ _ (laterT_trans _ _ _ _ _ (LaterT.set hO2 hO1 0 _) (LaterT.set (hO2.set 0 _) hO1 1 _)) (LaterT.set ((hO2.set 0 _).set 1 _) hO1 2 _)
  have hmo : MO w9 Ob u := ⟨_, _, _, _, _, _, hblk8, ((Ho.out.laterT hWd).laterT hl8).mono (Nat.zero_le _), Hbd.out⟩
  obtain ⟨y0, y1, y2⟩ := cell3 hO2
  have z0 := hO2.free 0
  have z1 := hO2.free 1
  have z2 := hO2.free 2
  have HMOOb := Lib.hid hmo; have HBw9 := Lib.hid hb8; have Hl8 := Lib.hid hl8; have Hw8 := Lib.hid hw8
  clear hmo hb8 hl8 hw8 hblk8 hbd' hWd hO2 hO3 Ho Hbd Hb07
  refine canF_fixed rfl rfl (fun KK hK => ?_)
  go_simp
  rw [← Hw8.out]
  refine ⟨Hl8.out, hK _ _ ?_⟩
  clear hK KK y0 y1 y2 z0 z1 z2 Hl8 Hw8 hO1
  go_simp
  repeat (refine canF_yes (v := ?_) rfl (wanted_none rfl) (fun w' hC => ?_) (fun K hK => ?_); rotate_left; (focus (go_simp; (try simp (disch := omega) only [IntWalk.i64_in]); first | done | exact rfl)); go_simp; (try simp (disch := omega) only [IntWalk.i64_in]); refine hK _ ?_; clear hK K)
  refine canF_nil ?_
  have HW9 := Lib.hid (show Below w.heap.size w w9 from HW8.out.trans (HBw9.out.mono HW8.out.size))
  have Hl9 := Lib.hid (((Has.nil w9).cons HMOOb.out.mb).cons (HMOOa.out.keep HBw9.out).mb)
  have Hkf := Lib.hid (valid_keys (Gf.out.valid (by decide))); have Hku := Lib.hid (valid_keys (Gu.out.valid (by decide))); have Hky := Lib.hid (valid_keys (Gy.out.valid (by decide)))
  obtain ⟨s1X, e1X, s2X, e2X, s3X, e3X, hBX, hMX⟩ := Hl9.out.get Oa f (by simp)
  obtain ⟨c0X, c1X, c2X⟩ := cell3 hBX
  obtain ⟨s1Y, e1Y, s2Y, e2Y, s3Y, e3Y, hBY, hMY⟩ := Hl9.out.get Ob u (by simp)
  obtain ⟨c0Y, c1Y, c2Y⟩ := cell3 hBY
  have hU := pmerge_any w9 (HTb.out _ HW9.out).1 (HTb.out _ HW9.out).2 _ _ (.agg #[.slice s1X f.seen.length e1X, .slice s2X f.items.length e2X, .slice s3X f.gone.length e3X]) (.agg #[.slice s1Y u.seen.length e1Y, .slice s2Y u.items.length e2Y, .slice s3Y u.gone.length e3Y]) f u ⟨_, _, _, rfl, hMX⟩ ⟨_, _, _, rfl, hMY⟩ Hkf.out.1 Hkf.out.2 Hku.out.1 Hku.out.2
  rw [Hy.out] at hU
  have HU := Lib.hid hU
  skip
  clear hU hBX hMX hBY hMY
  go_wp2_with fail
  skip
  refine HU.out.mono ?_
  rintro e wm30 ⟨⟨r, rfl, ho, hbd⟩, hbm⟩
  obtain ⟨t1, t2, t3, rfl, ho⟩ := ho
  dsimp only at ho hbd ⊢
  obtain ⟨n130, m130, rfl⟩ := own_shape ho.seen
  obtain ⟨n230, m230, rfl⟩ := own_shape ho.items
  obtain ⟨n330, m330, rfl⟩ := own_shape ho.gone
  obtain ⟨w30, hw30⟩ : ∃ q, q = wm30.alloc (.cells #[.slice n130 y.seen.length m130, .slice n230 y.items.length m230, .slice n330 y.gone.length m330] 31) := ⟨_, rfl⟩
  have hk30 : Below wm30.heap.size wm30 w30 := by rw [hw30]; exact kept_alloc _ _
  have hbw : Below w9.heap.size w9 w30 := hbm.trans (hk30.mono hbm.size)
  have hmb : MB w30 wm30.heap.size y := ⟨_, _, _, _, _, _, by rw [hw30]; exact Blk.new _ _ _, (((ho.below hk30).map hbd).mono fun q _ hlt => hlt)⟩
  have Hl30 := Lib.hid (show Has ((wm30.heap.size, y) :: ((Oa, f) :: (Ob, u) :: [])) w30 from (Hl9.out.keep hbw).cons hmb)
  have HW30 := Lib.hid (show Below w.heap.size w w30 from HW9.out.trans (hbw.mono HW9.out.size))
  have Hw30 := Lib.hid hw30
  clear hk30 hbw hmb ho hbd hbm
  clear HU c0X c1X c2X c0Y c1Y c2Y
  go_wp2_with fail
  rw [← Hw30.out]
  clear hw30
  obtain ⟨Oy, hOy⟩ : ∃ Oy, wm30.heap.size = Oy := ⟨_, rfl⟩
  have hl30 := Hl30.out
  rw [hOy] at hl30 ⊢
  obtain ⟨s1X, e1X, s2X, e2X, s3X, e3X, hBX, hMX⟩ := hl30.get Oa f (by simp)
  obtain ⟨c0X, c1X, c2X⟩ := cell3 hBX
  obtain ⟨s1Y, e1Y, s2Y, e2Y, s3Y, e3Y, hBY, hMY⟩ := hl30.get Oy y (by simp)
  obtain ⟨c0Y, c1Y, c2Y⟩ := cell3 hBY
  have px0 : ∀ w', Later w30.drew w' → w'.cell? _ = _ := fun w' hh => laterC c0X hh
  have px1 : ∀ w', Later w30.drew w' → w'.cell? _ = _ := fun w' hh => laterC c1X hh
  have px2 : ∀ w', Later w30.drew w' → w'.cell? _ = _ := fun w' hh => laterC c2X hh
  have py0 : ∀ w', Later w30.drew w' → w'.cell? _ = _ := fun w' hh => laterC c0Y hh
  have py1 : ∀ w', Later w30.drew w' → w'.cell? _ = _ := fun w' hh => laterC c1Y hh
  have py2 : ∀ w', Later w30.drew w' → w'.cell? _ = _ := fun w' hh => laterC c2Y hh
  obtain ⟨vu, hvu⟩ : ∃ vu, valueR y (keyN nk) = vu := ⟨_, rfl⟩
  have hvu2 : 65536 ≤ vu := by rw [← hvu]; exact Vy.out
  have HVF := Lib.hid (show ∀ W, Below w30.heap.size w30 W → Calls Tryz.prog 37 #[.agg #[.slice s1X f.seen.length e1X, .slice s2X f.items.length e2X, .slice s3X f.gone.length e3X], .string ⟨(keyN nk).toArray⟩] W (fun e w' => e = .returned (.int .i64 0) ∧ Below W.heap.size W w') from fun W hb => by
    have hbW : Below w.heap.size w W := HW30.out.trans (hb.mono HW30.out.size)
    rw [← Vf.out]
    exact pvalue_any W (HTb.out _ hbW).1 (HTb.out _ hbW).2 _ _ f ⟨_, _, _, rfl, hMX.keep (w' := W) fun q hq _ => hb.block q hq⟩ Hkf.out.1 Hkf.out.2 (keyN nk) (by rw [keyN_len]; omega))
  have HVY := Lib.hid (show ∀ W, Below w30.heap.size w30 W → Calls Tryz.prog 37 #[.agg #[.slice s1Y y.seen.length e1Y, .slice s2Y y.items.length e2Y, .slice s3Y y.gone.length e3Y], .string ⟨(keyN nk).toArray⟩] W (fun e w' => e = .returned (.int .i64 vu) ∧ Below W.heap.size W w') from fun W hb => by
    have hbW : Below w.heap.size w W := HW30.out.trans (hb.mono HW30.out.size)
    rw [← hvu]
    exact pvalue_any W (HTb.out _ hbW).1 (HTb.out _ hbW).2 _ _ y ⟨_, _, _, rfl, hMY.keep (w' := W) fun q hq _ => hb.block q hq⟩ Hky.out.1 Hky.out.2 (keyN nk) (by rw [keyN_len]; omega))
  have HWK := Lib.hid (show ∀ W, Below w30.heap.size w30 W → Calls Tryz.prog 24 #[] W (fun e w' => e = .returned (.bool true) ∧ Below W.heap.size W w') from fun W hb => works_any W (HTb.out _ (HW30.out.trans (hb.mono HW30.out.size))).1 (HTb.out _ (HW30.out.trans (hb.mono HW30.out.size))).2)
  have Hd30 := Lib.hid (show Below w30.heap.size w30 w30.drew from (Below.refl w30.heap.size w30).drew)
  clear hvu hMX hMY hBX hBY c0X c1X c2X c0Y c1Y c2Y hl30 hOy
  refine wp_region_can Later [(0, true), (1, true), (2, true), (3, true), (4, true), (5, true), (6, true), (7, true), (8, true), (9, true), (10, true), (11, true), (12, true), (13, false), (14, false), (15, true), (16, true), (17, true), (18, true), (19, true), (20, false), (21, false), (22, true), (23, true), (24, true), (25, false), (26, true), (27, true)] (by kernel_rfl) (by kernel_rfl) later_refl later_trans ?_
  repeat (first
    | (refine can_yes (v := ?_) rfl (wanted_none rfl) (fun w' hC => ?_) (fun K hK => ?_); rotate_left; (focus (go_simp; (try simp (disch := omega) only [IntWalk.i64_in]); first | done | exact rfl)); go_simp; (try simp (disch := omega) only [IntWalk.i64_in]); refine hK _ ?_; clear hK K)
    | (refine can_guard rfl (fun A B hA hB => ?_); go_simp; first | (refine hA ⟨?_, fun w' hC => ?_, fun K hK => ?_⟩; rotate_left; (focus (go_simp; (try simp (disch := omega) only [IntWalk.i64_in]); first | done | exact rfl)); go_simp; (try simp (disch := omega) only [IntWalk.i64_in]); refine hK _ ?_; clear hK K hA hB A B) | (refine hB (fun K hK => ?_); go_simp; (try simp (disch := omega) only [IntWalk.i64_in]); refine hK _ ?_; clear hK K hA hB A B))
    | (refine can_guard_go rfl (fun A B hA hB => ?_); go_simp; refine hB (fun K hK => ?_); go_simp; (try simp (disch := omega) only [IntWalk.i64_in]); refine hK _ ?_; clear hK K hA hB A B))
  refine can_go rfl rfl (fun KK hK => ?_)
  go_simp
  refine (key_any _ nk Hnk.out).mono ?_
  rintro e W1 ⟨rfl, rfl⟩
  refine ⟨_, rfl, later_refl _, hK _ _ ?_⟩
  clear hK KK
  go_simp
  repeat (first
    | (refine can_yes (v := ?_) rfl (wanted_none rfl) (fun w' hC => ?_) (fun K hK => ?_); rotate_left; (focus (go_simp; (try simp (disch := omega) only [IntWalk.i64_in]); first | done | exact rfl)); go_simp; (try simp (disch := omega) only [IntWalk.i64_in]); refine hK _ ?_; clear hK K)
    | (refine can_guard rfl (fun A B hA hB => ?_); go_simp; first | (refine hA ⟨?_, fun w' hC => ?_, fun K hK => ?_⟩; rotate_left; (focus (go_simp; (try simp (disch := omega) only [IntWalk.i64_in]); first | done | exact rfl)); go_simp; (try simp (disch := omega) only [IntWalk.i64_in]); refine hK _ ?_; clear hK K hA hB A B) | (refine hB (fun K hK => ?_); go_simp; (try simp (disch := omega) only [IntWalk.i64_in]); refine hK _ ?_; clear hK K hA hB A B))
    | (refine can_guard_go rfl (fun A B hA hB => ?_); go_simp; refine hB (fun K hK => ?_); go_simp; (try simp (disch := omega) only [IntWalk.i64_in]); refine hK _ ?_; clear hK K hA hB A B))
  refine can_go rfl rfl (fun KK hK => ?_)
  go_simp
  refine (HVF.out _ Hd30.out).mono ?_
  rintro e W1 ⟨rfl, hb8⟩
  refine ⟨_, rfl, hb8, hK _ _ ?_⟩
  have Hd31 := Lib.hid (Hd30.out.trans (hb8.mono Hd30.out.size))
  replace py0 : ∀ w', Later W1 w' → _ := fun w' hh => py0 w' (later_trans _ _ _ hb8 hh)
  replace py1 : ∀ w', Later W1 w' → _ := fun w' hh => py1 w' (later_trans _ _ _ hb8 hh)
  replace py2 : ∀ w', Later W1 w' → _ := fun w' hh => py2 w' (later_trans _ _ _ hb8 hh)
  clear hK KK hb8 px0 px1 px2
  go_simp
  repeat (first
    | (refine can_yes (v := ?_) rfl (wanted_none rfl) (fun w' hC => ?_) (fun K hK => ?_); rotate_left; (focus (go_simp; (try simp (disch := omega) only [IntWalk.i64_in]); first | done | exact rfl)); go_simp; (try simp (disch := omega) only [IntWalk.i64_in]); refine hK _ ?_; clear hK K)
    | (refine can_guard rfl (fun A B hA hB => ?_); go_simp; first | (refine hA ⟨?_, fun w' hC => ?_, fun K hK => ?_⟩; rotate_left; (focus (go_simp; (try simp (disch := omega) only [IntWalk.i64_in]); first | done | exact rfl)); go_simp; (try simp (disch := omega) only [IntWalk.i64_in]); refine hK _ ?_; clear hK K hA hB A B) | (refine hB (fun K hK => ?_); go_simp; (try simp (disch := omega) only [IntWalk.i64_in]); refine hK _ ?_; clear hK K hA hB A B))
    | (refine can_guard_go rfl (fun A B hA hB => ?_); go_simp; refine hB (fun K hK => ?_); go_simp; (try simp (disch := omega) only [IntWalk.i64_in]); refine hK _ ?_; clear hK K hA hB A B))
  refine can_go rfl rfl (fun KK hK => ?_)
  go_simp
  refine (key_any _ nk Hnk.out).mono ?_
  rintro e W2 ⟨rfl, rfl⟩
  refine ⟨_, rfl, later_refl _, hK _ _ ?_⟩
  clear hK KK
  go_simp
  repeat (first
    | (refine can_yes (v := ?_) rfl (wanted_none rfl) (fun w' hC => ?_) (fun K hK => ?_); rotate_left; (focus (go_simp; (try simp (disch := omega) only [IntWalk.i64_in]); first | done | exact rfl)); go_simp; (try simp (disch := omega) only [IntWalk.i64_in]); refine hK _ ?_; clear hK K)
    | (refine can_guard rfl (fun A B hA hB => ?_); go_simp; first | (refine hA ⟨?_, fun w' hC => ?_, fun K hK => ?_⟩; rotate_left; (focus (go_simp; (try simp (disch := omega) only [IntWalk.i64_in]); first | done | exact rfl)); go_simp; (try simp (disch := omega) only [IntWalk.i64_in]); refine hK _ ?_; clear hK K hA hB A B) | (refine hB (fun K hK => ?_); go_simp; (try simp (disch := omega) only [IntWalk.i64_in]); refine hK _ ?_; clear hK K hA hB A B))
    | (refine can_guard_go rfl (fun A B hA hB => ?_); go_simp; refine hB (fun K hK => ?_); go_simp; (try simp (disch := omega) only [IntWalk.i64_in]); refine hK _ ?_; clear hK K hA hB A B))
  refine can_go rfl rfl (fun KK hK => ?_)
  go_simp
  refine (HVY.out _ Hd31.out).mono ?_
  rintro e W2 ⟨rfl, hb8⟩
  refine ⟨_, rfl, hb8, hK _ _ ?_⟩
  have Hd32 := Lib.hid (Hd31.out.trans (hb8.mono Hd31.out.size))
  clear hK KK hb8 py0 py1 py2
  go_simp
  repeat (first
    | (refine can_yes (v := ?_) rfl (wanted_none rfl) (fun w' hC => ?_) (fun K hK => ?_); rotate_left; (focus (go_simp; (try simp (disch := omega) only [IntWalk.i64_in]); first | done | exact rfl)); go_simp; (try simp (disch := omega) only [IntWalk.i64_in]); refine hK _ ?_; clear hK K)
    | (refine can_guard rfl (fun A B hA hB => ?_); go_simp; first | (refine hA ⟨?_, fun w' hC => ?_, fun K hK => ?_⟩; rotate_left; (focus (go_simp; (try simp (disch := omega) only [IntWalk.i64_in]); first | done | exact rfl)); go_simp; (try simp (disch := omega) only [IntWalk.i64_in]); refine hK _ ?_; clear hK K hA hB A B) | (refine hB (fun K hK => ?_); go_simp; (try simp (disch := omega) only [IntWalk.i64_in]); refine hK _ ?_; clear hK K hA hB A B))
    | (refine can_guard_go rfl (fun A B hA hB => ?_); go_simp; refine hB (fun K hK => ?_); go_simp; (try simp (disch := omega) only [IntWalk.i64_in]); refine hK _ ?_; clear hK K hA hB A B))
  refine can_go rfl rfl (fun KK hK => ?_)
  go_simp
  refine (HWK.out _ Hd32.out).mono ?_
  rintro e W3 ⟨rfl, hb8⟩
  refine ⟨_, rfl, hb8, hK _ _ ?_⟩
  have HW3 := Lib.hid (HW30.out.trans ((Hd32.out.trans (hb8.mono Hd32.out.size)).mono HW30.out.size))
  clear hK KK hb8
  go_simp
  repeat (first
    | (refine can_yes (v := ?_) rfl (wanted_none rfl) (fun w' hC => ?_) (fun K hK => ?_); rotate_left; (focus (go_simp; (try simp (disch := omega) only [IntWalk.i64_in]); first | done | exact rfl)); go_simp; (try simp (disch := omega) only [IntWalk.i64_in]); refine hK _ ?_; clear hK K)
    | (refine can_guard rfl (fun A B hA hB => ?_); go_simp; first | (refine hA ⟨?_, fun w' hC => ?_, fun K hK => ?_⟩; rotate_left; (focus (go_simp; (try simp (disch := omega) only [IntWalk.i64_in]); first | done | exact rfl)); go_simp; (try simp (disch := omega) only [IntWalk.i64_in]); refine hK _ ?_; clear hK K hA hB A B) | (refine hB (fun K hK => ?_); go_simp; (try simp (disch := omega) only [IntWalk.i64_in]); refine hK _ ?_; clear hK K hA hB A B))
    | (refine can_guard_go rfl (fun A B hA hB => ?_); go_simp; refine hB (fun K hK => ?_); go_simp; (try simp (disch := omega) only [IntWalk.i64_in]); refine hK _ ?_; clear hK K hA hB A B))
  refine can_nil ?_
  go_wp2_with fail
  go_ret
  exact ⟨rfl, HW3.out⟩
end Go.Proofs.YtbjkkmabafaogaaGreatDoor
