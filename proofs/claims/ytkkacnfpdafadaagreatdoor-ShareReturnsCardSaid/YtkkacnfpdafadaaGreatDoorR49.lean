/-
  SLawT
-/
import Derived.Test.YtkkacnfpdafadaaGreatDoorR46
import Derived.Test.YtkkacnfpdafadaaGreatDoorR47
import Derived.Test.YtkkacnfpdafadaaGreatDoorR48
namespace Go.Proofs.YtkkacnfpdafadaaGreatDoor
open Go.RowKit Go.Lib
set_option linter.unusedVariables false
set_option maxRecDepth 20000
attribute [local go_sem] opC upC

theorem flat_uvar_len : ∀ l : List Int, (l.flatMap fun n => uvar n.toNat).length ≤ 10 * l.length
  | [] => Nat.le_refl _
  | n :: l => by
    have := flat_uvar_len l
    have := uvar_len n.toNat
    simp only [List.flatMap_cons, List.length_append, List.length_cons]
    omega
theorem codeS_len {x : SMsg} (h : svalid x = true) : (codeS x).length ≤ 61000 := by
  have h1 := (valid_lens (svalid_tell h)).2.2.2
  have h2 := (svalid_knows h).len
  have h3 := flat_uvar_len x.seen
  have h4 := uvar_len x.frm.toNat
  unfold codeS
  simp only [List.length_append]
  omega
theorem svalid_keys {x : SMsg} (h : svalid x = true) : (∀ y ∈ x.tell.items, y.key.length ≤ 1000000) ∧ ∀ y ∈ x.tell.gone, y.key.length ≤ 1000000 := by
  have hv := valid_nums (svalid_tell h)
  exact ⟨fun y hy => by have := (hv.2.1 y hy).1; omega, fun y hy => by have := (hv.2.2 y hy).1; omega⟩
theorem smallT_of {x : SMsg} (h : Small x.tell) (hs : x.seen.length ≤ 20) : SmallS x := ⟨by omega, by have := h.seen; omega, by have := h.items; omega, by have := h.gone; omega⟩
set_option maxRecDepth 100000 in
set_option maxHeartbeats 8000000 in
theorem ShareReturns_walk (v bv : Value) (w : World) (hv : IsSMsg w v) (hbv : IsBytes w bv) (hq : Tabs w ∧ 3 ≤ w.heap.size) :
    Calls Tryz.prog 10 #[v, bv] w fun e w' => e = .returned (.bool true) ∧ Below w.heap.size w w' := by
  obtain ⟨x, h⟩ := hv
  obtain ⟨bs, hbs⟩ := hbv
  obtain ⟨ab, cb, rfl, -⟩ := id hbs
  have HTb := Lib.hid (show ∀ w', Below w.heap.size w w' → Tabs w' ∧ 3 ≤ w'.heap.size from fun w' hb => ⟨tabs_below hq.1 hq.2 hb, Nat.le_trans hq.2 hb.size⟩)
  have HBs := Lib.hid (show ∀ w', Below w.heap.size w w' → Bytes (fun q => q < w.heap.size) w' (.slice ab bs.length cb) bs from fun w' hb => hbs.keep (w' := w') fun q hq _ => hb.block q hq)
  clear hq hbs
  obtain ⟨sv, s1, s2, s3, rfl, h⟩ := h
  obtain ⟨a0, p0, rfl, -⟩ := h.seen.shape
  obtain ⟨a1, p1, rfl, -⟩ := h.tell.seen.shape
  obtain ⟨a2, p2, rfl, -⟩ := h.tell.items.shape
  obtain ⟨a3, p3, rfl, -⟩ := h.tell.gone.shape
  obtain ⟨wx, hwx⟩ : ∃ qq, qq = w.alloc (.cells #[.int .i64 x.frm, .slice a0 x.seen.length p0, .slice a1 x.tell.seen.length p1, .slice a2 x.tell.items.length p2, .slice a3 x.tell.gone.length p3] 43) := ⟨_, rfl⟩
  have hbx : Below w.heap.size w wx := by rw [hwx]; exact kept_alloc _ _
  have hzx : wx.heap.size = w.heap.size + 1 := by rw [hwx]; simp
  have hx := h.keep (w' := wx) fun b _ hlt => hbx.block b hlt
  have hnx : Blk wx w.heap.size [.int .i64 x.frm, .slice a0 x.seen.length p0, .slice a1 x.tell.seen.length p1, .slice a2 x.tell.items.length p2, .slice a3 x.tell.gone.length p3] 43 := by rw [hwx]; exact Blk.new _ _ _
  have Hx := Lib.hid hx
  have Hwx := Lib.hid hwx; have Hbx := Lib.hid hbx; have Hzx := Lib.hid hzx
  have Hnx := Lib.hid hnx
  clear hx hwx hbx hnx hzx h
  have HF := Lib.hid (few_any wx _ (.agg #[.slice a1 x.tell.seen.length p1, .slice a2 x.tell.items.length p2, .slice a3 x.tell.gone.length p3]) x.tell ⟨_, _, _, rfl, Hx.out.tell⟩)
  have HR := Lib.hid (show ∀ W, Below wx.heap.size wx W → Below w.heap.size w W ∧ Blk W w.heap.size [.int .i64 x.frm, .slice a0 x.seen.length p0, .slice a1 x.tell.seen.length p1, .slice a2 x.tell.items.length p2, .slice a3 x.tell.gone.length p3] 43 ∧ MsgIn (fun q => q < w.heap.size) W (.slice a0 x.seen.length p0) (.slice a1 x.tell.seen.length p1) (.slice a2 x.tell.items.length p2) (.slice a3 x.tell.gone.length p3) x from fun W hW => by
    have hz := Hzx.out
    exact ⟨Hbx.out.trans (hW.mono (by omega)), Hnx.out.keep (hW.block _ (by omega)), Hx.out.keep (w' := W) fun q hq hlt => hW.block q (by omega)⟩)
  have hls := Hx.out.seen.len
  unfold maxLen at hls
  obtain ⟨c0, c1, c2, c3, c4⟩ := cell5 Hnx.out
  obtain ⟨nb, hnb⟩ : ∃ nb, bs.length = nb := ⟨_, rfl⟩
  rw [hnb]
  go_enter Tryz.func10, Tryz.ntmps10
  go_wp2_with fail
  rw [← Hwx.out]
  refine HF.out.mono ?_
  rintro e w1 ⟨r, rfl, hsm, hb1⟩
  obtain ⟨hB1, k1, m1⟩ := HR.out w1 hb1
  have Hb1 := Lib.hid hb1; have HB1 := Lib.hid hB1
  clear HF c0 c1 c2 c3 c4 hb1 hB1
  obtain ⟨c0, c1, c2, c3, c4⟩ := cell5 k1
  cases r with
  | false =>
    clear hsm k1 m1
    go_wp2_with fail
    go_ret
    exact ⟨rfl, HB1.out⟩
  | true =>
    have hsm := hsm rfl
    by_cases h20 : (x.seen.length : Int) > 20
    · have d1 : decide ((x.seen.length : Int) > 20) = true := by simpa using h20
      clear hsm k1 m1
      go_wp2_with fail
      go_ret
      exact ⟨rfl, HB1.out⟩
    have d1 : decide ((x.seen.length : Int) > 20) = false := by simpa using h20
    have h20' : x.seen.length ≤ 20 := by omega
    by_cases hn3 : 3000 < nb
    · have hnI : (3000 : Int) < (nb : Int) := by omega
      clear hsm k1 m1
      go_wp2_with fail
      go_ret
      exact ⟨rfl, HB1.out⟩
    have hnI : ¬ (3000 : Int) < (nb : Int) := by omega
    have Hbs3 := Lib.hid (show bs.length ≤ 3000 by omega)
    have Hnb := Lib.hid hnb
    have kI : ∀ y ∈ x.tell.items, y.key.length ≤ 1000000 := fun y hy => by have := hsm.ikeys y hy; omega
    have kG : ∀ y ∈ x.tell.gone, y.key.length ≤ 1000000 := fun y hy => by have := hsm.gkeys y hy; omega
    have Hss := Lib.hid (smallT_of hsm h20')
    have HS := Lib.hid (sent_any w1 _ (.agg #[.int .i64 x.frm, .slice a0 x.seen.length p0, .slice a1 x.tell.seen.length p1, .slice a2 x.tell.items.length p2, .slice a3 x.tell.gone.length p3]) x ⟨_, _, _, _, rfl, m1⟩ Hss.out)
    have KI := Lib.hid kI; have KG := Lib.hid kG
    obtain ⟨mr, hmr⟩ : ∃ mr, sencR x = mr := ⟨_, rfl⟩
    have Hmr := Lib.hid hmr
    clear hsm k1 m1 kI kG hmr h20' hnb
    go_wp2_with fail
    refine HS.out.mono ?_
    rintro e w2 ⟨v2, rfl, hv2, hb2⟩
    have hE := sencode_any w2 (HTb.out _ (HB1.out.trans (hb2.mono HB1.out.size))).1 (HTb.out _ (HB1.out.trans (hb2.mono HB1.out.size))).2 _ v2 x hv2 KI.out KG.out
    obtain ⟨sv, t1, t2, t3, rfl, hm2⟩ := hv2
    obtain ⟨f0, g0, rfl, -⟩ := hm2.seen.shape
    obtain ⟨f1, g1, rfl, -⟩ := hm2.tell.seen.shape
    obtain ⟨f2, g2, rfl, -⟩ := hm2.tell.items.shape
    obtain ⟨f3, g3, rfl, -⟩ := hm2.tell.gone.shape
    rw [Hmr.out] at hE
    have HE := Lib.hid hE; have Hb2 := Lib.hid (Hb1.out.trans (hb2.mono Hb1.out.size))
    clear HS c0 c1 c2 c3 c4 hm2 hb2 hE
    go_wp2_with fail
    refine HE.out.mono ?_
    rintro e w4 ⟨⟨v4, rfl, hv4⟩, hb4⟩
    have hL4 := Hb2.out.trans (hb4.mono Hb2.out.size)
    have HL4 := Lib.hid hL4
    have HW4 := Lib.hid (HR.out w4 hL4).1
    have hv4' := hv4.inside
    obtain ⟨a4, c4, rfl, -⟩ := id hv4
    have Hv4 := Lib.hid hv4'
    clear HE hv4 hv4' hb4 hL4
    by_cases hvd : svalid x = true
    case neg =>
      obtain rfl : mr = ([], 5) := by rw [← Hmr.out]; unfold sencR; rw [if_neg hvd]
      dsimp only
      have HDc := Lib.hid (sdecode_any w4 (HTb.out _ HW4.out).1 (HTb.out _ HW4.out).2 _ ab cb bs (HBs.out _ HW4.out) (by have := Hbs3.out; omega))
      obtain ⟨D, hD⟩ : ∃ D, sdecR bs = D := ⟨_, rfl⟩
      have HDe := Lib.hid hD
      unfold SDPost at HDc
      rw [hD, Hnb.out] at HDc
      clear hD
      go_wp2_with fail
      refine HDc.out.mono ?_
      rintro e wm20 ⟨r, rfl, hmv, hbm⟩
      obtain ⟨t0, t1, t2, t3, rfl, hmi⟩ := hmv
      dsimp only at hmi ⊢
      obtain ⟨n020, m020, rfl, -⟩ := hmi.seen.shape
      obtain ⟨n120, m120, rfl, -⟩ := hmi.tell.seen.shape
      obtain ⟨n220, m220, rfl, -⟩ := hmi.tell.items.shape
      obtain ⟨n320, m320, rfl, -⟩ := hmi.tell.gone.shape
      obtain ⟨w20, hw20⟩ : ∃ q, q = wm20.alloc (.cells #[.int .i64 D.1.frm, .slice n020 D.1.seen.length m020, .slice n120 D.1.tell.seen.length m120, .slice n220 D.1.tell.items.length m220, .slice n320 D.1.tell.gone.length m320] 39) := ⟨_, rfl⟩
      have hk20 : Below wm20.heap.size wm20 w20 := by rw [hw20]; exact kept_alloc _ _
      have hbw : Below w4.heap.size w4 w20 := hbm.trans (hk20.mono hbm.size)
      have Hb20 := Lib.hid (show Blk w20 wm20.heap.size [.int .i64 D.1.frm, .slice n020 D.1.seen.length m020, .slice n120 D.1.tell.seen.length m120, .slice n220 D.1.tell.items.length m220, .slice n320 D.1.tell.gone.length m320] 39 by rw [hw20]; exact Blk.new _ _ _)
      have Hm20 := Lib.hid ((hmi.keep (w' := w20) fun q _ hlt => hk20.block q hlt).mono (G := fun q => q < w20.heap.size) fun q _ hlt => hlt)
      have HW20 := Lib.hid (show Below w.heap.size w w20 from HW4.out.trans (hbw.mono HW4.out.size))
      have HB20 := Lib.hid hbw
      have Hw20 := Lib.hid hw20
      clear hk20 hbw hmi hbm hw20
      clear HDc
      by_cases h0 : D.2 = 0
      case neg =>
        have hB : (D.2 == 0) = false := beq_eq_false_iff_ne.2 h0
        have hN : (D.2 != 0) = true := by simp [h0]
        have HW := Lib.hid (works_any w20 (HTb.out _ HW20.out).1 (HTb.out _ HW20.out).2)
        go_wp2_with fail
        rw [← Hw20.out]
        refine HW.out.mono ?_
        rintro e wf ⟨rfl, hbf⟩
        clear HW
        go_wp2_with fail
        go_ret
        exact ⟨rfl, HW20.out.trans (hbf.mono HW20.out.size)⟩
      case pos =>
        have hok := sdec_ok (b := bs) (by rw [HDe.out]; exact h0)
        rw [HDe.out] at hok
        have Hky := Lib.hid (svalid_keys hok.1)
        have Hen := Lib.hid (show sencR D.1 = (bs, 0) by unfold sencR; rw [if_pos hok.1, hok.2])
        have HE := Lib.hid (sencode_any w20 (HTb.out _ HW20.out).1 (HTb.out _ HW20.out).2 _ (.agg #[.int .i64 D.1.frm, .slice n020 D.1.seen.length m020, .slice n120 D.1.tell.seen.length m120, .slice n220 D.1.tell.items.length m220, .slice n320 D.1.tell.gone.length m320]) D.1 ⟨_, _, _, _, rfl, Hm20.out⟩ Hky.out.1 Hky.out.2)
        rw [Hen.out] at HE
        obtain ⟨c0Y, c1Y, c2Y, c3Y, c4Y⟩ := cell5 Hb20.out
        rw [Hw20.out] at c0Y c1Y c2Y c3Y c4Y
        clear hok
        go_wp2_with fail
        rw [← Hw20.out]
        refine HE.out.mono ?_
        rintro e w21 ⟨⟨v5, rfl, hv5⟩, hb21⟩
        have hW21 := HW20.out.trans (hb21.mono HW20.out.size)
        have h41 := run_strB hv5
        have h51 := run_strB (HBs.out _ hW21)
        rw [Hnb.out] at h51
        have HW21 := Lib.hid hW21
        have HWk := Lib.hid (works_any w21 (HTb.out _ hW21).1 (HTb.out _ hW21).2)
        clear HE c0Y c1Y c2Y c3Y c4Y hb21 hW21 hv5
        go_wp2_with fail
        refine HWk.out.mono ?_
        rintro e w22 ⟨rfl, hb22⟩
        clear HWk
        go_wp2_with fail
        go_ret
        exact ⟨rfl, HW21.out.trans (hb22.mono HW21.out.size)⟩
    case pos =>
      obtain rfl : mr = (codeS x, 0) := by rw [← Hmr.out]; unfold sencR; rw [if_pos hvd]
      have hlen := codeS_len hvd
      have hDm := sdecode_any w4 (HTb.out _ HW4.out).1 (HTb.out _ HW4.out).2 _ a4 c4 (codeS x) Hv4.out (by omega)
      unfold SDPost at hDm
      rw [sdec_of hvd] at hDm
      dsimp only at hDm ⊢
      obtain ⟨nc, hnc⟩ : ∃ nc, (codeS x).length = nc := ⟨_, rfl⟩
      rw [hnc] at hDm hlen ⊢
      have HDm := Lib.hid hDm
      clear hDm hlen hnc hvd
      go_wp2_with fail
      refine HDm.out.mono ?_
      rintro e wm10 ⟨r, rfl, hmv, hbm⟩
      obtain ⟨t0, t1, t2, t3, rfl, hmi⟩ := hmv
      dsimp only at hmi ⊢
      obtain ⟨n010, m010, rfl, -⟩ := hmi.seen.shape
      obtain ⟨n110, m110, rfl, -⟩ := hmi.tell.seen.shape
      obtain ⟨n210, m210, rfl, -⟩ := hmi.tell.items.shape
      obtain ⟨n310, m310, rfl, -⟩ := hmi.tell.gone.shape
      obtain ⟨w10, hw10⟩ : ∃ q, q = wm10.alloc (.cells #[.int .i64 x.frm, .slice n010 x.seen.length m010, .slice n110 x.tell.seen.length m110, .slice n210 x.tell.items.length m210, .slice n310 x.tell.gone.length m310] 39) := ⟨_, rfl⟩
      have hk10 : Below wm10.heap.size wm10 w10 := by rw [hw10]; exact kept_alloc _ _
      have hbw : Below w4.heap.size w4 w10 := hbm.trans (hk10.mono hbm.size)
      have Hb10 := Lib.hid (show Blk w10 wm10.heap.size [.int .i64 x.frm, .slice n010 x.seen.length m010, .slice n110 x.tell.seen.length m110, .slice n210 x.tell.items.length m210, .slice n310 x.tell.gone.length m310] 39 by rw [hw10]; exact Blk.new _ _ _)
      have Hm10 := Lib.hid ((hmi.keep (w' := w10) fun q _ hlt => hk10.block q hlt).mono (G := fun q => q < w10.heap.size) fun q _ hlt => hlt)
      have HW10 := Lib.hid (show Below w.heap.size w w10 from HW4.out.trans (hbw.mono HW4.out.size))
      have HB10 := Lib.hid hbw
      have Hw10 := Lib.hid hw10
      clear hk10 hbw hmi hbm hw10
      clear HDm
      have hL10 := HL4.out.trans (HB10.out.mono HL4.out.size)
      obtain ⟨-, kx, mx⟩ := HR.out w10 hL10
      obtain ⟨c0, c1, c2, c3, c4⟩ := cell5 Hb10.out
      obtain ⟨d0, d1', d2, d3, d4⟩ := cell5 kx
      have Hc := Lib.hid (And.intro c0 (And.intro c1 (And.intro c2 (And.intro c3 c4))))
      have Hd := Lib.hid (And.intro d0 (And.intro d1' (And.intro d2 (And.intro d3 d4))))
      have Hmx := Lib.hid mx
      clear c0 c1 c2 c3 c4 d0 d1' d2 d3 d4 hL10 kx mx
      have Hp := Lib.hid (show ∀ a u, w10.cell? a = some u → ∀ w', Later w10.drew w' → w'.cell? a = some u from fun a u h w' hh => laterC h hh)
      have pc0 := Hp.out _ _ Hc.out.1
      have pc1 := Hp.out _ _ Hc.out.2.1
      have pc2 := Hp.out _ _ Hc.out.2.2.1
      have pc3 := Hp.out _ _ Hc.out.2.2.2.1
      have pc4 := Hp.out _ _ Hc.out.2.2.2.2
      have pd0 := Hp.out _ _ Hd.out.1
      have pd1 := Hp.out _ _ Hd.out.2.1
      have pd2 := Hp.out _ _ Hd.out.2.2.1
      have pd3 := Hp.out _ _ Hd.out.2.2.2.1
      have pd4 := Hp.out _ _ Hd.out.2.2.2.2
      have hbd := (Below.refl w10.heap.size w10).drew
      go_wp2_with fail
      rw [← Hw10.out]
      refine wp_region_can Later [(0, true), (1, true), (2, true), (3, true), (5, true), (4, false), (6, false), (7, true), (8, true)] (by kernel_rfl) (by kernel_rfl) later_refl later_trans ?_
      repeat (first
        | (refine can_yes (v := ?_) rfl (wanted_none rfl) (fun w' hC => ?_) (fun K hK => ?_); rotate_left; (focus (go_simp; first | done | exact rfl)); go_simp; refine hK _ ?_; clear hK K)
        | (refine can_guard rfl (fun A B hA hB => ?_); go_simp; first | (refine hA ⟨?_, fun w' hC => ?_, fun K hK => ?_⟩; rotate_left; (focus (go_simp; first | done | exact rfl)); go_simp; refine hK _ ?_; clear hK K hA hB A B) | (refine hB (fun K hK => ?_); go_simp; refine hK _ ?_; clear hK K hA hB A B))
        | (refine can_guard_go rfl (fun A B hA hB => ?_); go_simp; refine hB (fun K hK => ?_); go_simp; refine hK _ ?_; clear hK K hA hB A B))
      clear pc0 pc1 pc2 pc3 pc4 pd0 pd1 pd2 pd3 pd4
      refine can_go rfl rfl (fun KK hK => ?_)
      go_simp
      refine (got_any w10.drew _ (.agg #[.int .i64 x.frm, .slice n010 x.seen.length m010, .slice n110 x.tell.seen.length m110, .slice n210 x.tell.items.length m210, .slice n310 x.tell.gone.length m310]) x ⟨_, _, _, _, rfl, (Hm10.out.keep (w' := w10.drew) fun _ _ _ => rfl)⟩ Hss.out).mono ?_
      rintro e w15 ⟨v15, rfl, hv15, hb15⟩
      have hbr15 := hbd.trans hb15
      refine ⟨_, rfl, hb15, hK _ _ ?_⟩
      clear hK KK
      go_simp
      refine can_go rfl rfl (fun KK hK => ?_)
      go_simp
      refine (sameS_any w15 _ _ v15 (.agg #[.int .i64 x.frm, .slice a0 x.seen.length p0, .slice a1 x.tell.seen.length p1, .slice a2 x.tell.items.length p2, .slice a3 x.tell.gone.length p3]) x x hv15 ⟨_, _, _, _, rfl, Hmx.out.keep (w' := w15) fun q _ hlt => hbr15.block q hlt⟩).mono ?_
      rintro e w16 ⟨r, rfl, hr, hb16⟩
      obtain rfl : r = true := hr.2 rfl
      have hbr16 := hbr15.trans (hb16.mono hbr15.size)
      refine ⟨_, rfl, hb16, hK _ _ ?_⟩
      have HW16 := Lib.hid (HW10.out.trans (hbr16.mono HW10.out.size))
      clear hK KK hr hv15 hbr15 hbr16 hb15 hb16 hbd
      go_simp
      repeat (first
        | (refine can_yes (v := ?_) rfl (wanted_none rfl) (fun w' hC => ?_) (fun K hK => ?_); rotate_left; (focus (go_simp; first | done | exact rfl)); go_simp; refine hK _ ?_; clear hK K)
        | (refine can_guard rfl (fun A B hA hB => ?_); go_simp; first | (refine hA ⟨?_, fun w' hC => ?_, fun K hK => ?_⟩; rotate_left; (focus (go_simp; first | done | exact rfl)); go_simp; refine hK _ ?_; clear hK K hA hB A B) | (refine hB (fun K hK => ?_); go_simp; refine hK _ ?_; clear hK K hA hB A B))
        | (refine can_guard_go rfl (fun A B hA hB => ?_); go_simp; refine hB (fun K hK => ?_); go_simp; refine hK _ ?_; clear hK K hA hB A B))
      refine can_nil ?_
      have HDc := Lib.hid (sdecode_any w16 (HTb.out _ HW16.out).1 (HTb.out _ HW16.out).2 _ ab cb bs (HBs.out _ HW16.out) (by have := Hbs3.out; omega))
      obtain ⟨D, hD⟩ : ∃ D, sdecR bs = D := ⟨_, rfl⟩
      have HDe := Lib.hid hD
      unfold SDPost at HDc
      rw [hD, Hnb.out] at HDc
      clear hD
      go_wp2_with fail
      refine HDc.out.mono ?_
      rintro e wm20 ⟨r, rfl, hmv, hbm⟩
      obtain ⟨t0, t1, t2, t3, rfl, hmi⟩ := hmv
      dsimp only at hmi ⊢
      obtain ⟨n020, m020, rfl, -⟩ := hmi.seen.shape
      obtain ⟨n120, m120, rfl, -⟩ := hmi.tell.seen.shape
      obtain ⟨n220, m220, rfl, -⟩ := hmi.tell.items.shape
      obtain ⟨n320, m320, rfl, -⟩ := hmi.tell.gone.shape
      obtain ⟨w20, hw20⟩ : ∃ q, q = wm20.alloc (.cells #[.int .i64 D.1.frm, .slice n020 D.1.seen.length m020, .slice n120 D.1.tell.seen.length m120, .slice n220 D.1.tell.items.length m220, .slice n320 D.1.tell.gone.length m320] 39) := ⟨_, rfl⟩
      have hk20 : Below wm20.heap.size wm20 w20 := by rw [hw20]; exact kept_alloc _ _
      have hbw : Below w16.heap.size w16 w20 := hbm.trans (hk20.mono hbm.size)
      have Hb20 := Lib.hid (show Blk w20 wm20.heap.size [.int .i64 D.1.frm, .slice n020 D.1.seen.length m020, .slice n120 D.1.tell.seen.length m120, .slice n220 D.1.tell.items.length m220, .slice n320 D.1.tell.gone.length m320] 39 by rw [hw20]; exact Blk.new _ _ _)
      have Hm20 := Lib.hid ((hmi.keep (w' := w20) fun q _ hlt => hk20.block q hlt).mono (G := fun q => q < w20.heap.size) fun q _ hlt => hlt)
      have HW20 := Lib.hid (show Below w.heap.size w w20 from HW16.out.trans (hbw.mono HW16.out.size))
      have HB20 := Lib.hid hbw
      have Hw20 := Lib.hid hw20
      clear hk20 hbw hmi hbm hw20
      clear HDc
      by_cases h0 : D.2 = 0
      case neg =>
        have hB : (D.2 == 0) = false := beq_eq_false_iff_ne.2 h0
        have hN : (D.2 != 0) = true := by simp [h0]
        have HW := Lib.hid (works_any w20 (HTb.out _ HW20.out).1 (HTb.out _ HW20.out).2)
        go_wp2_with fail
        rw [← Hw20.out]
        refine HW.out.mono ?_
        rintro e wf ⟨rfl, hbf⟩
        clear HW
        go_wp2_with fail
        go_ret
        exact ⟨rfl, HW20.out.trans (hbf.mono HW20.out.size)⟩
      case pos =>
        have hok := sdec_ok (b := bs) (by rw [HDe.out]; exact h0)
        rw [HDe.out] at hok
        have Hky := Lib.hid (svalid_keys hok.1)
        have Hen := Lib.hid (show sencR D.1 = (bs, 0) by unfold sencR; rw [if_pos hok.1, hok.2])
        have HE := Lib.hid (sencode_any w20 (HTb.out _ HW20.out).1 (HTb.out _ HW20.out).2 _ (.agg #[.int .i64 D.1.frm, .slice n020 D.1.seen.length m020, .slice n120 D.1.tell.seen.length m120, .slice n220 D.1.tell.items.length m220, .slice n320 D.1.tell.gone.length m320]) D.1 ⟨_, _, _, _, rfl, Hm20.out⟩ Hky.out.1 Hky.out.2)
        rw [Hen.out] at HE
        obtain ⟨c0Y, c1Y, c2Y, c3Y, c4Y⟩ := cell5 Hb20.out
        rw [Hw20.out] at c0Y c1Y c2Y c3Y c4Y
        clear hok
        go_wp2_with fail
        rw [← Hw20.out]
        refine HE.out.mono ?_
        rintro e w21 ⟨⟨v5, rfl, hv5⟩, hb21⟩
        have hW21 := HW20.out.trans (hb21.mono HW20.out.size)
        have h41 := run_strB hv5
        have h51 := run_strB (HBs.out _ hW21)
        rw [Hnb.out] at h51
        have HW21 := Lib.hid hW21
        have HWk := Lib.hid (works_any w21 (HTb.out _ hW21).1 (HTb.out _ hW21).2)
        clear HE c0Y c1Y c2Y c3Y c4Y hb21 hW21 hv5
        go_wp2_with fail
        refine HWk.out.mono ?_
        rintro e w22 ⟨rfl, hb22⟩
        clear HWk
        go_wp2_with fail
        go_ret
        exact ⟨rfl, HW21.out.trans (hb22.mono HW21.out.size)⟩
end Go.Proofs.YtkkacnfpdafadaaGreatDoor
