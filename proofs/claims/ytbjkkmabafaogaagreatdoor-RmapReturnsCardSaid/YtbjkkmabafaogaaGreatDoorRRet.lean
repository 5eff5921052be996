/- The law RmapReturns. -/
import Derived.Test.YtbjkkmabafaogaaGreatDoorRDecP
import Derived.Test.YtbjkkmabafaogaaGreatDoorREncP
import Derived.Test.YtbjkkmabafaogaaGreatDoorRHas
import Derived.Test.YtbjkkmabafaogaaGreatDoorRArg
namespace Go.Proofs.YtbjkkmabafaogaaGreatDoor
open Go.RowKit Go.Lib
set_option linter.unusedVariables false
set_option maxRecDepth 20000
attribute [local go_sem ↓] seal_append
attribute [local go_sem] opC upC

abbrev IsBytes (w : World) (v : Value) : Prop := ∃ l : List UInt8, Bytes (fun b => b < w.heap.size) w v l
theorem Bytes.inside {F : Blks} {w : World} {v : Value} {l : List UInt8} (h : Bytes F w v l) : Bytes (fun q => q < w.heap.size) w v l := by
  obtain ⟨a, cap, hv, h1, h2, h3, h4⟩ := h
  refine ⟨a, cap, hv, h1, h2, h3, ?_⟩
  rcases h4 with h4 | ⟨bb, off, L, t, fz, e1, -, e2, rest⟩
  · exact .inl h4
  · exact .inr ⟨bb, off, L, t, fz, e1, lt_of_block e2, e2, rest⟩
set_option maxRecDepth 100000 in
set_option maxHeartbeats 8000000 in
theorem RmapReturns_walk (v bv : Value) (w : World) (hv : IsRMap w v) (hbv : IsBytes w bv) (hq : Tabs w ∧ 3 ≤ w.heap.size) :
    Calls Tryz.prog 14 #[v, bv] w fun e w' => e = .returned (.bool true) ∧ Below w.heap.size w w' := by
  obtain ⟨m, h⟩ := hv
  obtain ⟨bs, hbs⟩ := hbv
  obtain ⟨ab, cb, rfl, -⟩ := id hbs
  have HTb := Lib.hid (show ∀ w', Below w.heap.size w w' → Tabs w' ∧ 3 ≤ w'.heap.size from fun w' hb => ⟨tabs_below hq.1 hq.2 hb, Nat.le_trans hq.2 hb.size⟩)
  have HBs := Lib.hid (show ∀ w', Below w.heap.size w w' → Bytes (fun q => q < w.heap.size) w' (.slice ab bs.length cb) bs ∧ ∀ q, q < w.heap.size → q < w'.heap.size from fun w' hb => ⟨hbs.keep (w' := w') fun q hq _ => hb.block q hq, fun q hq => Nat.lt_of_lt_of_le hq hb.size⟩)
  clear hq hbs
  obtain ⟨s1, s2, s3, rfl, h⟩ := h
  obtain ⟨a1, p1, rfl, -⟩ := h.seen.shape
  obtain ⟨a2, p2, rfl, -⟩ := h.items.shape
  obtain ⟨a3, p3, rfl, -⟩ := h.gone.shape
  obtain ⟨wx, hwx⟩ : ∃ wx, wx = w.alloc (.cells #[.slice a1 m.seen.length p1, .slice a2 m.items.length p2, .slice a3 m.gone.length p3] 26) := ⟨_, rfl⟩
  have hbx : Below w.heap.size w wx := by rw [hwx]; exact kept_alloc _ _
  have hzx : wx.heap.size = w.heap.size + 1 := by rw [hwx]; simp
  have hx := h.keep (w' := wx) fun b _ hlt => hbx.block b hlt
  have hnx : Blk wx w.heap.size [.slice a1 m.seen.length p1, .slice a2 m.items.length p2, .slice a3 m.gone.length p3] 26 := by rw [hwx]; exact Blk.new _ _ _
  have Hx := Lib.hid hx
  have Hwx := Lib.hid hwx; have Hbx := Lib.hid hbx; have Hzx := Lib.hid hzx
  have Hnx := Lib.hid hnx
  clear hx hwx hbx hnx hzx h
  have HF := Lib.hid (few_any wx _ _ m ⟨_, _, _, rfl, Hx.out⟩)
  obtain ⟨c0, c1, c2⟩ := cell3 Hnx.out
  obtain ⟨nb, hnb⟩ : ∃ nb, bs.length = nb := ⟨_, rfl⟩
  rw [hnb]
  go_enter Tryz.func14, Tryz.ntmps14
  go_wp2_with fail
  rw [← Hwx.out]
  refine HF.out.mono ?_
  rintro e w1 ⟨r, rfl, hsm, hb1⟩
  have hb1' : Below w.heap.size w w1 := Hbx.out.trans (hb1.mono Hbx.out.size)
  clear HF
  cases r with
  | false =>
    have Hb1 := Lib.hid hb1'
    clear hb1' hb1 hsm
    go_wp2_with fail
    go_ret
    exact ⟨rfl, Hb1.out⟩
  | true =>
    by_cases hn3 : 3000 < nb
    · have hnI : (3000 : Int) < (nb : Int) := by omega
      have Hb1 := Lib.hid hb1'
      clear hb1' hb1 hsm
      go_wp2_with fail
      go_ret
      exact ⟨rfl, Hb1.out⟩
    have hnI : ¬ (3000 : Int) < (nb : Int) := by omega
    have Hbs3 := Lib.hid (show bs.length ≤ 3000 by omega)
    have hsm := hsm rfl
    have kI : ∀ x ∈ m.items, x.key.length ≤ 1000000 := fun x hx => by have := hsm.ikeys x hx; omega
    have kG : ∀ x ∈ m.gone, x.key.length ≤ 1000000 := fun x hx => by have := hsm.gkeys x hx; omega
    have hS1 := Hx.out.keep (w' := w1) fun b _ hlt => hb1.block b hlt
    have hN1 := Hnx.out.keep (hb1.block _ Hnx.out.lt)
    have HG := Lib.hid (given_any w1 _ _ m ⟨_, _, _, rfl, hS1⟩ (by have := hsm.seen; omega) (by have := hsm.items; omega) (by have := hsm.gone; omega))
    clear c0 c1 c2
    obtain ⟨c0, c1, c2⟩ := cell3 hN1
    have Hb1 := Lib.hid hb1'; have Hsm := Lib.hid hsm; have HkI := Lib.hid kI; have HkG := Lib.hid kG; have Hnb := Lib.hid hnb
    clear hb1 hb1' hS1 hN1 hsm kI kG hnb
    go_wp2_with fail
    refine HG.out.mono ?_
    rintro e w2 ⟨v2, rfl, hi, hb2⟩
    have hb2' : Below w.heap.size w w2 := Hb1.out.trans (hb2.mono Hb1.out.size)
    obtain ⟨s1i, s2i, s3i, rfl, hi⟩ := hi
    obtain ⟨a1i, p1i, rfl, -⟩ := hi.seen.shape
    obtain ⟨a2i, p2i, rfl, -⟩ := hi.items.shape
    obtain ⟨a3i, p3i, rfl, -⟩ := hi.gone.shape
    obtain ⟨wxi, hwxi⟩ : ∃ wx, wx = w2.alloc (.cells #[.slice a1i m.seen.length p1i, .slice a2i m.items.length p2i, .slice a3i m.gone.length p3i] 31) := ⟨_, rfl⟩
    have hbxi : Below w2.heap.size w2 wxi := by rw [hwxi]; exact kept_alloc _ _
    have hzxi : wxi.heap.size = w2.heap.size + 1 := by rw [hwxi]; simp
    have hxi := hi.keep (w' := wxi) fun b _ hlt => hbxi.block b hlt
    have hnxi : Blk wxi w2.heap.size [.slice a1i m.seen.length p1i, .slice a2i m.items.length p2i, .slice a3i m.gone.length p3i] 31 := by rw [hwxi]; exact Blk.new _ _ _
    have Hxi := Lib.hid hxi
    have Hwxi := Lib.hid hwxi; have Hbxi := Lib.hid hbxi; have Hzxi := Lib.hid hzxi
    have Hnxi := Lib.hid hnxi
    clear hxi hwxi hbxi hnxi hzxi hi
    have HW3 := Lib.hid (show Below w.heap.size w wxi from hb2'.trans (Hbxi.out.mono hb2'.size))
    have hmb : MB wxi w2.heap.size m := ⟨_, _, _, _, _, _, Hnxi.out, Hxi.out.mono fun q _ hlt => hlt⟩
    have Hl3 := Lib.hid ((Has.nil wxi).cons hmb)
    have HE := Lib.hid (pencode_any wxi (HTb.out _ HW3.out).1 (HTb.out _ HW3.out).2 _ (.agg #[.slice a1i m.seen.length p1i, .slice a2i m.items.length p2i, .slice a3i m.gone.length p3i]) m ⟨_, _, _, rfl, Hxi.out⟩ HkI.out HkG.out)
    clear hb2 hb2' HG c0 c1 c2 hmb
    obtain ⟨c0, c1, c2⟩ := cell3 Hnxi.out
    obtain ⟨en, hen⟩ : ∃ en, encR m = en := ⟨_, rfl⟩
    rw [hen] at HE
    have Hen := Lib.hid hen
    clear hen
    go_wp2_with fail
    rw [← Hwxi.out]
    refine HE.out.mono ?_
    rintro e w4 ⟨⟨v4, rfl, hv4⟩, hb4⟩
    clear HE c0 c1 c2
    have HW4 := Lib.hid (HW3.out.trans (hb4.mono HW3.out.size))
    have Hl4 := Lib.hid (Hl3.out.keep hb4)
    have hv4' := hv4.inside
    obtain ⟨a4, c4, rfl, -⟩ := id hv4
    have Hv4 := Lib.hid hv4'
    clear hv4 hv4' hb4
    by_cases hvd : validR m = true
    case neg =>
      obtain rfl : en = ([], 5) := by rw [← Hen.out]; unfold encR; rw [if_neg hvd]
      dsimp only
      have HDc := Lib.hid (pdecode_any w4 (HTb.out _ HW4.out).1 (HTb.out _ HW4.out).2 _ ab cb bs (HBs.out _ HW4.out).1 (HBs.out _ HW4.out).2 (by have := Hbs3.out; omega))
      obtain ⟨D, hD⟩ : ∃ D, decR bs = D := ⟨_, rfl⟩
      have HDe := Lib.hid hD
      have HnL := Lib.hid (Has.nil w4)
      unfold DPost at HDc
      rw [hD, Hnb.out] at HDc
      clear hD
      go_wp2_with fail
      skip
      refine HDc.out.mono ?_
      rintro e wm20 ⟨r, rfl, hmv, hbm⟩
      obtain ⟨t1, t2, t3, rfl, hmi⟩ := hmv
      dsimp only at hmi ⊢
      obtain ⟨n120, m120, rfl, -⟩ := hmi.seen.shape
      obtain ⟨n220, m220, rfl, -⟩ := hmi.items.shape
      obtain ⟨n320, m320, rfl, -⟩ := hmi.gone.shape
      obtain ⟨w20, hw20⟩ : ∃ q, q = wm20.alloc (.cells #[.slice n120 D.1.seen.length m120, .slice n220 D.1.items.length m220, .slice n320 D.1.gone.length m320] 31) := ⟨_, rfl⟩
      have hk20 : Below wm20.heap.size wm20 w20 := by rw [hw20]; exact kept_alloc _ _
      have hbw : Below w4.heap.size w4 w20 := hbm.trans (hk20.mono hbm.size)
      have hmb : MB w20 wm20.heap.size D.1 := ⟨_, _, _, _, _, _, by rw [hw20]; exact Blk.new _ _ _, (hmi.keep (w' := w20) fun q _ hlt => hk20.block q hlt).mono fun q _ hlt => hlt⟩
      have Hl20 := Lib.hid (show Has ((wm20.heap.size, D.1) :: []) w20 from (HnL.out.keep hbw).cons hmb)
      have HW20 := Lib.hid (show Below w.heap.size w w20 from HW4.out.trans (hbw.mono HW4.out.size))
      have Hw20 := Lib.hid hw20
      clear hk20 hbw hmb hmi hbm hw20
      clear HDc
      by_cases h0 : D.2 = 0
      case neg =>
        have hB : (D.2 == 0) = false := beq_eq_false_iff_ne.2 h0
        have hN : (D.2 != 0) = true := by simp [h0]
        have HW := Lib.hid (works_any w20 (HTb.out _ HW20.out).1 (HTb.out _ HW20.out).2)
        go_wp2_with fail
        rw [← Hw20.out]
        refine HW.out.mono ?_
        rintro e wf ⟨rfl, hbf⟩
        clear HW
        go_wp2_with fail
        go_ret
        exact ⟨rfl, HW20.out.trans (hbf.mono HW20.out.size)⟩
      case pos =>
        have hok := decR_ok (b := bs) (by rw [HDe.out]; exact h0)
        rw [HDe.out] at hok
        have Hky := Lib.hid (valid_keys hok.1)
        have Hen := Lib.hid (show encR D.1 = (bs, 0) by unfold encR; rw [if_pos hok.1, hok.2])
        obtain ⟨O, hO⟩ : ∃ O, wm20.heap.size = O := ⟨_, rfl⟩
        have hl20 := Hl20.out
        rw [hO] at hl20
        obtain ⟨s1Y, e1Y, s2Y, e2Y, s3Y, e3Y, hBY, hMY⟩ := hl20.get O D.1 (by simp)
        obtain ⟨c0Y, c1Y, c2Y⟩ := cell3 hBY
        have HE := Lib.hid (pencode_any w20 (HTb.out _ HW20.out).1 (HTb.out _ HW20.out).2 _ (.agg #[.slice s1Y D.1.seen.length e1Y, .slice s2Y D.1.items.length e2Y, .slice s3Y D.1.gone.length e3Y]) D.1 ⟨_, _, _, rfl, hMY⟩ Hky.out.1 Hky.out.2)
        rw [Hen.out] at HE
        rw [Hw20.out] at c0Y c1Y c2Y
        clear hok hl20 hBY hMY Hl20
        go_wp2_with fail
        rw [← Hw20.out]
        refine HE.out.mono ?_
        rintro e w21 ⟨⟨v5, rfl, hv5⟩, hb21⟩
        have hW21 := HW20.out.trans (hb21.mono HW20.out.size)
        have h41 := run_strB hv5
        have h51 := run_strB (HBs.out _ hW21).1
        rw [Hnb.out] at h51
        have HW21 := Lib.hid hW21
        have HWk := Lib.hid (works_any w21 (HTb.out _ hW21).1 (HTb.out _ hW21).2)
        clear HE c0Y c1Y c2Y hb21 hW21 hO hv5
        go_wp2_with fail
        refine HWk.out.mono ?_
        rintro e w22 ⟨rfl, hb22⟩
        clear HWk
        go_wp2_with fail
        go_ret
        exact ⟨rfl, HW21.out.trans (hb22.mono HW21.out.size)⟩
    case pos =>
      obtain rfl : en = (codeR m, 0) := by rw [← Hen.out]; unfold encR; rw [if_pos hvd]
      have hlen := (valid_lens hvd).2.2.2
      have hDm := pdecode_any w4 (HTb.out _ HW4.out).1 (HTb.out _ HW4.out).2 _ a4 c4 (codeR m) Hv4.out (fun q h => h) (by omega)
      unfold DPost at hDm
      rw [decR_of hvd] at hDm
      dsimp only at hDm ⊢
      obtain ⟨nc, hnc⟩ : ∃ nc, (codeR m).length = nc := ⟨_, rfl⟩
      rw [hnc] at hDm hlen ⊢
      have hlenI : ¬ (60000 : Int) < (nc : Int) := by omega
      have HDm := Lib.hid hDm
      have Hsz := Lib.hid (show m.seen.length ≤ 1000000 ∧ m.items.length ≤ 1000000 ∧ m.gone.length ≤ 1000000 from ⟨by have := Hsm.out.seen; omega, by have := Hsm.out.items; omega, by have := Hsm.out.gone; omega⟩)
      obtain ⟨OX, hOX⟩ : ∃ OX, w2.heap.size = OX := ⟨_, rfl⟩
      have Hl4' := Lib.hid (hOX ▸ Hl4.out)
      clear hDm hlen hnc hvd Hl4 Hl3
      go_wp2_with fail
      refine HDm.out.mono ?_
      rintro e wm10 ⟨r, rfl, hmv, hbm⟩
      obtain ⟨t1, t2, t3, rfl, hmi⟩ := hmv
      dsimp only at hmi ⊢
      obtain ⟨n110, m110, rfl, -⟩ := hmi.seen.shape
      obtain ⟨n210, m210, rfl, -⟩ := hmi.items.shape
      obtain ⟨n310, m310, rfl, -⟩ := hmi.gone.shape
      obtain ⟨w10, hw10⟩ : ∃ q, q = wm10.alloc (.cells #[.slice n110 m.seen.length m110, .slice n210 m.items.length m210, .slice n310 m.gone.length m310] 31) := ⟨_, rfl⟩
      have hk10 : Below wm10.heap.size wm10 w10 := by rw [hw10]; exact kept_alloc _ _
      have hbw : Below w4.heap.size w4 w10 := hbm.trans (hk10.mono hbm.size)
      have hmb : MB w10 wm10.heap.size m := ⟨_, _, _, _, _, _, by rw [hw10]; exact Blk.new _ _ _, (hmi.keep (w' := w10) fun q _ hlt => hk10.block q hlt).mono fun q _ hlt => hlt⟩
      have Hl10 := Lib.hid (show Has ((wm10.heap.size, m) :: ((OX, m) :: [])) w10 from (Hl4'.out.keep hbw).cons hmb)
      have HW10 := Lib.hid (show Below w.heap.size w w10 from HW4.out.trans (hbw.mono HW4.out.size))
      have Hw10 := Lib.hid hw10
      clear hk10 hbw hmb hmi hbm hw10
      clear HDm hOX
      obtain ⟨s1X, e1X, s2X, e2X, s3X, e3X, hBX, hMX⟩ := Hl10.out.get OX m (by simp)
      obtain ⟨c0X, c1X, c2X⟩ := cell3 hBX
      obtain ⟨s1Y, e1Y, s2Y, e2Y, s3Y, e3Y, hBY, hMY⟩ := Hl10.out.get wm10.heap.size m (by simp)
      obtain ⟨c0Y, c1Y, c2Y⟩ := cell3 hBY
      have HE := Lib.hid (equal_any w10 _ _ (.agg #[.slice s1X m.seen.length e1X, .slice s2X m.items.length e2X, .slice s3X m.gone.length e3X]) (.agg #[.slice s1Y m.seen.length e1Y, .slice s2Y m.items.length e2Y, .slice s3Y m.gone.length e3Y]) m m ⟨_, _, _, rfl, hMX⟩ ⟨_, _, _, rfl, hMY⟩ Hsz.out.1 Hsz.out.2.1 Hsz.out.2.2 Hsz.out.1 Hsz.out.2.1 Hsz.out.2.2)
      rw [Hw10.out] at c0X c1X c2X c0Y c1Y c2Y
      clear hBX hMX hBY hMY
      go_wp2_with fail
      rw [← Hw10.out]
      refine HE.out.mono ?_
      rintro e w11 ⟨r, rfl, hr, hb⟩
      obtain rfl : r = true := hr.2 rfl
      have Hl11 := Lib.hid (Hl10.out.keep hb); have HW11 := Lib.hid (show Below w.heap.size w w11 from HW10.out.trans (hb.mono HW10.out.size))
      clear HE hr hb c0X c1X c2X c0Y c1Y c2Y
      have HDc := Lib.hid (pdecode_any w11 (HTb.out _ HW11.out).1 (HTb.out _ HW11.out).2 _ ab cb bs (HBs.out _ HW11.out).1 (HBs.out _ HW11.out).2 (by have := Hbs3.out; omega))
      obtain ⟨D, hD⟩ : ∃ D, decR bs = D := ⟨_, rfl⟩
      have HDe := Lib.hid hD
      have HnL := Lib.hid (Has.nil w11)
      unfold DPost at HDc
      rw [hD, Hnb.out] at HDc
      clear hD
      go_wp2_with fail
      skip
      refine HDc.out.mono ?_
      rintro e wm20 ⟨r, rfl, hmv, hbm⟩
      obtain ⟨t1, t2, t3, rfl, hmi⟩ := hmv
      dsimp only at hmi ⊢
      obtain ⟨n120, m120, rfl, -⟩ := hmi.seen.shape
      obtain ⟨n220, m220, rfl, -⟩ := hmi.items.shape
      obtain ⟨n320, m320, rfl, -⟩ := hmi.gone.shape
      obtain ⟨w20, hw20⟩ : ∃ q, q = wm20.alloc (.cells #[.slice n120 D.1.seen.length m120, .slice n220 D.1.items.length m220, .slice n320 D.1.gone.length m320] 31) := ⟨_, rfl⟩
      have hk20 : Below wm20.heap.size wm20 w20 := by rw [hw20]; exact kept_alloc _ _
      have hbw : Below w11.heap.size w11 w20 := hbm.trans (hk20.mono hbm.size)
      have hmb : MB w20 wm20.heap.size D.1 := ⟨_, _, _, _, _, _, by rw [hw20]; exact Blk.new _ _ _, (hmi.keep (w' := w20) fun q _ hlt => hk20.block q hlt).mono fun q _ hlt => hlt⟩
      have Hl20 := Lib.hid (show Has ((wm20.heap.size, D.1) :: []) w20 from (HnL.out.keep hbw).cons hmb)
      have HW20 := Lib.hid (show Below w.heap.size w w20 from HW11.out.trans (hbw.mono HW11.out.size))
      have Hw20 := Lib.hid hw20
      clear hk20 hbw hmb hmi hbm hw20
      clear HDc
      by_cases h0 : D.2 = 0
      case neg =>
        have hB : (D.2 == 0) = false := beq_eq_false_iff_ne.2 h0
        have hN : (D.2 != 0) = true := by simp [h0]
        have HW := Lib.hid (works_any w20 (HTb.out _ HW20.out).1 (HTb.out _ HW20.out).2)
        go_wp2_with fail
        rw [← Hw20.out]
        refine HW.out.mono ?_
        rintro e wf ⟨rfl, hbf⟩
        clear HW
        go_wp2_with fail
        go_ret
        exact ⟨rfl, HW20.out.trans (hbf.mono HW20.out.size)⟩
      case pos =>
        have hok := decR_ok (b := bs) (by rw [HDe.out]; exact h0)
        rw [HDe.out] at hok
        have Hky := Lib.hid (valid_keys hok.1)
        have Hen := Lib.hid (show encR D.1 = (bs, 0) by unfold encR; rw [if_pos hok.1, hok.2])
        obtain ⟨O, hO⟩ : ∃ O, wm20.heap.size = O := ⟨_, rfl⟩
        have hl20 := Hl20.out
        rw [hO] at hl20
        obtain ⟨s1Y, e1Y, s2Y, e2Y, s3Y, e3Y, hBY, hMY⟩ := hl20.get O D.1 (by simp)
        obtain ⟨c0Y, c1Y, c2Y⟩ := cell3 hBY
        have HE := Lib.hid (pencode_any w20 (HTb.out _ HW20.out).1 (HTb.out _ HW20.out).2 _ (.agg #[.slice s1Y D.1.seen.length e1Y, .slice s2Y D.1.items.length e2Y, .slice s3Y D.1.gone.length e3Y]) D.1 ⟨_, _, _, rfl, hMY⟩ Hky.out.1 Hky.out.2)
        rw [Hen.out] at HE
        rw [Hw20.out] at c0Y c1Y c2Y
        clear hok hl20 hBY hMY Hl20
        go_wp2_with fail
        rw [← Hw20.out]
        refine HE.out.mono ?_
        rintro e w21 ⟨⟨v5, rfl, hv5⟩, hb21⟩
        have hW21 := HW20.out.trans (hb21.mono HW20.out.size)
        have h41 := run_strB hv5
        have h51 := run_strB (HBs.out _ hW21).1
        rw [Hnb.out] at h51
        have HW21 := Lib.hid hW21
        have HWk := Lib.hid (works_any w21 (HTb.out _ hW21).1 (HTb.out _ hW21).2)
        clear HE c0Y c1Y c2Y hb21 hW21 hO hv5
        go_wp2_with fail
        refine HWk.out.mono ?_
        rintro e w22 ⟨rfl, hb22⟩
        clear HWk
        go_wp2_with fail
        go_ret
        exact ⟨rfl, HW21.out.trans (hb22.mono HW21.out.size)⟩
end Go.Proofs.YtbjkkmabafaogaaGreatDoor
