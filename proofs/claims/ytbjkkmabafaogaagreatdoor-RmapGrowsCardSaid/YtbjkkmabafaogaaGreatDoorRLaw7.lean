/- The law RmapGrows. -/
import Derived.Test.YtbjkkmabafaogaaGreatDoorRMB
import Derived.Test.YtbjkkmabafaogaaGreatDoorRForg2
namespace Go.Proofs.YtbjkkmabafaogaaGreatDoor
open Go.RowKit Go.Lib
set_option linter.unusedVariables false
set_option maxRecDepth 20000
attribute [local go_sem ↓] seal_append
attribute [local go_sem] opC upC

theorem now_le {m : RMap} {d : Int} (f : Formed m) (h0 : 0 ≤ d) (h8 : d < 8) {m' : RMap} (hs : m'.seen = seenUp m d) (hv : validR m' = true) : nowR m d ≤ 1099511627776 := by
  have hd := dev_lt f h0 h8
  have h1 := (valid_nums hv).1
  rw [hs] at h1
  have h2 := up_get m d hd d.toNat
  rw [if_pos rfl] at h2
  have h3 : (seenUp m d).getD d.toNat 0 ∈ seenUp m d := by
    rw [List.getD_eq_getElem?_getD, List.getElem?_eq_getElem (by rw [up_len]; exact hd)]
    exact List.getElem_mem _
  have := (h1 _ h3).2
  rw [h2] at this
  exact this
theorem useR_zero {m : RMap} {d : Int} {l : List RKey} (h : (useR m d l).2 = 0) : (useR m d l).1 = useM m d l ∧ validR m = true ∧ Allowed d l ∧ validR (useM m d l) = true := by
  unfold useR at h ⊢
  by_cases h1 : validR m = true
  · rw [if_pos h1] at h ⊢
    by_cases h2 : allowedR d l = true
    · rw [if_pos h2] at h ⊢
      obtain ⟨h3, h4⟩ := fullR_zero h
      exact ⟨by rw [h3], h1, (allowed_iff d l).1 h2, h4⟩
    · rw [if_neg h2] at h; cases h
  · rw [if_neg h1] at h; cases h
theorem forgetR_zero {m : RMap} {d : Int} {l : List RKey} (h : (forgetR m d l).2 = 0) : (forgetR m d l).1 = forgetM m d l ∧ validR m = true ∧ Allowed d l ∧ validR (forgetM m d l) = true := by
  unfold forgetR at h ⊢
  by_cases h1 : validR m = true
  · rw [if_pos h1] at h ⊢
    by_cases h2 : allowedR d l = true
    · rw [if_pos h2] at h ⊢
      obtain ⟨h3, h4⟩ := fullR_zero h
      exact ⟨by rw [h3], h1, (allowed_iff d l).1 h2, h4⟩
    · rw [if_neg h2] at h; cases h
  · rw [if_neg h1] at h; cases h
theorem grow_use {m : RMap} {d : Int} {l : List RKey} (h : (useR m d l).2 = 0) : mergeR (useR m d l).1 m = ((useR m d l).1, 0) ∧ ∀ k ∈ l, 65536 ≤ valueR (useR m d l).1 k := by
  obtain ⟨h1, h2, h3, h4⟩ := useR_zero h
  have f := valid_formed h2
  have hn := now_le f h3.lo h3.hi rfl h4
  rw [h1]
  constructor
  · rw [mergeR_valid h4 h2, use_le f h3 hn]
    unfold fullR
    rw [h4]; rfl
  · intro k hk
    unfold valueR
    rw [if_pos h4]
    exact use_value f h3 hk
theorem grow_forget {m : RMap} {d : Int} {l : List RKey} (h : (forgetR m d l).2 = 0) : mergeR m (forgetR m d l).1 = ((forgetR m d l).1, 0) ∧ ∀ k ∈ l, valueR (forgetR m d l).1 k = 0 := by
  obtain ⟨h1, h2, h3, h4⟩ := forgetR_zero h
  have f := valid_formed h2
  have hn := now_le f h3.lo h3.hi rfl h4
  rw [h1]
  constructor
  · rw [mergeR_valid h2 h4, forget_le f h3 hn]
    unfold fullR
    rw [h4]; rfl
  · intro k hk
    unfold valueR
    rw [if_pos h4]
    exact forget_value hk

set_option maxRecDepth 100000 in
set_option maxHeartbeats 8000000 in
theorem RmapGrows_walk (v : Value) (d : Int) (lv : Value) (w : World) (hv : IsRMap w v) (hd : (Lit.int .i64 d).wf = true) (hl : IsStrs w lv) (hq : Tabs w ∧ 3 ≤ w.heap.size) :
    Calls Tryz.prog 11 #[v, .int .i64 d, lv] w fun e w' => e = .returned (.bool true) ∧ Below w.heap.size w w' := by
  obtain ⟨m, h⟩ := hv
  obtain ⟨l, hlk, hlv⟩ := hl
  obtain ⟨al, cl, rfl, -⟩ := hlv.shape
  have hll := hlv.len
  unfold maxLen at hll
  have HTb := Lib.hid (show ∀ w', Below w.heap.size w w' → Tabs w' ∧ 3 ≤ w'.heap.size from fun w' hb => ⟨tabs_below hq.1 hq.2 hb, Nat.le_trans hq.2 hb.size⟩)
  have HLv := Lib.hid (show ∀ w', Below w.heap.size w w' → Rows (fun b => b < w.heap.size) w' 1 (.slice al l.length cl) l.length (l.map eS) from fun w' hb => hlv.keep fun b hlt _ => hb.block b hlt)
  clear hq hlv hlk
  obtain ⟨s1, s2, s3, rfl, h⟩ := h
  obtain ⟨a1, p1, rfl, -⟩ := h.seen.shape
  obtain ⟨a2, p2, rfl, -⟩ := h.items.shape
  obtain ⟨a3, p3, rfl, -⟩ := h.gone.shape
  obtain ⟨wx, hwx⟩ : ∃ wx, wx = w.alloc (.cells #[.slice a1 m.seen.length p1, .slice a2 m.items.length p2, .slice a3 m.gone.length p3] 26) := ⟨_, rfl⟩
  have hbx : Below w.heap.size w wx := by rw [hwx]; exact kept_alloc _ _
  have hzx : wx.heap.size = w.heap.size + 1 := by rw [hwx]; simp
  have hx := h.keep (w' := wx) fun b _ hlt => hbx.block b hlt
  have hnx : Blk wx w.heap.size [.slice a1 m.seen.length p1, .slice a2 m.items.length p2, .slice a3 m.gone.length p3] 26 := by rw [hwx]; exact Blk.new _ _ _
  have Hx := Lib.hid hx
  have Hwx := Lib.hid hwx; have Hbx := Lib.hid hbx; have Hzx := Lib.hid hzx
  have Hnx := Lib.hid hnx
  clear hx hwx hbx hnx hzx h
  have HF := Lib.hid (few_any wx _ _ m ⟨_, _, _, rfl, Hx.out⟩)
  obtain ⟨c0, c1, c2⟩ := cell3 Hnx.out
  have HBm := Lib.hid Hx.out.bnd
  go_enter Tryz.func11, Tryz.ntmps11
  go_wp2_with fail
  rw [← Hwx.out]
  refine HF.out.mono ?_
  rintro e w1 ⟨r, rfl, hsm, hb1⟩
  have hb1' : Below w.heap.size w w1 := Hbx.out.trans (hb1.mono Hbx.out.size)
  clear HF
  cases r with
  | false =>
    have Hb1 := Lib.hid hb1'
    clear hb1' hb1 hsm
    go_wp2_with fail
    go_ret
    exact ⟨rfl, Hb1.out⟩
  | true =>
    have HSh := Lib.hid (short_any w1 _ _ l (HLv.out w1 hb1'))
    have hsm := hsm rfl
    have hS1 := Hx.out.keep (w' := w1) fun b _ hlt => hb1.block b hlt
    have hN1 := Hnx.out.keep (hb1.block _ Hnx.out.lt)
    have HG := Lib.hid (given_own w1 _ (.agg #[.slice a1 m.seen.length p1, .slice a2 m.items.length p2, .slice a3 m.gone.length p3]) m ⟨_, _, _, rfl, hS1⟩ (by have := hsm.seen; omega) (by have := hsm.items; omega) (by have := hsm.gone; omega))
    clear c0 c1 c2
    obtain ⟨c0, c1, c2⟩ := cell3 hN1
    have Kym := Lib.hid (show KeysM m from ⟨fun x hx => by have := hsm.ikeys x hx; omega, fun x hx => by have := hsm.gkeys x hx; omega⟩)
    have Smm := Lib.hid (show SmallM m from ⟨by have := hsm.seen; omega, by have := hsm.items; omega, by have := hsm.gone; omega⟩)
    have Hb1 := Lib.hid hb1'
    clear hb1 hb1' hS1 hN1 hsm
    go_wp2_with fail
    refine HSh.out.mono ?_
    rintro e w1' ⟨rs, rfl, hsh, rfl⟩
    clear HSh
    cases rs with
    | false =>
      clear hsh
      go_wp2_with fail
      go_ret
      exact ⟨rfl, Hb1.out⟩
    | true =>
      obtain ⟨hl20, hlk⟩ := hsh rfl
      have Hl20 := Lib.hid hl20; have Hlk := Lib.hid hlk
      clear hsh hl20 hlk
      go_wp2_with fail
      refine HG.out.mono ?_
      rintro e wm3 ⟨v2, rfl, ho, -, hbm⟩
      obtain ⟨t1, t2, t3, rfl, hoo⟩ := OwnV.of_rowsT ho
      clear ho
      have ho := hoo
      clear hoo
      obtain ⟨n1, m1, rfl⟩ := own_shape ho.seen
      obtain ⟨n2, m2, rfl⟩ := own_shape ho.items
      obtain ⟨n3, m3, rfl⟩ := own_shape ho.gone
      obtain ⟨w3, hw3⟩ : ∃ q, q = wm3.alloc (.cells #[.slice n1 m.seen.length m1, .slice n2 m.items.length m2, .slice n3 m.gone.length m3] 31) := ⟨_, rfl⟩
      have hk3 : Below wm3.heap.size wm3 w3 := by rw [hw3]; exact kept_alloc _ _
      have hmb : MB w3 wm3.heap.size m := ⟨_, _, _, _, _, _, by rw [hw3]; exact Blk.new _ _ _, (((ho.below hk3).map HBm.out).mono fun q _ hlt => hlt)⟩
      have Hl3 := Lib.hid (show Has [(wm3.heap.size, m)] w3 from (Has.nil w3).cons hmb)
      have HW3 := Lib.hid (show Below w.heap.size w w3 from Hb1.out.trans ((hbm.trans (hk3.mono hbm.size)).mono Hb1.out.size))
      have Hw3 := Lib.hid hw3
      clear hk3 hmb ho hbm hw3 HG c0 c1 c2
      obtain ⟨u, eu, hus⟩ : ∃ u eu, useR m d l = (u, eu) := ⟨_, _, rfl⟩
      obtain ⟨g, eh, hfo⟩ : ∃ g eh, forgetR m d l = (g, eh) := ⟨_, _, rfl⟩
      have Hku := Lib.hid (show KeysM u by have := useR_keys m d l; rw [hus] at this; exact this)
      have Hkg := Lib.hid (show KeysM g by have := forgetR_keys m d l; rw [hfo] at this; exact this)
      have Hsu := Lib.hid (show SmallM u by have := useR_small m d l; rw [hus] at this; exact this)
      have Hsg := Lib.hid (show SmallM g by have := forgetR_small m d l; rw [hfo] at this; exact this)
      have Hu0 := Lib.hid (show eu = 0 → mergeR u m = (u, 0) ∧ ∀ k ∈ l, 65536 ≤ valueR u k from fun h => by
        have := grow_use (m := m) (d := d) (l := l) (by rw [hus]; exact h)
        rw [hus] at this; exact this)
      have Hg0 := Lib.hid (show eh = 0 → mergeR m g = (g, 0) ∧ ∀ k ∈ l, valueR g k = 0 from fun h => by
        have := grow_forget (m := m) (d := d) (l := l) (by rw [hfo]; exact h)
        rw [hfo] at this; exact this)
      have Hus := Lib.hid hus; have Hfo := Lib.hid hfo
      clear hus hfo
      obtain ⟨s1X, e1X, s2X, e2X, s3X, e3X, hBX, hMX⟩ := Hl3.out.get wm3.heap.size m (by simp)
      obtain ⟨c0X, c1X, c2X⟩ := cell3 hBX
      have hU := puse_any w3 (HTb.out _ HW3.out).1 (HTb.out _ HW3.out).2 _ (.agg #[.slice s1X m.seen.length e1X, .slice s2X m.items.length e2X, .slice s3X m.gone.length e3X]) m ⟨_, _, _, rfl, hMX⟩ Kym.out.1 Kym.out.2 Smm.out.2.1 Smm.out.2.2 d _ (.slice al l.length cl) l (HLv.out _ HW3.out) (by have := Hl20.out; omega) (fun x hx => by have := Hlk.out x hx; omega)
      rw [Hus.out] at hU
      have HU := Lib.hid hU
      rw [Hw3.out] at c0X c1X c2X
      clear hU hBX hMX
      go_wp2_with fail
      rw [← Hw3.out]
      refine HU.out.mono ?_
      rintro e wm4 ⟨⟨r, rfl, ho, hbd⟩, hbm⟩
      obtain ⟨t1, t2, t3, rfl, ho⟩ := ho
      dsimp only at ho hbd ⊢
      obtain ⟨n14, m14, rfl⟩ := own_shape ho.seen
      obtain ⟨n24, m24, rfl⟩ := own_shape ho.items
      obtain ⟨n34, m34, rfl⟩ := own_shape ho.gone
      obtain ⟨w4, hw4⟩ : ∃ q, q = wm4.alloc (.cells #[.slice n14 u.seen.length m14, .slice n24 u.items.length m24, .slice n34 u.gone.length m34] 31) := ⟨_, rfl⟩
      have hk4 : Below wm4.heap.size wm4 w4 := by rw [hw4]; exact kept_alloc _ _
      have hbw : Below w3.heap.size w3 w4 := hbm.trans (hk4.mono hbm.size)
      have hmb : MB w4 wm4.heap.size u := ⟨_, _, _, _, _, _, by rw [hw4]; exact Blk.new _ _ _, (((ho.below hk4).map hbd).mono fun q _ hlt => hlt)⟩
      have Hl4 := Lib.hid (show Has ((wm4.heap.size, u) :: [(wm3.heap.size, m)]) w4 from (Hl3.out.keep hbw).cons hmb)
      have HW4 := Lib.hid (show Below w.heap.size w w4 from HW3.out.trans (hbw.mono HW3.out.size))
      have Hw4 := Lib.hid hw4
      clear hk4 hbw hmb ho hbd hbm
      clear HU c0X c1X c2X
      by_cases hE : eu = 0
      · subst hE
        obtain ⟨hmu, huv⟩ := Hu0.out rfl
        have Hmu := Lib.hid hmu; have Huv := Lib.hid huv
        clear hmu huv
        obtain ⟨s1X, e1X, s2X, e2X, s3X, e3X, hBX, hMX⟩ := Hl4.out.get wm4.heap.size u (by simp)
        obtain ⟨c0X, c1X, c2X⟩ := cell3 hBX
        obtain ⟨s1Y, e1Y, s2Y, e2Y, s3Y, e3Y, hBY, hMY⟩ := Hl4.out.get wm3.heap.size m (by simp)
        obtain ⟨c0Y, c1Y, c2Y⟩ := cell3 hBY
        have hU := pmerge_any w4 (HTb.out _ HW4.out).1 (HTb.out _ HW4.out).2 _ _ (.agg #[.slice s1X u.seen.length e1X, .slice s2X u.items.length e2X, .slice s3X u.gone.length e3X]) (.agg #[.slice s1Y m.seen.length e1Y, .slice s2Y m.items.length e2Y, .slice s3Y m.gone.length e3Y]) u m ⟨_, _, _, rfl, hMX⟩ ⟨_, _, _, rfl, hMY⟩ Hku.out.1 Hku.out.2 Kym.out.1 Kym.out.2
        rw [Hmu.out] at hU
        have HU := Lib.hid hU
        rw [Hw4.out] at c0X c1X c2X c0Y c1Y c2Y
        clear hU hBX hMX hBY hMY
        go_wp2_with fail
        rw [← Hw4.out]
        refine HU.out.mono ?_
        rintro e wm5 ⟨⟨r, rfl, ho, hbd⟩, hbm⟩
        obtain ⟨t1, t2, t3, rfl, ho⟩ := ho
        dsimp only at ho hbd ⊢
        obtain ⟨n15, m15, rfl⟩ := own_shape ho.seen
        obtain ⟨n25, m25, rfl⟩ := own_shape ho.items
        obtain ⟨n35, m35, rfl⟩ := own_shape ho.gone
        obtain ⟨w5, hw5⟩ : ∃ q, q = wm5.alloc (.cells #[.slice n15 u.seen.length m15, .slice n25 u.items.length m25, .slice n35 u.gone.length m35] 31) := ⟨_, rfl⟩
        have hk5 : Below wm5.heap.size wm5 w5 := by rw [hw5]; exact kept_alloc _ _
        have hbw : Below w4.heap.size w4 w5 := hbm.trans (hk5.mono hbm.size)
        have hmb : MB w5 wm5.heap.size u := ⟨_, _, _, _, _, _, by rw [hw5]; exact Blk.new _ _ _, (((ho.below hk5).map hbd).mono fun q _ hlt => hlt)⟩
        have Hl5 := Lib.hid (show Has ((wm5.heap.size, u) :: [(wm4.heap.size, u), (wm3.heap.size, m)]) w5 from (Hl4.out.keep hbw).cons hmb)
        have HW5 := Lib.hid (show Below w.heap.size w w5 from HW4.out.trans (hbw.mono HW4.out.size))
        have Hw5 := Lib.hid hw5
        clear hk5 hbw hmb ho hbd hbm
        clear HU c0X c1X c2X c0Y c1Y c2Y
        obtain ⟨s1X, e1X, s2X, e2X, s3X, e3X, hBX, hMX⟩ := Hl5.out.get wm5.heap.size u (by simp)
        obtain ⟨c0X, c1X, c2X⟩ := cell3 hBX
        obtain ⟨s1Y, e1Y, s2Y, e2Y, s3Y, e3Y, hBY, hMY⟩ := Hl5.out.get wm4.heap.size u (by simp)
        obtain ⟨c0Y, c1Y, c2Y⟩ := cell3 hBY
        have HE := Lib.hid (equal_any w5 _ _ (.agg #[.slice s1X u.seen.length e1X, .slice s2X u.items.length e2X, .slice s3X u.gone.length e3X]) (.agg #[.slice s1Y u.seen.length e1Y, .slice s2Y u.items.length e2Y, .slice s3Y u.gone.length e3Y]) u u ⟨_, _, _, rfl, hMX⟩ ⟨_, _, _, rfl, hMY⟩ Hsu.out.1 Hsu.out.2.1 Hsu.out.2.2 Hsu.out.1 Hsu.out.2.1 Hsu.out.2.2)
        rw [Hw5.out] at c0X c1X c2X c0Y c1Y c2Y
        clear hBX hMX hBY hMY
        go_wp2_with fail
        rw [← Hw5.out]
        refine HE.out.mono ?_
        rintro e w6 ⟨r, rfl, hr, hb⟩
        obtain rfl : r = true := hr.2 rfl
        have Hl6 := Lib.hid (Hl5.out.keep hb); have HW6 := Lib.hid (show Below w.heap.size w w6 from HW5.out.trans (hb.mono HW5.out.size))
        clear HE hr hb c0X c1X c2X c0Y c1Y c2Y
        obtain ⟨s1X, e1X, s2X, e2X, s3X, e3X, hBX, hMX⟩ := Hl6.out.get wm3.heap.size m (by simp)
        obtain ⟨c0X, c1X, c2X⟩ := cell3 hBX
        have hU := pforget_any w6 (HTb.out _ HW6.out).1 (HTb.out _ HW6.out).2 _ (.agg #[.slice s1X m.seen.length e1X, .slice s2X m.items.length e2X, .slice s3X m.gone.length e3X]) m ⟨_, _, _, rfl, hMX⟩ Kym.out.1 Kym.out.2 Smm.out.2.1 Smm.out.2.2 d _ (.slice al l.length cl) l (HLv.out _ HW6.out) (by have := Hl20.out; omega) (fun x hx => by have := Hlk.out x hx; omega)
        rw [Hfo.out] at hU
        have HU := Lib.hid hU
        skip
        clear hU hBX hMX
        go_wp2_with fail
        skip
        refine HU.out.mono ?_
        rintro e wm20 ⟨⟨r, rfl, ho, hbd⟩, hbm⟩
        obtain ⟨t1, t2, t3, rfl, ho⟩ := ho
        dsimp only at ho hbd ⊢
        obtain ⟨n120, m120, rfl⟩ := own_shape ho.seen
        obtain ⟨n220, m220, rfl⟩ := own_shape ho.items
        obtain ⟨n320, m320, rfl⟩ := own_shape ho.gone
        obtain ⟨w20, hw20⟩ : ∃ q, q = wm20.alloc (.cells #[.slice n120 g.seen.length m120, .slice n220 g.items.length m220, .slice n320 g.gone.length m320] 31) := ⟨_, rfl⟩
        have hk20 : Below wm20.heap.size wm20 w20 := by rw [hw20]; exact kept_alloc _ _
        have hbw : Below w6.heap.size w6 w20 := hbm.trans (hk20.mono hbm.size)
        have hmb : MB w20 wm20.heap.size g := ⟨_, _, _, _, _, _, by rw [hw20]; exact Blk.new _ _ _, (((ho.below hk20).map hbd).mono fun q _ hlt => hlt)⟩
        have Hl20 := Lib.hid (show Has ((wm20.heap.size, g) :: [(wm5.heap.size, u), (wm4.heap.size, u), (wm3.heap.size, m)]) w20 from (Hl6.out.keep hbw).cons hmb)
        have HW20 := Lib.hid (show Below w.heap.size w w20 from HW6.out.trans (hbw.mono HW6.out.size))
        have Hw20 := Lib.hid hw20
        clear hk20 hbw hmb ho hbd hbm
        clear HU c0X c1X c2X
        by_cases hH : eh = 0
        case neg =>
          have hH2 : (eh == 0) = false := beq_eq_false_iff_ne.2 hH
          have hH3 : (eh != 0) = true := by simp [hH]
          have HW := Lib.hid (works_any w20 (HTb.out _ HW20.out).1 (HTb.out _ HW20.out).2)
          go_wp2_with fail
          rw [← Hw20.out]
          refine HW.out.mono ?_
          rintro e wf ⟨rfl, hbf⟩
          clear HW
          go_wp2_with fail
          go_ret
          exact ⟨rfl, HW20.out.trans (hbf.mono HW20.out.size)⟩
        subst hH
        obtain ⟨hmg, hgv⟩ := Hg0.out rfl
        have Hmg := Lib.hid hmg; have Hgv := Lib.hid hgv
        clear hmg hgv
        go_wp2_with fail
        rw [← Hw20.out]
        go_loopw [14] (fun i wr => ∃ k : Nat, k ≤ l.length ∧ i = .int .i64 (k : Int) ∧ Has ((wm20.heap.size, g) :: [(wm5.heap.size, u), (wm4.heap.size, u), (wm3.heap.size, m)]) wr ∧ Below w.heap.size w wr) (fun i _ => l.length - (intOf i).toNat)
        case atStart => exact ⟨0, by omega, rfl, Hl20.out, HW20.out⟩
        case round =>
          obtain ⟨k, hk, rfl, hh, hw⟩ := hrel
          by_cases hkn : k < l.length
          · have hkI : (k : Int) < (l.length : Int) := by omega
            obtain ⟨bl, ol, rfl, -, -, hlc⟩ := str_cell (HLv.out wr hw) (by omega)
            have e0 := hlc k hkn
            obtain ⟨y, hy⟩ : ∃ y, l[k] = y := ⟨_, rfl⟩
            rw [hy] at e0
            have hyl : y ∈ l := by rw [← hy]; exact List.getElem_mem hkn
            have hall : ∀ w', Later wr.drew w' → Below wr.heap.size wr w' := fun w' hh => (Below.refl wr.heap.size wr).drew.trans hh
            obtain ⟨s1G, e1G, s2G, e2G, s3G, e3G, hBG, hMG⟩ := (hh.get wm20.heap.size g (by simp))
            obtain ⟨c0G, c1G, c2G⟩ := cell3 hBG
            have pg0 : ∀ w', Later wr.drew w' → w'.cell? _ = _ := fun w' hh => laterC c0G hh
            have pg1 : ∀ w', Later wr.drew w' → w'.cell? _ = _ := fun w' hh => laterC c1G hh
            have pg2 : ∀ w', Later wr.drew w' → w'.cell? _ = _ := fun w' hh => laterC c2G hh
            have pk : ∀ w', Later wr.drew w' → w'.cell? _ = _ := fun w' hh => laterC e0 hh
            have HG := Lib.hid (show ∀ W, Below wr.heap.size wr W → Calls Tryz.prog 37 #[.agg #[.slice s1G g.seen.length e1G, .slice s2G g.items.length e2G, .slice s3G g.gone.length e3G], .string ⟨y.toArray⟩] W (fun e w' => e = .returned (.int .i64 0) ∧ Below W.heap.size W w') from fun W hb => by
              have hbW : Below w.heap.size w W := hw.trans (hb.mono hw.size)
              rw [← (Hgv.out y hyl : valueR g y = 0)]
              exact pvalue_any W (HTb.out _ hbW).1 (HTb.out _ hbW).2 _ _ g ⟨_, _, _, rfl, hMG.keep (w' := W) fun q hq _ => hb.block q hq⟩ Hkg.out.1 Hkg.out.2 y (by have := Hlk.out y hyl; omega))
            have Hhh := Lib.hid hh; have Hw := Lib.hid hw; have Hyl := Lib.hid hyl
            obtain ⟨s1U, e1U, s2U, e2U, s3U, e3U, hBU, hMU⟩ := (Hhh.out.get wm4.heap.size u (by simp))
            obtain ⟨c0U, c1U, c2U⟩ := cell3 hBU
            have pu0 : ∀ w', Later wr.drew w' → w'.cell? _ = _ := fun w' hh => laterC c0U hh
            have pu1 : ∀ w', Later wr.drew w' → w'.cell? _ = _ := fun w' hh => laterC c1U hh
            have pu2 : ∀ w', Later wr.drew w' → w'.cell? _ = _ := fun w' hh => laterC c2U hh
            obtain ⟨vu, hvu⟩ : ∃ vu, valueR u y = vu := ⟨_, rfl⟩
            have hvu2 : ¬ vu < 65536 := by rw [← hvu]; have := Huv.out y Hyl.out; omega
            have HU := Lib.hid (show ∀ W, Below wr.heap.size wr W → Calls Tryz.prog 37 #[.agg #[.slice s1U u.seen.length e1U, .slice s2U u.items.length e2U, .slice s3U u.gone.length e3U], .string ⟨y.toArray⟩] W (fun e w' => e = .returned (.int .i64 vu) ∧ Below W.heap.size W w') from fun W hb => by
              have hbW : Below w.heap.size w W := Hw.out.trans (hb.mono Hw.out.size)
              rw [← hvu]
              exact pvalue_any W (HTb.out _ hbW).1 (HTb.out _ hbW).2 _ _ u ⟨_, _, _, rfl, hMU.keep (w' := W) fun q hq _ => hb.block q hq⟩ Hku.out.1 Hku.out.2 y (by have := Hlk.out y Hyl.out; omega))
            clear hvu hBU hMU c0U c1U c2U
            clear hlc hy hh hw hyl hBG hMG c0G c1G c2G e0
            go_wp2_with fail
            refine wp_region_can Later [(0, true), (1, true), (2, true), (3, true), (4, true), (5, false), (6, true), (7, true), (8, true), (9, true), (10, true), (11, true), (12, true), (13, true), (14, true), (15, true), (16, false), (17, true), (18, true), (19, true)] (by kernel_rfl) (by kernel_rfl) later_refl later_trans ?_
            repeat (first
              | (refine can_yes (v := ?_) rfl (wanted_none rfl) (fun w' hC => ?_) (fun K hK => ?_); rotate_left; (focus (go_simp; (try simp (disch := omega) only [IntWalk.i64_in]); first | done | exact rfl)); go_simp; (try simp (disch := omega) only [IntWalk.i64_in]); refine hK _ ?_; clear hK K)
              | (refine can_guard rfl (fun A B hA hB => ?_); go_simp; first | (refine hA ⟨?_, fun w' hC => ?_, fun K hK => ?_⟩; rotate_left; (focus (go_simp; (try simp (disch := omega) only [IntWalk.i64_in]); first | done | exact rfl)); go_simp; (try simp (disch := omega) only [IntWalk.i64_in]); refine hK _ ?_; clear hK K hA hB A B) | (refine hB (fun K hK => ?_); go_simp; (try simp (disch := omega) only [IntWalk.i64_in]); refine hK _ ?_; clear hK K hA hB A B))
              | (refine can_guard_go rfl (fun A B hA hB => ?_); go_simp; refine hB (fun K hK => ?_); go_simp; (try simp (disch := omega) only [IntWalk.i64_in]); refine hK _ ?_; clear hK K hA hB A B))
            refine can_go rfl rfl (fun KK hK => ?_)
            go_simp
            refine (HG.out _ (Below.refl wr.heap.size wr).drew).mono ?_
            rintro e w8 ⟨rfl, hb8⟩
            refine ⟨_, rfl, hb8, hK _ _ ?_⟩
            have hw8 : Below wr.heap.size wr w8 := (Below.refl wr.heap.size wr).drew.trans hb8
            replace pk : ∀ w', Later w8 w' → _ := fun w' hh => pk w' (later_trans _ _ _ hb8 hh)
            replace pu0 : ∀ w', Later w8 w' → _ := fun w' hh => pu0 w' (later_trans _ _ _ hb8 hh)
            replace pu1 : ∀ w', Later w8 w' → _ := fun w' hh => pu1 w' (later_trans _ _ _ hb8 hh)
            replace pu2 : ∀ w', Later w8 w' → _ := fun w' hh => pu2 w' (later_trans _ _ _ hb8 hh)
            clear hK KK hb8
            go_simp
            repeat (first
              | (refine can_yes (v := ?_) rfl (wanted_none rfl) (fun w' hC => ?_) (fun K hK => ?_); rotate_left; (focus (go_simp; (try simp (disch := omega) only [IntWalk.i64_in]); first | done | exact rfl)); go_simp; (try simp (disch := omega) only [IntWalk.i64_in]); refine hK _ ?_; clear hK K)
              | (refine can_guard rfl (fun A B hA hB => ?_); go_simp; first | (refine hA ⟨?_, fun w' hC => ?_, fun K hK => ?_⟩; rotate_left; (focus (go_simp; (try simp (disch := omega) only [IntWalk.i64_in]); first | done | exact rfl)); go_simp; (try simp (disch := omega) only [IntWalk.i64_in]); refine hK _ ?_; clear hK K hA hB A B) | (refine hB (fun K hK => ?_); go_simp; (try simp (disch := omega) only [IntWalk.i64_in]); refine hK _ ?_; clear hK K hA hB A B))
              | (refine can_guard_go rfl (fun A B hA hB => ?_); go_simp; refine hB (fun K hK => ?_); go_simp; (try simp (disch := omega) only [IntWalk.i64_in]); refine hK _ ?_; clear hK K hA hB A B))
            refine can_go rfl rfl (fun KK hK => ?_)
            go_simp
            refine (HU.out _ (hw8.trans (RowKit.Below.refl _ _))).mono ?_
            rintro e w9 ⟨rfl, hb9⟩
            refine ⟨_, rfl, hb9, hK _ _ ?_⟩
            replace hw8 : Below wr.heap.size wr w9 := hw8.trans (hb9.mono hw8.size)
            clear hK KK hb9
            go_simp
            repeat (first
              | (refine can_yes (v := ?_) rfl (wanted_none rfl) (fun w' hC => ?_) (fun K hK => ?_); rotate_left; (focus (go_simp; (try simp (disch := omega) only [IntWalk.i64_in]); first | done | exact rfl)); go_simp; (try simp (disch := omega) only [IntWalk.i64_in]); refine hK _ ?_; clear hK K)
              | (refine can_guard rfl (fun A B hA hB => ?_); go_simp; first | (refine hA ⟨?_, fun w' hC => ?_, fun K hK => ?_⟩; rotate_left; (focus (go_simp; (try simp (disch := omega) only [IntWalk.i64_in]); first | done | exact rfl)); go_simp; (try simp (disch := omega) only [IntWalk.i64_in]); refine hK _ ?_; clear hK K hA hB A B) | (refine hB (fun K hK => ?_); go_simp; (try simp (disch := omega) only [IntWalk.i64_in]); refine hK _ ?_; clear hK K hA hB A B))
              | (refine can_guard_go rfl (fun A B hA hB => ?_); go_simp; refine hB (fun K hK => ?_); go_simp; (try simp (disch := omega) only [IntWalk.i64_in]); refine hK _ ?_; clear hK K hA hB A B))
            refine can_nil ?_
            have Hl8 := Lib.hid (Hhh.out.keep hw8); have HW8 := Lib.hid (Hw.out.trans (hw8.mono Hw.out.size))
            clear hw8 pg0 pg1 pg2 pk hall HG Hhh Hw pu0 pu1 pu2 HU
            go_wp2_with fail
            go_roundw
            case rel => exact ⟨k + 1, by omega, by go_num, Hl8.out, HW8.out⟩
            case measure => simp [intOf]; omega
          · have hkI : ¬ (k : Int) < (l.length : Int) := by omega
            have HlR := Lib.hid hh; have HWR := Lib.hid hw
            clear hh hw
            obtain ⟨s1X, e1X, s2X, e2X, s3X, e3X, hBX, hMX⟩ := HlR.out.get wm3.heap.size m (by simp)
            obtain ⟨c0X, c1X, c2X⟩ := cell3 hBX
            obtain ⟨s1Y, e1Y, s2Y, e2Y, s3Y, e3Y, hBY, hMY⟩ := HlR.out.get wm20.heap.size g (by simp)
            obtain ⟨c0Y, c1Y, c2Y⟩ := cell3 hBY
            have hU := pmerge_any wr (HTb.out _ HWR.out).1 (HTb.out _ HWR.out).2 _ _ (.agg #[.slice s1X m.seen.length e1X, .slice s2X m.items.length e2X, .slice s3X m.gone.length e3X]) (.agg #[.slice s1Y g.seen.length e1Y, .slice s2Y g.items.length e2Y, .slice s3Y g.gone.length e3Y]) m g ⟨_, _, _, rfl, hMX⟩ ⟨_, _, _, rfl, hMY⟩ Kym.out.1 Kym.out.2 Hkg.out.1 Hkg.out.2
            rw [Hmg.out] at hU
            have HU := Lib.hid hU
            skip
            clear hU hBX hMX hBY hMY
            go_wp2_with fail
            skip
            refine HU.out.mono ?_
            rintro e wm30 ⟨⟨r, rfl, ho, hbd⟩, hbm⟩
            obtain ⟨t1, t2, t3, rfl, ho⟩ := ho
            dsimp only at ho hbd ⊢
            obtain ⟨n130, m130, rfl⟩ := own_shape ho.seen
            obtain ⟨n230, m230, rfl⟩ := own_shape ho.items
            obtain ⟨n330, m330, rfl⟩ := own_shape ho.gone
            obtain ⟨w30, hw30⟩ : ∃ q, q = wm30.alloc (.cells #[.slice n130 g.seen.length m130, .slice n230 g.items.length m230, .slice n330 g.gone.length m330] 31) := ⟨_, rfl⟩
            have hk30 : Below wm30.heap.size wm30 w30 := by rw [hw30]; exact kept_alloc _ _
            have hbw : Below wr.heap.size wr w30 := hbm.trans (hk30.mono hbm.size)
            have hmb : MB w30 wm30.heap.size g := ⟨_, _, _, _, _, _, by rw [hw30]; exact Blk.new _ _ _, (((ho.below hk30).map hbd).mono fun q _ hlt => hlt)⟩
            have Hl30 := Lib.hid (show Has ((wm30.heap.size, g) :: ((wm20.heap.size, g) :: [(wm5.heap.size, u), (wm4.heap.size, u), (wm3.heap.size, m)])) w30 from (HlR.out.keep hbw).cons hmb)
            have HW30 := Lib.hid (show Below w.heap.size w w30 from HWR.out.trans (hbw.mono HWR.out.size))
            have Hw30 := Lib.hid hw30
            clear hk30 hbw hmb ho hbd hbm
            clear HU c0X c1X c2X c0Y c1Y c2Y
            obtain ⟨s1X, e1X, s2X, e2X, s3X, e3X, hBX, hMX⟩ := Hl30.out.get wm30.heap.size g (by simp)
            obtain ⟨c0X, c1X, c2X⟩ := cell3 hBX
            obtain ⟨s1Y, e1Y, s2Y, e2Y, s3Y, e3Y, hBY, hMY⟩ := Hl30.out.get wm20.heap.size g (by simp)
            obtain ⟨c0Y, c1Y, c2Y⟩ := cell3 hBY
            have HE := Lib.hid (equal_any w30 _ _ (.agg #[.slice s1X g.seen.length e1X, .slice s2X g.items.length e2X, .slice s3X g.gone.length e3X]) (.agg #[.slice s1Y g.seen.length e1Y, .slice s2Y g.items.length e2Y, .slice s3Y g.gone.length e3Y]) g g ⟨_, _, _, rfl, hMX⟩ ⟨_, _, _, rfl, hMY⟩ Hsg.out.1 Hsg.out.2.1 Hsg.out.2.2 Hsg.out.1 Hsg.out.2.1 Hsg.out.2.2)
            rw [Hw30.out] at c0X c1X c2X c0Y c1Y c2Y
            clear hBX hMX hBY hMY
            go_wp2_with fail
            rw [← Hw30.out]
            refine HE.out.mono ?_
            rintro e w31 ⟨r, rfl, hr, hb⟩
            obtain rfl : r = true := hr.2 rfl
            have Hl31 := Lib.hid (Hl30.out.keep hb); have HW31 := Lib.hid (show Below w.heap.size w w31 from HW30.out.trans (hb.mono HW30.out.size))
            clear HE hr hb c0X c1X c2X c0Y c1Y c2Y
            have HW := Lib.hid (works_any w31 (HTb.out _ HW31.out).1 (HTb.out _ HW31.out).2)
            go_wp2_with fail
            skip
            refine HW.out.mono ?_
            rintro e wf ⟨rfl, hbf⟩
            clear HW
            go_wp2_with fail
            go_ret
            exact ⟨rfl, HW31.out.trans (hbf.mono HW31.out.size)⟩
      · have hE2 : (eu == 0) = false := beq_eq_false_iff_ne.2 hE
        clear Hu0
        obtain ⟨s1X, e1X, s2X, e2X, s3X, e3X, hBX, hMX⟩ := Hl4.out.get wm3.heap.size m (by simp)
        obtain ⟨c0X, c1X, c2X⟩ := cell3 hBX
        have hU := pforget_any w4 (HTb.out _ HW4.out).1 (HTb.out _ HW4.out).2 _ (.agg #[.slice s1X m.seen.length e1X, .slice s2X m.items.length e2X, .slice s3X m.gone.length e3X]) m ⟨_, _, _, rfl, hMX⟩ Kym.out.1 Kym.out.2 Smm.out.2.1 Smm.out.2.2 d _ (.slice al l.length cl) l (HLv.out _ HW4.out) (by have := Hl20.out; omega) (fun x hx => by have := Hlk.out x hx; omega)
        rw [Hfo.out] at hU
        have HU := Lib.hid hU
        rw [Hw4.out] at c0X c1X c2X
        clear hU hBX hMX
        go_wp2_with fail
        rw [← Hw4.out]
        refine HU.out.mono ?_
        rintro e wm20 ⟨⟨r, rfl, ho, hbd⟩, hbm⟩
        obtain ⟨t1, t2, t3, rfl, ho⟩ := ho
        dsimp only at ho hbd ⊢
        obtain ⟨n120, m120, rfl⟩ := own_shape ho.seen
        obtain ⟨n220, m220, rfl⟩ := own_shape ho.items
        obtain ⟨n320, m320, rfl⟩ := own_shape ho.gone
        obtain ⟨w20, hw20⟩ : ∃ q, q = wm20.alloc (.cells #[.slice n120 g.seen.length m120, .slice n220 g.items.length m220, .slice n320 g.gone.length m320] 31) := ⟨_, rfl⟩
        have hk20 : Below wm20.heap.size wm20 w20 := by rw [hw20]; exact kept_alloc _ _
        have hbw : Below w4.heap.size w4 w20 := hbm.trans (hk20.mono hbm.size)
        have hmb : MB w20 wm20.heap.size g := ⟨_, _, _, _, _, _, by rw [hw20]; exact Blk.new _ _ _, (((ho.below hk20).map hbd).mono fun q _ hlt => hlt)⟩
        have Hl20 := Lib.hid (show Has ((wm20.heap.size, g) :: [(wm4.heap.size, u), (wm3.heap.size, m)]) w20 from (Hl4.out.keep hbw).cons hmb)
        have HW20 := Lib.hid (show Below w.heap.size w w20 from HW4.out.trans (hbw.mono HW4.out.size))
        have Hw20 := Lib.hid hw20
        clear hk20 hbw hmb ho hbd hbm
        clear HU c0X c1X c2X
        by_cases hH : eh = 0
        case neg =>
          have hH2 : (eh == 0) = false := beq_eq_false_iff_ne.2 hH
          have hH3 : (eh != 0) = true := by simp [hH]
          have HW := Lib.hid (works_any w20 (HTb.out _ HW20.out).1 (HTb.out _ HW20.out).2)
          go_wp2_with fail
          rw [← Hw20.out]
          refine HW.out.mono ?_
          rintro e wf ⟨rfl, hbf⟩
          clear HW
          go_wp2_with fail
          go_ret
          exact ⟨rfl, HW20.out.trans (hbf.mono HW20.out.size)⟩
        subst hH
        obtain ⟨hmg, hgv⟩ := Hg0.out rfl
        have Hmg := Lib.hid hmg; have Hgv := Lib.hid hgv
        clear hmg hgv
        go_wp2_with fail
        rw [← Hw20.out]
        go_loopw [14] (fun i wr => ∃ k : Nat, k ≤ l.length ∧ i = .int .i64 (k : Int) ∧ Has ((wm20.heap.size, g) :: [(wm4.heap.size, u), (wm3.heap.size, m)]) wr ∧ Below w.heap.size w wr) (fun i _ => l.length - (intOf i).toNat)
        case atStart => exact ⟨0, by omega, rfl, Hl20.out, HW20.out⟩
        case round =>
          obtain ⟨k, hk, rfl, hh, hw⟩ := hrel
          by_cases hkn : k < l.length
          · have hkI : (k : Int) < (l.length : Int) := by omega
            obtain ⟨bl, ol, rfl, -, -, hlc⟩ := str_cell (HLv.out wr hw) (by omega)
            have e0 := hlc k hkn
            obtain ⟨y, hy⟩ : ∃ y, l[k] = y := ⟨_, rfl⟩
            rw [hy] at e0
            have hyl : y ∈ l := by rw [← hy]; exact List.getElem_mem hkn
            have hall : ∀ w', Later wr.drew w' → Below wr.heap.size wr w' := fun w' hh => (Below.refl wr.heap.size wr).drew.trans hh
            obtain ⟨s1G, e1G, s2G, e2G, s3G, e3G, hBG, hMG⟩ := (hh.get wm20.heap.size g (by simp))
            obtain ⟨c0G, c1G, c2G⟩ := cell3 hBG
            have pg0 : ∀ w', Later wr.drew w' → w'.cell? _ = _ := fun w' hh => laterC c0G hh
            have pg1 : ∀ w', Later wr.drew w' → w'.cell? _ = _ := fun w' hh => laterC c1G hh
            have pg2 : ∀ w', Later wr.drew w' → w'.cell? _ = _ := fun w' hh => laterC c2G hh
            have pk : ∀ w', Later wr.drew w' → w'.cell? _ = _ := fun w' hh => laterC e0 hh
            have HG := Lib.hid (show ∀ W, Below wr.heap.size wr W → Calls Tryz.prog 37 #[.agg #[.slice s1G g.seen.length e1G, .slice s2G g.items.length e2G, .slice s3G g.gone.length e3G], .string ⟨y.toArray⟩] W (fun e w' => e = .returned (.int .i64 0) ∧ Below W.heap.size W w') from fun W hb => by
              have hbW : Below w.heap.size w W := hw.trans (hb.mono hw.size)
              rw [← (Hgv.out y hyl : valueR g y = 0)]
              exact pvalue_any W (HTb.out _ hbW).1 (HTb.out _ hbW).2 _ _ g ⟨_, _, _, rfl, hMG.keep (w' := W) fun q hq _ => hb.block q hq⟩ Hkg.out.1 Hkg.out.2 y (by have := Hlk.out y hyl; omega))
            have Hhh := Lib.hid hh; have Hw := Lib.hid hw; have Hyl := Lib.hid hyl
            skip
            clear hlc hy hh hw hyl hBG hMG c0G c1G c2G e0
            go_wp2_with fail
            refine wp_region_can Later [(0, true), (1, true), (2, true), (3, true), (4, true), (5, false), (6, true), (7, true), (8, true), (9, true), (10, true), (11, true), (12, true), (13, true), (14, true), (15, true), (16, false), (17, true), (18, true), (19, true)] (by kernel_rfl) (by kernel_rfl) later_refl later_trans ?_
            repeat (first
              | (refine can_yes (v := ?_) rfl (wanted_none rfl) (fun w' hC => ?_) (fun K hK => ?_); rotate_left; (focus (go_simp; (try simp (disch := omega) only [IntWalk.i64_in]); first | done | exact rfl)); go_simp; (try simp (disch := omega) only [IntWalk.i64_in]); refine hK _ ?_; clear hK K)
              | (refine can_guard rfl (fun A B hA hB => ?_); go_simp; first | (refine hA ⟨?_, fun w' hC => ?_, fun K hK => ?_⟩; rotate_left; (focus (go_simp; (try simp (disch := omega) only [IntWalk.i64_in]); first | done | exact rfl)); go_simp; (try simp (disch := omega) only [IntWalk.i64_in]); refine hK _ ?_; clear hK K hA hB A B) | (refine hB (fun K hK => ?_); go_simp; (try simp (disch := omega) only [IntWalk.i64_in]); refine hK _ ?_; clear hK K hA hB A B))
              | (refine can_guard_go rfl (fun A B hA hB => ?_); go_simp; refine hB (fun K hK => ?_); go_simp; (try simp (disch := omega) only [IntWalk.i64_in]); refine hK _ ?_; clear hK K hA hB A B))
            refine can_go rfl rfl (fun KK hK => ?_)
            go_simp
            refine (HG.out _ (Below.refl wr.heap.size wr).drew).mono ?_
            rintro e w8 ⟨rfl, hb8⟩
            refine ⟨_, rfl, hb8, hK _ _ ?_⟩
            have hw8 : Below wr.heap.size wr w8 := (Below.refl wr.heap.size wr).drew.trans hb8
            skip
            clear hK KK hb8
            go_simp
            repeat (first
              | (refine can_yes (v := ?_) rfl (wanted_none rfl) (fun w' hC => ?_) (fun K hK => ?_); rotate_left; (focus (go_simp; (try simp (disch := omega) only [IntWalk.i64_in]); first | done | exact rfl)); go_simp; (try simp (disch := omega) only [IntWalk.i64_in]); refine hK _ ?_; clear hK K)
              | (refine can_guard rfl (fun A B hA hB => ?_); go_simp; first | (refine hA ⟨?_, fun w' hC => ?_, fun K hK => ?_⟩; rotate_left; (focus (go_simp; (try simp (disch := omega) only [IntWalk.i64_in]); first | done | exact rfl)); go_simp; (try simp (disch := omega) only [IntWalk.i64_in]); refine hK _ ?_; clear hK K hA hB A B) | (refine hB (fun K hK => ?_); go_simp; (try simp (disch := omega) only [IntWalk.i64_in]); refine hK _ ?_; clear hK K hA hB A B))
              | (refine can_guard_go rfl (fun A B hA hB => ?_); go_simp; refine hB (fun K hK => ?_); go_simp; (try simp (disch := omega) only [IntWalk.i64_in]); refine hK _ ?_; clear hK K hA hB A B))
            skip
            refine can_nil ?_
            have Hl8 := Lib.hid (Hhh.out.keep hw8); have HW8 := Lib.hid (Hw.out.trans (hw8.mono Hw.out.size))
            clear hw8 pg0 pg1 pg2 pk hall HG Hhh Hw 
            go_wp2_with fail
            go_roundw
            case rel => exact ⟨k + 1, by omega, by go_num, Hl8.out, HW8.out⟩
            case measure => simp [intOf]; omega
          · have hkI : ¬ (k : Int) < (l.length : Int) := by omega
            have HlR := Lib.hid hh; have HWR := Lib.hid hw
            clear hh hw
            obtain ⟨s1X, e1X, s2X, e2X, s3X, e3X, hBX, hMX⟩ := HlR.out.get wm3.heap.size m (by simp)
            obtain ⟨c0X, c1X, c2X⟩ := cell3 hBX
            obtain ⟨s1Y, e1Y, s2Y, e2Y, s3Y, e3Y, hBY, hMY⟩ := HlR.out.get wm20.heap.size g (by simp)
            obtain ⟨c0Y, c1Y, c2Y⟩ := cell3 hBY
            have hU := pmerge_any wr (HTb.out _ HWR.out).1 (HTb.out _ HWR.out).2 _ _ (.agg #[.slice s1X m.seen.length e1X, .slice s2X m.items.length e2X, .slice s3X m.gone.length e3X]) (.agg #[.slice s1Y g.seen.length e1Y, .slice s2Y g.items.length e2Y, .slice s3Y g.gone.length e3Y]) m g ⟨_, _, _, rfl, hMX⟩ ⟨_, _, _, rfl, hMY⟩ Kym.out.1 Kym.out.2 Hkg.out.1 Hkg.out.2
            rw [Hmg.out] at hU
            have HU := Lib.hid hU
            skip
            clear hU hBX hMX hBY hMY
            go_wp2_with fail
            skip
            refine HU.out.mono ?_
            rintro e wm30 ⟨⟨r, rfl, ho, hbd⟩, hbm⟩
            obtain ⟨t1, t2, t3, rfl, ho⟩ := ho
            dsimp only at ho hbd ⊢
            obtain ⟨n130, m130, rfl⟩ := own_shape ho.seen
            obtain ⟨n230, m230, rfl⟩ := own_shape ho.items
            obtain ⟨n330, m330, rfl⟩ := own_shape ho.gone
            obtain ⟨w30, hw30⟩ : ∃ q, q = wm30.alloc (.cells #[.slice n130 g.seen.length m130, .slice n230 g.items.length m230, .slice n330 g.gone.length m330] 31) := ⟨_, rfl⟩
            have hk30 : Below wm30.heap.size wm30 w30 := by rw [hw30]; exact kept_alloc _ _
            have hbw : Below wr.heap.size wr w30 := hbm.trans (hk30.mono hbm.size)
            have hmb : MB w30 wm30.heap.size g := ⟨_, _, _, _, _, _, by rw [hw30]; exact Blk.new _ _ _, (((ho.below hk30).map hbd).mono fun q _ hlt => hlt)⟩
            have Hl30 := Lib.hid (show Has ((wm30.heap.size, g) :: ((wm20.heap.size, g) :: [(wm4.heap.size, u), (wm3.heap.size, m)])) w30 from (HlR.out.keep hbw).cons hmb)
            have HW30 := Lib.hid (show Below w.heap.size w w30 from HWR.out.trans (hbw.mono HWR.out.size))
            have Hw30 := Lib.hid hw30
            clear hk30 hbw hmb ho hbd hbm
            clear HU c0X c1X c2X c0Y c1Y c2Y
            obtain ⟨s1X, e1X, s2X, e2X, s3X, e3X, hBX, hMX⟩ := Hl30.out.get wm30.heap.size g (by simp)
            obtain ⟨c0X, c1X, c2X⟩ := cell3 hBX
            obtain ⟨s1Y, e1Y, s2Y, e2Y, s3Y, e3Y, hBY, hMY⟩ := Hl30.out.get wm20.heap.size g (by simp)
            obtain ⟨c0Y, c1Y, c2Y⟩ := cell3 hBY
            have HE := Lib.hid (equal_any w30 _ _ (.agg #[.slice s1X g.seen.length e1X, .slice s2X g.items.length e2X, .slice s3X g.gone.length e3X]) (.agg #[.slice s1Y g.seen.length e1Y, .slice s2Y g.items.length e2Y, .slice s3Y g.gone.length e3Y]) g g ⟨_, _, _, rfl, hMX⟩ ⟨_, _, _, rfl, hMY⟩ Hsg.out.1 Hsg.out.2.1 Hsg.out.2.2 Hsg.out.1 Hsg.out.2.1 Hsg.out.2.2)
            rw [Hw30.out] at c0X c1X c2X c0Y c1Y c2Y
            clear hBX hMX hBY hMY
            go_wp2_with fail
            rw [← Hw30.out]
            refine HE.out.mono ?_
            rintro e w31 ⟨r, rfl, hr, hb⟩
            obtain rfl : r = true := hr.2 rfl
            have Hl31 := Lib.hid (Hl30.out.keep hb); have HW31 := Lib.hid (show Below w.heap.size w w31 from HW30.out.trans (hb.mono HW30.out.size))
            clear HE hr hb c0X c1X c2X c0Y c1Y c2Y
            have HW := Lib.hid (works_any w31 (HTb.out _ HW31.out).1 (HTb.out _ HW31.out).2)
            go_wp2_with fail
            skip
            refine HW.out.mono ?_
            rintro e wf ⟨rfl, hbf⟩
            clear HW
            go_wp2_with fail
            go_ret
            exact ⟨rfl, HW31.out.trans (hbf.mono HW31.out.size)⟩
end Go.Proofs.YtbjkkmabafaogaaGreatDoor
