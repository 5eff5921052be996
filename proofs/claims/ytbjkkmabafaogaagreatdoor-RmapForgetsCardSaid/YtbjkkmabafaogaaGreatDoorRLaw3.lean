/- The law RmapForgets. -/
import Derived.Test.YtbjkkmabafaogaaGreatDoorRWorks
import Derived.Test.YtbjkkmabafaogaaGreatDoorRForg2
import Derived.Test.YtbjkkmabafaogaaGreatDoorRSpoil
import Derived.Test.YtbjkkmabafaogaaGreatDoorRArg
import Derived.Test.YtbjkkmabafaogaaGreatDoorFloat
namespace Go.Proofs.YtbjkkmabafaogaaGreatDoor
open Go.RowKit Go.Lib
set_option linter.unusedVariables false
set_option maxRecDepth 20000
attribute [local go_sem ↓] seal_append
attribute [local go_sem] opC upC

theorem forgetR_small (m : RMap) (d : Int) (l : List RKey) : SmallM (forgetR m d l).1 := by
  unfold forgetR
  split
  · split
    · exact full_small _
    · exact small_empty
  · exact small_empty
def ordEvF : List FStep := [.steady 0, .steady 1, .steady 3, .move 2, .move 4, .move 5, .steady 6, .steady 7, .steady 8, .float 9, .fixed 10, .steady 11]
set_option maxRecDepth 100000 in
set_option maxHeartbeats 4000000 in
theorem RmapForgets_walk (v : Value) (d : Int) (lv : Value) (w : World) (hv : IsRMap w v) (hd : (Lit.int .i64 d).wf = true) (hl : IsStrs w lv) (hq : Tabs w ∧ 3 ≤ w.heap.size) :
    Calls Tryz.prog 9 #[v, .int .i64 d, lv] w fun e w' => e = .returned (.bool true) ∧ Below w.heap.size w w' := by
  obtain ⟨m, h⟩ := hv
  obtain ⟨l, hlk, hlv⟩ := hl
  obtain ⟨al, cl, rfl, -⟩ := hlv.shape
  have hll := hlv.len
  unfold maxLen at hll
  have HTb := Lib.hid (show ∀ w', Below w.heap.size w w' → Tabs w' ∧ 3 ≤ w'.heap.size from fun w' hb => ⟨tabs_below hq.1 hq.2 hb, Nat.le_trans hq.2 hb.size⟩)
  have HL := Lib.hid (show ∀ w', Below w.heap.size w w' → Rows (fun b => b < w.heap.size) w' 1 (.slice al l.length cl) l.length (l.map eS) from fun w' hb => hlv.keep fun b hlt _ => hb.block b hlt)
  clear hq hlv hlk
  obtain ⟨s1, s2, s3, rfl, h⟩ := h
  obtain ⟨a1, p1, rfl, -⟩ := h.seen.shape
  obtain ⟨a2, p2, rfl, -⟩ := h.items.shape
  obtain ⟨a3, p3, rfl, -⟩ := h.gone.shape
  obtain ⟨wx, hwx⟩ : ∃ wx, wx = w.alloc (.cells #[.slice a1 m.seen.length p1, .slice a2 m.items.length p2, .slice a3 m.gone.length p3] 26) := ⟨_, rfl⟩
  have hbx : Below w.heap.size w wx := by rw [hwx]; exact kept_alloc _ _
  have hzx : wx.heap.size = w.heap.size + 1 := by rw [hwx]; simp
  have hx := h.keep (w' := wx) fun b _ hlt => hbx.block b hlt
  have hnx : Blk wx w.heap.size [.slice a1 m.seen.length p1, .slice a2 m.items.length p2, .slice a3 m.gone.length p3] 26 := by rw [hwx]; exact Blk.new _ _ _
  have Hx := Lib.hid hx
  have Hwx := Lib.hid hwx; have Hbx := Lib.hid hbx; have Hzx := Lib.hid hzx
  have Hnx := Lib.hid hnx
  clear hx hwx hbx hnx hzx h
  have HF := Lib.hid (few_any wx _ _ m ⟨_, _, _, rfl, Hx.out⟩)
  obtain ⟨c0, c1, c2⟩ := cell3 Hnx.out
  go_enter Tryz.func9, Tryz.ntmps9
  go_wp2_with fail
  rw [← Hwx.out]
  refine HF.out.mono ?_
  rintro e w1 ⟨r, rfl, hsm, hb1⟩
  have hb1' : Below w.heap.size w w1 := Hbx.out.trans (hb1.mono Hbx.out.size)
  clear HF
  cases r with
  | false =>
    have Hb1 := Lib.hid hb1'
    clear hb1' hb1 hsm
    go_wp2_with fail
    go_ret
    exact ⟨rfl, Hb1.out⟩
  | true =>
    have HSh := Lib.hid (short_any w1 _ _ l (HL.out w1 hb1'))
    have hsm := hsm rfl
    have kI : ∀ x ∈ m.items, x.key.length ≤ 1000000 := fun x hx => by have := hsm.ikeys x hx; omega
    have kG : ∀ x ∈ m.gone, x.key.length ≤ 1000000 := fun x hx => by have := hsm.gkeys x hx; omega
    have hS1 := Hx.out.keep (w' := w1) fun b _ hlt => hb1.block b hlt
    have hN1 := Hnx.out.keep (hb1.block _ Hnx.out.lt)
    have HG := Lib.hid (given_any w1 _ _ m ⟨_, _, _, rfl, hS1⟩ (by have := hsm.seen; omega) (by have := hsm.items; omega) (by have := hsm.gone; omega))
    clear c0 c1 c2
    obtain ⟨c0, c1, c2⟩ := cell3 hN1
    have Hb1 := Lib.hid hb1'; have HS1 := Lib.hid hS1; have HN1 := Lib.hid hN1; have Hsm := Lib.hid hsm; have HkI := Lib.hid kI; have HkG := Lib.hid kG
    clear hb1 hb1' hS1 hN1 hsm kI kG
    go_wp2_with fail
    refine HSh.out.mono ?_
    rintro e w1' ⟨rs, rfl, hsh, rfl⟩
    clear HSh
    cases rs with
    | false =>
      clear hsh
      go_wp2_with fail
      go_ret
      exact ⟨rfl, Hb1.out⟩
    | true =>
      obtain ⟨hl20, hlk⟩ := hsh rfl
      have Hl20 := Lib.hid hl20; have Hlk := Lib.hid hlk
      clear hsh hl20 hlk
      go_wp2_with fail
      refine HG.out.mono ?_
      rintro e w2 ⟨v2, rfl, hi, hb2⟩
      have hb2' : Below w.heap.size w w2 := Hb1.out.trans (hb2.mono Hb1.out.size)
      obtain ⟨s1i, s2i, s3i, rfl, hi⟩ := hi
      obtain ⟨a1i, p1i, rfl, -⟩ := hi.seen.shape
      obtain ⟨a2i, p2i, rfl, -⟩ := hi.items.shape
      obtain ⟨a3i, p3i, rfl, -⟩ := hi.gone.shape
      obtain ⟨wxi, hwxi⟩ : ∃ wx, wx = w2.alloc (.cells #[.slice a1i m.seen.length p1i, .slice a2i m.items.length p2i, .slice a3i m.gone.length p3i] 31) := ⟨_, rfl⟩
      have hbxi : Below w2.heap.size w2 wxi := by rw [hwxi]; exact kept_alloc _ _
      have hzxi : wxi.heap.size = w2.heap.size + 1 := by rw [hwxi]; simp
      have hxi := hi.keep (w' := wxi) fun b _ hlt => hbxi.block b hlt
      have hnxi : Blk wxi w2.heap.size [.slice a1i m.seen.length p1i, .slice a2i m.items.length p2i, .slice a3i m.gone.length p3i] 31 := by rw [hwxi]; exact Blk.new _ _ _
      have Hxi := Lib.hid hxi
      have Hwxi := Lib.hid hwxi; have Hbxi := Lib.hid hbxi; have Hzxi := Lib.hid hzxi
      have Hnxi := Lib.hid hnxi
      clear hxi hwxi hbxi hnxi hzxi hi
      have hb3 : Below w.heap.size w wxi := hb2'.trans (Hbxi.out.mono hb2'.size)
      have hw13 : Below w1.heap.size w1 wxi := hb2.trans (Hbxi.out.mono hb2.size)
      have HR := Lib.hid (show ∀ W, Below wxi.heap.size wxi W → Below w.heap.size w W ∧ Blk W w.heap.size [.slice a1 m.seen.length p1, .slice a2 m.items.length p2, .slice a3 m.gone.length p3] 26 ∧ MapIn (fun b => b < w.heap.size) W (.slice a1 m.seen.length p1) (.slice a2 m.items.length p2) (.slice a3 m.gone.length p3) m ∧ Blk W w2.heap.size [.slice a1i m.seen.length p1i, .slice a2i m.items.length p2i, .slice a3i m.gone.length p3i] 31 ∧ MapIn (fun b => w1.heap.size ≤ b) W (.slice a1i m.seen.length p1i) (.slice a2i m.items.length p2i) (.slice a3i m.gone.length p3i) m from fun W hb => by
        have hB : Below w.heap.size w W := hb3.trans (hb.mono hb3.size)
        have h1 : Below w1.heap.size w1 W := hw13.trans (hb.mono hw13.size)
        exact ⟨hB, HN1.out.keep (h1.block _ HN1.out.lt), HS1.out.keep (w' := W) fun b _ hlt => h1.block b hlt, Hnxi.out.keep (hb.block _ Hnxi.out.lt), Hxi.out.keep (w' := W) fun b _ hlt => hb.block b hlt⟩)
      clear hb2 hb2' hb3 hw13 HG c0 c1 c2
      have H0 := Lib.hid (show Below wxi.heap.size wxi wxi.drew from (Below.refl _ _).drew)
      have pi : ∀ W, LaterT wxi.heap.size 31 wxi.drew W → W.cell? ⟨w2.heap.size, 0, none⟩ = some (.slice a1i m.seen.length p1i) ∧ W.cell? ⟨w2.heap.size, 1, none⟩ = some (.slice a2i m.items.length p2i) ∧ W.cell? ⟨w2.heap.size, 2, none⟩ = some (.slice a3i m.gone.length p3i) := fun W hW => cell3 (HR.out W (H0.out.trans (hW.below (Nat.le_refl _)))).2.2.2.1
      have pi0 := fun W hW => (pi W hW).1
      have pi1 := fun W hW => (pi W hW).2.1
      have pi2 := fun W hW => (pi W hW).2.2
      clear pi
      go_wp2_with fail
      rw [← Hwxi.out]
      refine wp_region_fl (LaterT wxi.heap.size 31) (FreshT wxi.heap.size 31 3) [9] ordEvF 40 (by kernel_rfl) (by kernel_rfl) (laterT_refl _ _) (laterT_trans _ _) (floats_of #[.slice none 0 0, .slice none 0 0, .slice none 0 0] rfl (Nat.le_refl _) (fun j hj => ?_) (fun i j hi hj hne => ?_)) ?_
      · obtain rfl : j = 9 := by simpa using hj
        exact ⟨_, rfl, rfl, fun a W => by go_simp⟩
      · simp at hi hj
        omega
      unfold ordEvF
      repeat (refine canF_yes (v := ?_) rfl (wanted_none rfl) (fun w' hC => ?_) (fun K hK => ?_); rotate_left; (focus (go_simp; (try simp (disch := omega) only [IntWalk.i64_in]); (try simp (disch := omega) only [IntWalk.u32_in]); (try simp (disch := omega) only [IntWalk.u8_in]); (try simp (disch := omega) only [IntWalk.i64_quo]); (try simp (disch := omega) only [IntWalk.rem_in]); first | done | exact rfl)); go_simp; (try simp (disch := omega) only [IntWalk.i64_in]); (try simp (disch := omega) only [IntWalk.u32_in]); (try simp (disch := omega) only [IntWalk.u8_in]); (try simp (disch := omega) only [IntWalk.i64_quo]); (try simp (disch := omega) only [IntWalk.rem_in]); refine hK _ ?_; clear hK K)
      refine canF_go rfl rfl (fun Wa hWa KK hK => ?_)
      go_simp
      have hza : wxi.heap.size ≤ Wa.heap.size := hWa.size
      obtain ⟨wa, hwa⟩ : ∃ wa, wa = Wa.alloc (.cells #[] 9) := ⟨_, rfl⟩
      have hla : Below Wa.heap.size Wa wa := by rw [hwa]; exact kept_alloc _ _
      have hba : Below wxi.heap.size wxi wa := (H0.out.trans (hWa.below (Nat.le_refl _))).trans (hla.mono hza)
      have he0 : Blk wa Wa.heap.size [] 9 := by rw [hwa]; exact Blk.new _ _ _
      rw [← hwa]
      clear hwa
      refine ⟨LaterT.of_later hla, hK _ _ ?_⟩
      clear hK KK pi0 pi1 pi2
      go_simp
      refine canF_go rfl rfl (fun Wb hWb KK hK => ?_)
      have hbb : Below wxi.heap.size wxi Wb := hba.trans (hWb.below hba.size)
      obtain ⟨i0, q1, q2, q3, q4⟩ := info_parts infoS
      obtain ⟨v5, w5, hr5, hown5, hb5⟩ := app_new (P := Tryz.prog) Wb wxi.heap.size 39 9 Tryz.underlying39 q1 q2 q3 q4 rfl (by decide) Wa.heap.size (hWb.blk he0 (by decide)) hza _ (.slice al l.length cl) l.length _ (HL.out Wb (HR.out Wb hbb).1) (one_strs l) (by have := Hl20.out; unfold maxLen; omega) (by have := Hl20.out; omega) hbb.size
      obtain ⟨a5, c5, rfl⟩ := own_shape hown5
      have hbw5 : Below wxi.heap.size wxi w5 := hbb.trans (hb5.mono hbb.size)
      clear hla hba he0 hWa q1 q2 q3 q4
      go_simp
      refine ⟨LaterT.of_later hb5, hK _ _ ?_⟩
      clear hK KK hr5 hb5 hWb hbb
      go_simp
      refine canF_go rfl rfl (fun Wc hWc KK hK => ?_)
      have hbc : Below wxi.heap.size wxi Wc := hbw5.trans (hWc.below hbw5.size)
      have hU := pforget_any Wc (HTb.out _ (HR.out Wc hbc).1).1 (HTb.out _ (HR.out Wc hbc).1).2 _ (.agg #[.slice a1i m.seen.length p1i, .slice a2i m.items.length p2i, .slice a3i m.gone.length p3i]) m ⟨_, _, _, rfl, (HR.out Wc hbc).2.2.2.2⟩ HkI.out HkG.out (by have := Hsm.out.items; omega) (by have := Hsm.out.gone; omega) d _ (.slice a5 l.length c5) l (Rows.of_owns (hWc.own hown5 (by decide))) (by have := Hl20.out; omega) (fun x hx => by have := Hlk.out x hx; omega)
      generalize hmr : forgetR m d l = mr at hU
      have HU := Lib.hid hU; have Hmr := Lib.hid hmr; have Hbc := Lib.hid hbc
      have HSr := Lib.hid (show SmallM mr.1 by rw [← hmr]; exact forgetR_small _ _ _)
      clear hU hmr hbc hown5 hbw5 hWc hza
      go_simp
      refine HU.out.mono ?_
      rintro e w7 ⟨⟨r1, rfl, ho, hbd⟩, hb7⟩
      refine ⟨_, rfl, LaterT.of_later hb7, hK _ _ ?_⟩
      clear hK KK HU
      go_simp
      obtain ⟨s1, s2, s3, rfl, ho⟩ := ho
      obtain ⟨b1, e1, rfl⟩ := own_shape ho.seen
      obtain ⟨b2, e2, rfl⟩ := own_shape ho.items
      obtain ⟨b3, e3, rfl⟩ := own_shape ho.gone
      have hbw7 : Below wxi.heap.size wxi w7 := Hbc.out.trans (hb7.mono Hbc.out.size)
      have Hbd := Lib.hid hbd; have Hb7 := Lib.hid hbw7; have Ho := Lib.hid ho; have Hwc7 := Lib.hid hb7.size
      clear hbd hb7 hbw7 ho
      repeat (refine canF_yes (v := ?_) rfl (wanted_none rfl) (fun w' hC => ?_) (fun K hK => ?_); rotate_left; (focus (go_simp; (try simp (disch := omega) only [IntWalk.i64_in]); (try simp (disch := omega) only [IntWalk.u32_in]); (try simp (disch := omega) only [IntWalk.u8_in]); (try simp (disch := omega) only [IntWalk.i64_quo]); (try simp (disch := omega) only [IntWalk.rem_in]); first | done | exact rfl)); go_simp; (try simp (disch := omega) only [IntWalk.i64_in]); (try simp (disch := omega) only [IntWalk.u32_in]); (try simp (disch := omega) only [IntWalk.u8_in]); (try simp (disch := omega) only [IntWalk.i64_quo]); (try simp (disch := omega) only [IntWalk.rem_in]); refine hK _ ?_; clear hK K)
      refine canF_float rfl (fun vO Wd hWd hZ hU KK hK => ?_)
      obtain ⟨O, LO, rfl, hO1, hO2, hO3⟩ := hZ
      refine hK _ _ ?_
      clear hK KK hU
      go_simp
      obtain ⟨x0, x1, x2, rfl⟩ : ∃ x0 x1 x2, LO = [x0, x1, x2] := by
        match LO, hO3 with
        | [x0, x1, x2], _ => exact ⟨x0, x1, x2, rfl⟩
      have hbd' : Below wxi.heap.size wxi Wd := Hb7.out.trans (hWd.below Hb7.out.size)
      have hod : OwnIn Wd Wc.heap.size (.slice b1 mr.1.seen.length e1) (.slice b2 mr.1.items.length e2) (.slice b3 mr.1.gone.length e3) mr.1 := ⟨hWd.own Ho.out.seen (by decide), hWd.own Ho.out.items (by decide), hWd.own Ho.out.gone (by decide)⟩
      obtain ⟨w8, hw8, hblk8, hb8⟩ := fin3 hO2 hbd' hO1 (.slice b1 mr.1.seen.length e1) (.slice b2 mr.1.items.length e2) (.slice b3 mr.1.gone.length e3)
      have hl8 : LaterT wxi.heap.size 31 Wd w8 := by
        rw [hw8]
        exact laterT_trans _ _ _ _ _ (laterT_trans _ _ _ _ _ (LaterT.set hO2 hO1 0 _) (LaterT.set (hO2.set 0 _) hO1 1 _)) (LaterT.set ((hO2.set 0 _).set 1 _) hO1 2 _)
      have ho8 : OwnIn w8 Wc.heap.size (.slice b1 mr.1.seen.length e1) (.slice b2 mr.1.items.length e2) (.slice b3 mr.1.gone.length e3) mr.1 := by
        rw [hw8]
        exact ((hod.setCell hO2 _).setCell (hO2.set 0 _) _).setCell ((hO2.set 0 _).set 1 _) _
      obtain ⟨y0, y1, y2⟩ := cell3 hO2
      have z0 := hO2.free 0
      have z1 := hO2.free 1
      have z2 := hO2.free 2
      have Hl8 := Lib.hid hl8; have Hw8 := Lib.hid hw8; have Hb8 := Lib.hid hb8; have Ho8 := Lib.hid ho8; have HO8 := Lib.hid hblk8; have Hwc8 := Lib.hid (Nat.le_trans Hwc7.out (Nat.le_trans hWd.size hl8.size))
      clear hl8 hw8 hb8 ho8 hblk8 hod hbd' hWd hO1 hO2 hO3
      refine canF_fixed rfl rfl (fun KK hK => ?_)
      go_simp
      rw [← Hw8.out]
      refine ⟨Hl8.out, hK _ _ ?_⟩
      clear hK KK y0 y1 y2 z0 z1 z2 Hl8 Hw8
      go_simp
      repeat (refine canF_yes (v := ?_) rfl (wanted_none rfl) (fun w' hC => ?_) (fun K hK => ?_); rotate_left; (focus (go_simp; (try simp (disch := omega) only [IntWalk.i64_in]); (try simp (disch := omega) only [IntWalk.u32_in]); (try simp (disch := omega) only [IntWalk.u8_in]); (try simp (disch := omega) only [IntWalk.i64_quo]); (try simp (disch := omega) only [IntWalk.rem_in]); first | done | exact rfl)); go_simp; (try simp (disch := omega) only [IntWalk.i64_in]); (try simp (disch := omega) only [IntWalk.u32_in]); (try simp (disch := omega) only [IntWalk.u8_in]); (try simp (disch := omega) only [IntWalk.i64_quo]); (try simp (disch := omega) only [IntWalk.rem_in]); refine hK _ ?_; clear hK K)
      refine canF_nil ?_
      obtain ⟨hw8, kA, hMi, kI, hIn⟩ := HR.out w8 Hb8.out
      have hR := rforget_any w8 _ (.agg #[.slice a1 m.seen.length p1, .slice a2 m.items.length p2, .slice a3 m.gone.length p3]) m ⟨_, _, _, rfl, hMi⟩ (fun x hx => by have := HkI.out x hx; omega) (fun x hx => by have := HkG.out x hx; omega) d _ (.slice al l.length cl) l (HL.out w8 hw8) (by have := Hl20.out; omega) (fun x hx => by have := Hlk.out x hx; omega)
      rw [Hmr.out] at hR
      have HRu := Lib.hid hR
      obtain ⟨c0, c1, c2⟩ := cell3 kA
      clear hR hw8 kA hMi kI hIn
      go_wp2_with fail
      refine HRu.out.mono ?_
      rintro e w9 ⟨r2, rfl, hb, hb9⟩
      clear HRu c0 c1 c2
      obtain ⟨s1b, s2b, s3b, rfl, hb⟩ := hb
      obtain ⟨a1b, p1b, rfl, -⟩ := hb.seen.shape
      obtain ⟨a2b, p2b, rfl, -⟩ := hb.items.shape
      obtain ⟨a3b, p3b, rfl, -⟩ := hb.gone.shape
      obtain ⟨wxb, hwxb⟩ : ∃ wx, wx = w9.alloc (.cells #[.slice a1b mr.1.seen.length p1b, .slice a2b mr.1.items.length p2b, .slice a3b mr.1.gone.length p3b] 26) := ⟨_, rfl⟩
      have hbxb : Below w9.heap.size w9 wxb := by rw [hwxb]; exact kept_alloc _ _
      have hzxb : wxb.heap.size = w9.heap.size + 1 := by rw [hwxb]; simp
      have hxb := hb.keep (w' := wxb) fun b _ hlt => hbxb.block b hlt
      have hnxb : Blk wxb w9.heap.size [.slice a1b mr.1.seen.length p1b, .slice a2b mr.1.items.length p2b, .slice a3b mr.1.gone.length p3b] 26 := by rw [hwxb]; exact Blk.new _ _ _
      have Hxb := Lib.hid hxb
      have Hwxb := Lib.hid hwxb; have Hbxb := Lib.hid hbxb; have Hzxb := Lib.hid hzxb
      have Hnxb := Lib.hid hnxb
      clear hxb hwxb hbxb hnxb hzxb hb
      have hb8x : Below w8.heap.size w8 wxb := hb9.trans (Hbxb.out.mono hb9.size)
      have Hbx3 := Lib.hid (show Below wxi.heap.size wxi wxb from Hb8.out.trans (hb8x.mono Hb8.out.size))
      have hOx := HO8.out.keep (hb8x.block _ HO8.out.lt)
      have hox := Ho8.out.below hb8x
      have HS := Lib.hid (same_any wxb _ _ _ _ mr.1 mr.1 ⟨_, _, _, rfl, hox.map Hbd.out⟩ ⟨_, _, _, rfl, Hxb.out⟩ HSr.out.1 HSr.out.2.1 HSr.out.2.2)
      obtain ⟨c0, c1, c2⟩ := cell3 hOx
      obtain ⟨d0, d1, d2⟩ := cell3 Hnxb.out
      have HOx := Lib.hid hOx; have Hox := Lib.hid hox; have Hbc2 := Lib.hid (show Wc.heap.size ≤ wxb.heap.size by have := hb8x.size; have h8 : Wc.heap.size ≤ w8.heap.size := Hwc8.out; omega)
      generalize mr.2 = er
      rw [Hwxb.out] at c0 c1 c2 d0 d1 d2
      clear hb8x hOx hox hb9
      go_wp2_with fail
      rw [← Hwxb.out]
      refine HS.out.mono ?_
      rintro e w10 ⟨r, rfl, hr, hb10⟩
      obtain rfl : r = true := hr.2 rfl
      have hOs := HOx.out.keep (hb10.block _ HOx.out.lt)
      have hos := Hox.out.below hb10
      have HSp := Lib.hid (spoil_any w10 Wc.heap.size (.agg #[.slice b1 mr.1.seen.length e1, .slice b2 mr.1.items.length e2, .slice b3 mr.1.gone.length e3]) mr.1 ⟨_, _, _, rfl, hos⟩ (Nat.le_trans Hbc2.out hb10.size) HSr.out.1 HSr.out.2.1 HSr.out.2.2)
      have Hb10 := Lib.hid (show Below wxi.heap.size wxi w10 from Hbx3.out.trans (hb10.mono Hbx3.out.size))
      clear c0 c1 c2 d0 d1 d2 HS hr hb10
      obtain ⟨c0, c1, c2⟩ := cell3 hOs
      clear hOs hos
      go_wp2_with fail
      refine HSp.out.mono ?_
      rintro e w11 ⟨rfl, hb11⟩
      have Hb11 := Lib.hid (show Below wxi.heap.size wxi w11 from Hb10.out.trans (hb11.mono Hbc.out.size))
      clear c0 c1 c2 HSp hb11
      obtain ⟨hw11, kA, hMi, kI, hIn⟩ := HR.out w11 Hb11.out
      have HS := Lib.hid (same_any w11 _ _ _ _ m m ⟨_, _, _, rfl, hIn⟩ ⟨_, _, _, rfl, hMi⟩ (by have := Hsm.out.seen; omega) (by have := Hsm.out.items; omega) (by have := Hsm.out.gone; omega))
      obtain ⟨c0, c1, c2⟩ := cell3 kA
      obtain ⟨d0, d1, d2⟩ := cell3 kI
      have Hw11 := Lib.hid hw11
      clear hw11 kA hMi kI hIn
      go_wp2_with fail
      refine HS.out.mono ?_
      rintro e w12 ⟨r, rfl, hr, hb12⟩
      obtain rfl : r = true := hr.2 rfl
      have Hb12 := Lib.hid (show Below w.heap.size w w12 from Hw11.out.trans (hb12.mono Hw11.out.size))
      have HW := Lib.hid (works_any w12 (HTb.out _ Hb12.out).1 (HTb.out _ Hb12.out).2)
      clear HS hr hb12 c0 c1 c2 d0 d1 d2
      go_wp2_with fail
      refine HW.out.mono ?_
      rintro e w13 ⟨rfl, hb13⟩
      clear HW
      go_wp2_with fail
      go_ret
      exact ⟨rfl, Hb12.out.trans (hb13.mono Hb12.out.size)⟩
end Go.Proofs.YtbjkkmabafaogaaGreatDoor
