/- The law RmapMerges. -/
import Derived.Test.YtbjkkmabafaogaaGreatDoorRMB
import Derived.Test.YtbjkkmabafaogaaGreatDoorRRef6
namespace Go.Proofs.YtbjkkmabafaogaaGreatDoor
open Go.RowKit Go.Lib
set_option linter.unusedVariables false
set_option maxRecDepth 20000
attribute [local go_sem ↓] seal_append
attribute [local go_sem] opC upC

def ordMg : List FStep := [.steady 0, .steady 2, .move 1, .move 3, .float 4, .float 5, .fixed 6, .fixed 7]
set_option maxRecDepth 100000 in
set_option maxHeartbeats 4000000 in
theorem RmapMerges_walk (va vb : Value) (w : World) (hva : IsRMap w va) (hvb : IsRMap w vb) (hq : Tabs w ∧ 3 ≤ w.heap.size) :
    Calls Tryz.prog 7 #[va, vb] w fun e w' => e = .returned (.bool true) ∧ Below w.heap.size w w' := by
  obtain ⟨a, ha⟩ := hva
  obtain ⟨b, hb⟩ := hvb
  have HTb := Lib.hid (show ∀ w', Below w.heap.size w w' → Tabs w' ∧ 3 ≤ w'.heap.size from fun w' hb => ⟨tabs_below hq.1 hq.2 hb, Nat.le_trans hq.2 hb.size⟩)
  clear hq
  replace ha := ha.mono (G := fun q => q < w.heap.size) fun q _ hlt => hlt
  replace hb := hb.mono (G := fun q => q < w.heap.size) fun q _ hlt => hlt
  obtain ⟨s1a, s2a, s3a, rfl, ha⟩ := ha
  obtain ⟨a1a, p1a, rfl, -⟩ := ha.seen.shape
  obtain ⟨a2a, p2a, rfl, -⟩ := ha.items.shape
  obtain ⟨a3a, p3a, rfl, -⟩ := ha.gone.shape
  obtain ⟨wxa, hwxa⟩ : ∃ wx, wx = w.alloc (.cells #[.slice a1a a.seen.length p1a, .slice a2a a.items.length p2a, .slice a3a a.gone.length p3a] 26) := ⟨_, rfl⟩
  have hbxa : Below w.heap.size w wxa := by rw [hwxa]; exact kept_alloc _ _
  have hzxa : wxa.heap.size = w.heap.size + 1 := by rw [hwxa]; simp
  have hxa := ha.keep (w' := wxa) fun b _ hlt => hbxa.block b hlt
  have hnxa : Blk wxa w.heap.size [.slice a1a a.seen.length p1a, .slice a2a a.items.length p2a, .slice a3a a.gone.length p3a] 26 := by rw [hwxa]; exact Blk.new _ _ _
  have Hxa := Lib.hid hxa
  have Hwxa := Lib.hid hwxa; have Hbxa := Lib.hid hbxa; have Hzxa := Lib.hid hzxa
  have Hnxa := Lib.hid hnxa
  clear hxa hwxa hbxa hnxa hzxa ha
  replace hb : MapV (fun q => q < w.heap.size) wxa vb b := hb.keep (w' := wxa) fun q _ hlt => Hbxa.out.block q hlt
  obtain ⟨s1b, s2b, s3b, rfl, hb⟩ := hb
  obtain ⟨a1b, p1b, rfl, -⟩ := hb.seen.shape
  obtain ⟨a2b, p2b, rfl, -⟩ := hb.items.shape
  obtain ⟨a3b, p3b, rfl, -⟩ := hb.gone.shape
  obtain ⟨wxb, hwxb⟩ : ∃ wx, wx = wxa.alloc (.cells #[.slice a1b b.seen.length p1b, .slice a2b b.items.length p2b, .slice a3b b.gone.length p3b] 26) := ⟨_, rfl⟩
  have hbxb : Below wxa.heap.size wxa wxb := by rw [hwxb]; exact kept_alloc _ _
  have hzxb : wxb.heap.size = wxa.heap.size + 1 := by rw [hwxb]; simp
  have hxb := hb.keep (w' := wxb) fun b _ hlt => hbxb.block b hlt
  have hnxb : Blk wxb wxa.heap.size [.slice a1b b.seen.length p1b, .slice a2b b.items.length p2b, .slice a3b b.gone.length p3b] 26 := by rw [hwxb]; exact Blk.new _ _ _
  have Hxb := Lib.hid hxb
  have Hwxb := Lib.hid hwxb; have Hbxb := Lib.hid hbxb; have Hzxb := Lib.hid hzxb
  have Hnxb := Lib.hid hnxb
  clear hxb hwxb hbxb hnxb hzxb hb
  have hbb : Below w.heap.size w wxb := Hbxa.out.trans (Hbxb.out.mono Hbxa.out.size)
  have ka : Blk wxb w.heap.size [.slice a1a a.seen.length p1a, .slice a2a a.items.length p2a, .slice a3a a.gone.length p3a] 26 := Hnxa.out.keep (Hbxb.out.block _ Hnxa.out.lt)
  have kb : Blk wxb (w.heap.size + 1) [.slice a1b b.seen.length p1b, .slice a2b b.items.length p2b, .slice a3b b.gone.length p3b] 26 := by
    have := Hnxb.out
    rw [Hzxa.out] at this
    exact this
  have hMa := Hxa.out
  have hMb := Hxb.out
  have HR := Lib.hid (show ∀ W, Below wxb.heap.size wxb W → Below w.heap.size w W ∧ Blk W w.heap.size [.slice a1a a.seen.length p1a, .slice a2a a.items.length p2a, .slice a3a a.gone.length p3a] 26 ∧ Blk W (w.heap.size + 1) [.slice a1b b.seen.length p1b, .slice a2b b.items.length p2b, .slice a3b b.gone.length p3b] 26 ∧ MapIn (fun q => q < w.heap.size) W (.slice a1a a.seen.length p1a) (.slice a2a a.items.length p2a) (.slice a3a a.gone.length p3a) a ∧ MapIn (fun q => q < w.heap.size) W (.slice a1b b.seen.length p1b) (.slice a2b b.items.length p2b) (.slice a3b b.gone.length p3b) b from fun W hW => by
    have hB : Below w.heap.size w W := hbb.trans (hW.mono hbb.size)
    exact ⟨hB, ka.keep (hW.block _ ka.lt), kb.keep (hW.block _ kb.lt), hMa.keep (w' := W) fun q hq _ => (hB.block q hq).trans (Hbxa.out.block q hq).symm, hMb.keep (w' := W) fun q hq _ => (hB.block q hq).trans (hbb.block q hq).symm⟩)
  have HFa := Lib.hid (few_any wxb _ _ a ⟨_, _, _, rfl, (HR.out wxb (Below.refl _ _)).2.2.2.1⟩)
  obtain ⟨c0, c1, c2⟩ := cell3 ka
  have HBa := Lib.hid hMa.bnd; have HBb := Lib.hid hMb.bnd
  clear hbb ka kb hMa hMb
  go_enter Tryz.func7, Tryz.ntmps7
  go_wp2_with fail
  rw [← Hwxa.out, ← Hwxb.out]
  refine HFa.out.mono ?_
  rintro e w1 ⟨r, rfl, hsa, hb1⟩
  clear HFa c0 c1 c2
  cases r with
  | false =>
    have Hb1 := Lib.hid (HR.out w1 hb1).1
    clear hb1 hsa
    go_wp2_with fail
    go_ret
    exact ⟨rfl, Hb1.out⟩
  | true =>
    have HFb := Lib.hid (few_any w1 _ _ b ⟨_, _, _, rfl, (HR.out w1 hb1).2.2.2.2⟩)
    obtain ⟨d0, d1, d2⟩ := cell3 (HR.out w1 hb1).2.2.1
    have Hsa := Lib.hid (hsa rfl); have Hb1 := Lib.hid hb1
    clear hsa hb1
    go_wp2_with fail
    refine HFb.out.mono ?_
    rintro e w2 ⟨r, rfl, hsb, hb2⟩
    have hL2 : Below wxb.heap.size wxb w2 := Hb1.out.trans (hb2.mono Hb1.out.size)
    clear HFb d0 d1 d2 hb2
    cases r with
    | false =>
      have Hb2 := Lib.hid (HR.out w2 hL2).1
      clear hL2 hsb
      go_wp2_with fail
      go_ret
      exact ⟨rfl, Hb2.out⟩
    | true =>
      have hsa := Hsa.out
      have hsb := hsb rfl
      have kaI : ∀ x ∈ a.items, x.key.length ≤ 1000000 := fun x hx => by have := hsa.ikeys x hx; omega
      have kaG : ∀ x ∈ a.gone, x.key.length ≤ 1000000 := fun x hx => by have := hsa.gkeys x hx; omega
      have kbI : ∀ x ∈ b.items, x.key.length ≤ 1000000 := fun x hx => by have := hsb.ikeys x hx; omega
      have kbG : ∀ x ∈ b.gone, x.key.length ≤ 1000000 := fun x hx => by have := hsb.gkeys x hx; omega
      have HkaI := Lib.hid kaI; have HkaG := Lib.hid kaG; have HkbI := Lib.hid kbI; have HkbG := Lib.hid kbG
      have Hsb := Lib.hid hsb; have HL2 := Lib.hid hL2
      clear hsa hsb kaI kaG kbI kbG hL2
      have H0 := Lib.hid (show Below w2.heap.size w2 w2.drew from (Below.refl _ _).drew)
      have HL := Lib.hid (show ∀ W, LaterT w2.heap.size 31 w2.drew W → Below wxb.heap.size wxb W ∧ Below w2.heap.size w2 W from fun W hW => ⟨HL2.out.trans ((H0.out.trans (hW.below (Nat.le_refl _))).mono HL2.out.size), H0.out.trans (hW.below (Nat.le_refl _))⟩)
      have pa := fun W hW => cell3 (HR.out W (HL.out W hW).1).2.1
      have pb := fun W hW => cell3 (HR.out W (HL.out W hW).1).2.2.1
      have pa0 := fun W hW => (pa W hW).1
      have pa1 := fun W hW => (pa W hW).2.1
      have pa2 := fun W hW => (pa W hW).2.2
      have pb0 := fun W hW => (pb W hW).1
      have pb1 := fun W hW => (pb W hW).2.1
      have pb2 := fun W hW => (pb W hW).2.2
      clear pa pb
      go_wp2_with fail
      refine wp_region_fl (LaterT w2.heap.size 31) (FreshT w2.heap.size 31 3) [4, 5] ordMg 40 (by kernel_rfl) (by kernel_rfl) (laterT_refl _ _) (laterT_trans _ _) (floats_of #[.slice none 0 0, .slice none 0 0, .slice none 0 0] rfl (Nat.le_refl _) (fun j hj => ?_) (fun i j hi hj hne => ?_)) ?_
      · have hj' : j = 4 ∨ j = 5 := by simpa using hj
        rcases hj' with rfl | rfl
        · exact ⟨_, rfl, rfl, fun a W => by go_simp⟩
        · exact ⟨_, rfl, rfl, fun a W => by go_simp⟩
      · have hi' : i = 4 ∨ i = 5 := by simpa using hi
        have hj' : j = 4 ∨ j = 5 := by simpa using hj
        rcases hi' with rfl | rfl <;> rcases hj' with rfl | rfl
        · exact absurd rfl hne
        · intro d hd hd2
          rw [← hd2] at hd
          exact absurd hd (by decide)
        · intro d hd hd2
          rw [← hd2] at hd
          exact absurd hd (by decide)
        · exact absurd rfl hne
      unfold ordMg
      repeat (refine canF_yes (v := ?_) rfl (wanted_none rfl) (fun w' hC => ?_) (fun K hK => ?_); rotate_left; (focus (go_simp; (try simp (disch := omega) only [IntWalk.i64_in]); first | done | exact rfl)); go_simp; (try simp (disch := omega) only [IntWalk.i64_in]); refine hK _ ?_; clear hK K)
      refine canF_go rfl rfl (fun Wa hWa KK hK => ?_)
      go_simp
      have hG := given_own Wa _ (.agg #[.slice a1a a.seen.length p1a, .slice a2a a.items.length p2a, .slice a3a a.gone.length p3a]) a ⟨_, _, _, rfl, (HR.out Wa (HL.out Wa hWa).1).2.2.2.1⟩ (by have := Hsa.out.seen; omega) (by have := Hsa.out.items; omega) (by have := Hsa.out.gone; omega)
      refine hG.mono ?_
      rintro e w3 ⟨v3, rfl, hx3, -, hb3⟩
      refine ⟨_, rfl, LaterT.of_later hb3, hK _ _ ?_⟩
      have hl3 : LaterT w2.heap.size 31 w2.drew w3 := laterT_trans _ _ _ _ _ hWa (LaterT.of_later hb3)
      obtain ⟨t1, t2, t3, rfl, hx3o⟩ := OwnV.of_rowsT hx3
      clear hx3
      clear hK KK hG pa0 pa1 pa2 pb0 pb1 pb2
      go_simp
      refine canF_go rfl rfl (fun Wb hWb KK hK => ?_)
      go_simp
      have hlb : LaterT w2.heap.size 31 w2.drew Wb := laterT_trans _ _ _ _ _ hl3 hWb
      have hG := given_own Wb _ (.agg #[.slice a1b b.seen.length p1b, .slice a2b b.items.length p2b, .slice a3b b.gone.length p3b]) b ⟨_, _, _, rfl, (HR.out Wb (HL.out Wb hlb).1).2.2.2.2⟩ (by have := Hsb.out.seen; omega) (by have := Hsb.out.items; omega) (by have := Hsb.out.gone; omega)
      refine hG.mono ?_
      rintro e w4 ⟨v4, rfl, hy4, -, hb4⟩
      refine ⟨_, rfl, LaterT.of_later hb4, hK _ _ ?_⟩
      have hl4 : LaterT w2.heap.size 31 w2.drew w4 := laterT_trans _ _ _ _ _ hlb (LaterT.of_later hb4)
      obtain ⟨u1, u2, u3, rfl, hy4o⟩ := OwnV.of_rowsT hy4
      clear hy4
      have hy4 := hy4o
      clear hy4o
      have hx4 := (hx3o.laterT hWb).laterT (LaterT.of_later (B0 := w2.heap.size) hb4)
      replace hx4 := hx4.mono (base' := w2.heap.size) hWa.size
      replace hy4 := hy4.mono (base' := w2.heap.size) hlb.size
      clear hK KK hG hx3o hb3 hb4 hWa hl3 hWb hlb
      go_simp
      refine canF_float rfl (fun vO Wd hWd hZ hU KK hK => ?_)
      obtain ⟨O, LO, rfl, hO1, hO2, hO3⟩ := hZ
      refine hK _ _ ?_
      clear hK KK hU
      go_simp
      refine canF_float rfl (fun vO Wc hWc hZ hU KK hK => ?_)
      obtain ⟨O', LO', rfl, hO1', hO2', hO3'⟩ := hZ
      obtain ⟨LO1, hO2c, hO3c⟩ := hWc.typed O _ hO1 hO2
      have hne : O' ≠ O := fun e => hU (by rw [e]; exact List.mem_cons_self)
      refine hK _ _ ?_
      clear hK KK hU
      go_simp
      obtain ⟨x0, x1, x2, rfl⟩ : ∃ x0 x1 x2, LO1 = [x0, x1, x2] := by
        rw [hO3] at hO3c
        match LO1, hO3c with
        | [x0, x1, x2], _ => exact ⟨x0, x1, x2, rfl⟩
      obtain ⟨y0, y1, y2, rfl⟩ : ∃ y0 y1 y2, LO' = [y0, y1, y2] := by
        match LO', hO3' with
        | [y0, y1, y2], _ => exact ⟨y0, y1, y2, rfl⟩
      obtain ⟨b1, e1, rfl⟩ := own_shape hx4.seen
      obtain ⟨b2, e2, rfl⟩ := own_shape hx4.items
      obtain ⟨b3, e3, rfl⟩ := own_shape hx4.gone
      obtain ⟨g1, f1, rfl⟩ := own_shape hy4.seen
      obtain ⟨g2, f2, rfl⟩ := own_shape hy4.items
      obtain ⟨g3, f3, rfl⟩ := own_shape hy4.gone
      have hlc : LaterT w2.heap.size 31 w2.drew Wc := laterT_trans _ _ _ _ _ hl4 (laterT_trans _ _ _ _ _ hWd hWc)
      have hxc := (hx4.laterT hWd).laterT hWc
      have hyc := (hy4.laterT hWd).laterT hWc
      obtain ⟨w8, hw8, hblk8, hb8⟩ := fin3 hO2c (HL.out Wc hlc).2 hO1 (.slice b1 a.seen.length e1) (.slice b2 a.items.length e2) (.slice b3 a.gone.length e3)
      have hl8 : LaterT w2.heap.size 31 Wc w8 := by
        rw [hw8]
        exact laterT_trans _ _ _ _ _ (laterT_trans _ _ _ _ _ (LaterT.set hO2c hO1 0 _) (LaterT.set (hO2c.set 0 _) hO1 1 _)) (LaterT.set ((hO2c.set 0 _).set 1 _) hO1 2 _)
      have hO28 : Blk w8 O' [y0, y1, y2] 31 := by
        rw [hw8]
        exact ((hO2'.set_other _ hne).set_other _ hne).set_other _ hne
      obtain ⟨w9, hw9, hblk9, hb9⟩ := fin3 hO28 hb8 hO1' (.slice g1 b.seen.length f1) (.slice g2 b.items.length f2) (.slice g3 b.gone.length f3)
      have hl9 : LaterT w2.heap.size 31 w8 w9 := by
        rw [hw9]
        exact laterT_trans _ _ _ _ _ (laterT_trans _ _ _ _ _ (LaterT.set hO28 hO1' 0 _) (LaterT.set (hO28.set 0 _) hO1' 1 _)) (LaterT.set ((hO28.set 0 _).set 1 _) hO1' 2 _)
      have hblk89 : Blk w9 O [.slice b1 a.seen.length e1, .slice b2 a.items.length e2, .slice b3 a.gone.length e3] 31 := by
        rw [hw9]
        exact ((hblk8.set_other _ hne.symm).set_other _ hne.symm).set_other _ hne.symm
      have HX9 := Lib.hid ((hxc.laterT hl8).laterT hl9); have HY9 := Lib.hid ((hyc.laterT hl8).laterT hl9)
      have Hl8 := Lib.hid hl8; have Hl9 := Lib.hid hl9; have Hw8 := Lib.hid hw8; have Hw9 := Lib.hid hw9; have HO := Lib.hid hblk89; have HO' := Lib.hid hblk9; have Hb9 := Lib.hid hb9
      have z0 := hO2c.free 0; have z1 := hO2c.free 1; have z2 := hO2c.free 2
      have z3 := hO28.free 0; have z4 := hO28.free 1; have z5 := hO28.free 2
      obtain ⟨q0, q1, q2⟩ := cell3 hO2c
      obtain ⟨q3, q4, q5⟩ := cell3 hO28
      clear hl8 hl9 hw8 hw9 hblk8 hblk9 hblk89 hb8 hb9 hO28 hO2c hO2' hO2 hxc hyc hx4 hy4 hl4 hlc hWc hWd hO3 hO3' hO3c hne
      refine canF_fixed rfl rfl (fun KK hK => ?_)
      go_simp
      rw [← Hw8.out]
      refine ⟨Hl8.out, hK _ _ ?_⟩
      clear hK KK q0 q1 q2 z0 z1 z2
      go_simp
      refine canF_fixed rfl rfl (fun KK hK => ?_)
      go_simp
      rw [← Hw9.out]
      refine ⟨Hl9.out, hK _ _ ?_⟩
      clear hK KK q3 q4 q5 z3 z4 z5 Hl8 Hl9 Hw8 Hw9
      go_simp
      refine canF_nil ?_
      have HS := Lib.hid (show ∀ W, Below w9.heap.size w9 W → Below wxb.heap.size wxb W ∧ Blk W O [.slice b1 a.seen.length e1, .slice b2 a.items.length e2, .slice b3 a.gone.length e3] 31 ∧ Blk W O' [.slice g1 b.seen.length f1, .slice g2 b.items.length f2, .slice g3 b.gone.length f3] 31 ∧ MapIn (fun q => w2.heap.size ≤ q) W (.slice b1 a.seen.length e1) (.slice b2 a.items.length e2) (.slice b3 a.gone.length e3) a ∧ MapIn (fun q => w2.heap.size ≤ q) W (.slice g1 b.seen.length f1) (.slice g2 b.items.length f2) (.slice g3 b.gone.length f3) b from fun W hW => by
        have h1 : Below w2.heap.size w2 W := Hb9.out.trans (hW.mono Hb9.out.size)
        exact ⟨HL2.out.trans (h1.mono HL2.out.size), HO.out.keep (hW.block _ HO.out.lt), HO'.out.keep (hW.block _ HO'.out.lt), (HX9.out.below hW).map HBa.out, (HY9.out.below hW).map HBb.out⟩)
      have HTw := Lib.hid (fun W hW => HTb.out W (HR.out W (HS.out W hW).1).1)
      have hr9 := Below.refl w9.heap.size w9
      have hU := pmerge_any w9 (HTw.out w9 hr9).1 (HTw.out w9 hr9).2 _ _ (.agg #[.slice b1 a.seen.length e1, .slice b2 a.items.length e2, .slice b3 a.gone.length e3]) (.agg #[.slice g1 b.seen.length f1, .slice g2 b.items.length f2, .slice g3 b.gone.length f3]) a b ⟨_, _, _, rfl, (HS.out w9 hr9).2.2.2.1⟩ ⟨_, _, _, rfl, (HS.out w9 hr9).2.2.2.2⟩ HkaI.out HkaG.out HkbI.out HkbG.out
      generalize hmr : mergeR a b = mr at hU
      have HU := Lib.hid hU; have Hmr := Lib.hid hmr
      have HSr := Lib.hid (show SmallM mr.1 by rw [← hmr]; exact mergeR_small _ _)
      obtain ⟨c0, c1, c2⟩ := cell3 HO.out
      obtain ⟨d0, d1, d2⟩ := cell3 HO'.out
      clear hU hmr hr9
      go_wp2_with fail
      refine HU.out.mono ?_
      rintro e w10 ⟨⟨r1, rfl, ho, hbd⟩, hb10⟩
      obtain ⟨s1, s2, s3, rfl, ho⟩ := ho
      obtain ⟨n1, m1, rfl⟩ := own_shape ho.seen
      obtain ⟨n2, m2, rfl⟩ := own_shape ho.items
      obtain ⟨n3, m3, rfl⟩ := own_shape ho.gone
      obtain ⟨w11, hw11⟩ : ∃ w11, w11 = w10.alloc (.cells #[.slice n1 mr.1.seen.length m1, .slice n2 mr.1.items.length m2, .slice n3 mr.1.gone.length m3] 31) := ⟨_, rfl⟩
      have hk11 : Below w10.heap.size w10 w11 := by rw [hw11]; exact kept_alloc _ _
      have hn11 : Blk w11 w10.heap.size [.slice n1 mr.1.seen.length m1, .slice n2 mr.1.items.length m2, .slice n3 mr.1.gone.length m3] 31 := by rw [hw11]; exact Blk.new _ _ _
      have hb11 : Below w9.heap.size w9 w11 := hb10.trans (hk11.mono hb10.size)
      have Ho11 := Lib.hid (ho.below hk11); have Hn11 := Lib.hid hn11; have Hb11 := Lib.hid hb11; have Hbd := Lib.hid hbd; have Hw11 := Lib.hid hw11
      obtain ⟨hw0, ka, kb, hMa, hMb⟩ := HR.out w11 (HS.out w11 hb11).1
      have hRf := rmerge_any w11 _ _ (.agg #[.slice a1a a.seen.length p1a, .slice a2a a.items.length p2a, .slice a3a a.gone.length p3a]) (.agg #[.slice a1b b.seen.length p1b, .slice a2b b.items.length p2b, .slice a3b b.gone.length p3b]) a b ⟨_, _, _, rfl, hMa⟩ ⟨_, _, _, rfl, hMb⟩ (fun x hx => by have := HkaI.out x hx; omega) (fun x hx => by have := HkaG.out x hx; omega) (fun x hx => by have := HkbI.out x hx; omega) (fun x hx => by have := HkbG.out x hx; omega)
      rw [Hmr.out] at hRf
      have HRu := Lib.hid hRf
      clear c0 c1 c2 d0 d1 d2 HU
      obtain ⟨c0, c1, c2⟩ := cell3 ka
      obtain ⟨d0, d1, d2⟩ := cell3 kb
      rw [hw11] at c0 c1 c2 d0 d1 d2
      clear hRf hw0 ka kb hMa hMb hw11 hk11 hn11 hb11 hbd ho hb10
      go_wp2_with fail
      rw [← Hw11.out]
      refine HRu.out.mono ?_
      rintro e w12 ⟨r2, rfl, hd, hb12⟩
      clear HRu c0 c1 c2 d0 d1 d2
      obtain ⟨s1d, s2d, s3d, rfl, hd⟩ := hd
      obtain ⟨a1d, p1d, rfl, -⟩ := hd.seen.shape
      obtain ⟨a2d, p2d, rfl, -⟩ := hd.items.shape
      obtain ⟨a3d, p3d, rfl, -⟩ := hd.gone.shape
      obtain ⟨wxd, hwxd⟩ : ∃ wx, wx = w12.alloc (.cells #[.slice a1d mr.1.seen.length p1d, .slice a2d mr.1.items.length p2d, .slice a3d mr.1.gone.length p3d] 26) := ⟨_, rfl⟩
      have hbxd : Below w12.heap.size w12 wxd := by rw [hwxd]; exact kept_alloc _ _
      have hzxd : wxd.heap.size = w12.heap.size + 1 := by rw [hwxd]; simp
      have hxd := hd.keep (w' := wxd) fun b _ hlt => hbxd.block b hlt
      have hnxd : Blk wxd w12.heap.size [.slice a1d mr.1.seen.length p1d, .slice a2d mr.1.items.length p2d, .slice a3d mr.1.gone.length p3d] 26 := by rw [hwxd]; exact Blk.new _ _ _
      have Hxd := Lib.hid hxd
      have Hwxd := Lib.hid hwxd; have Hbxd := Lib.hid hbxd; have Hzxd := Lib.hid hzxd
      have Hnxd := Lib.hid hnxd
      clear hxd hwxd hbxd hnxd hzxd hd
      have hbx : Below w11.heap.size w11 wxd := hb12.trans (Hbxd.out.mono hb12.size)
      have hOx := Hn11.out.keep (hbx.block _ Hn11.out.lt)
      have hox := Ho11.out.below hbx
      have HSm := Lib.hid (same_any wxd _ _ _ _ mr.1 mr.1 ⟨_, _, _, rfl, hox.map Hbd.out⟩ ⟨_, _, _, rfl, Hxd.out⟩ HSr.out.1 HSr.out.2.1 HSr.out.2.2)
      obtain ⟨c0, c1, c2⟩ := cell3 hOx
      obtain ⟨d0, d1, d2⟩ := cell3 Hnxd.out
      have HOx := Lib.hid hOx; have Hox := Lib.hid hox
      have Hbx := Lib.hid (show Below w9.heap.size w9 wxd from Hb11.out.trans (hbx.mono Hb11.out.size))
      generalize mr.2 = er
      rw [Hwxd.out] at c0 c1 c2 d0 d1 d2
      clear hOx hox hbx hb12
      go_wp2_with fail
      rw [← Hwxd.out]
      refine HSm.out.mono ?_
      rintro e w13 ⟨r, rfl, hr, hb13⟩
      obtain rfl : r = true := hr.2 rfl
      have hOs := HOx.out.keep (hb13.block _ HOx.out.lt)
      have hos := Hox.out.below hb13
      have Hb13 := Lib.hid (show Below w9.heap.size w9 w13 from Hbx.out.trans (hb13.mono Hbx.out.size))
      have HSp := Lib.hid (spoil_any w13 w9.heap.size (.agg #[.slice n1 mr.1.seen.length m1, .slice n2 mr.1.items.length m2, .slice n3 mr.1.gone.length m3]) mr.1 ⟨_, _, _, rfl, hos⟩ Hb13.out.size HSr.out.1 HSr.out.2.1 HSr.out.2.2)
      clear c0 c1 c2 d0 d1 d2 HSm hr hb13
      obtain ⟨c0, c1, c2⟩ := cell3 hOs
      clear hOs hos
      go_wp2_with fail
      refine HSp.out.mono ?_
      rintro e w14 ⟨rfl, hb14⟩
      have hb14' : Below w9.heap.size w9 w14 := Hb13.out.trans hb14
      clear c0 c1 c2 HSp hb14
      have Hb14 := Lib.hid hb14'
      obtain ⟨hwx, kO, kO', hIn, hIn'⟩ := HS.out w14 hb14'
      obtain ⟨hw0, ka, kb, hMa, hMb⟩ := HR.out w14 hwx
      have HSa := Lib.hid (same_any w14 _ _ _ _ a a ⟨_, _, _, rfl, hIn⟩ ⟨_, _, _, rfl, hMa⟩ (by have := Hsa.out.seen; omega) (by have := Hsa.out.items; omega) (by have := Hsa.out.gone; omega))
      obtain ⟨c0, c1, c2⟩ := cell3 ka
      obtain ⟨d0, d1, d2⟩ := cell3 kO
      clear hwx hb14' kO kO' hIn hIn' hw0 ka kb hMa hMb
      go_wp2_with fail
      refine HSa.out.mono ?_
      rintro e w15 ⟨r, rfl, hr, hb15⟩
      obtain rfl : r = true := hr.2 rfl
      have hb15' : Below w9.heap.size w9 w15 := Hb14.out.trans (hb15.mono Hb14.out.size)
      clear c0 c1 c2 d0 d1 d2 HSa hr hb15
      have Hb15 := Lib.hid hb15'
      obtain ⟨hwx, kO, kO', hIn, hIn'⟩ := HS.out w15 hb15'
      obtain ⟨hw0, ka, kb, hMa, hMb⟩ := HR.out w15 hwx
      have HSb := Lib.hid (same_any w15 _ _ _ _ b b ⟨_, _, _, rfl, hIn'⟩ ⟨_, _, _, rfl, hMb⟩ (by have := Hsb.out.seen; omega) (by have := Hsb.out.items; omega) (by have := Hsb.out.gone; omega))
      obtain ⟨c0, c1, c2⟩ := cell3 kb
      obtain ⟨d0, d1, d2⟩ := cell3 kO'
      clear hwx hb15' kO kO' hIn hIn' hw0 ka kb hMa hMb
      go_wp2_with fail
      refine HSb.out.mono ?_
      rintro e w16 ⟨r, rfl, hr, hb16⟩
      obtain rfl : r = true := hr.2 rfl
      have hb16' : Below w9.heap.size w9 w16 := Hb15.out.trans (hb16.mono Hb15.out.size)
      clear c0 c1 c2 d0 d1 d2 HSb hr hb16
      have Hb16 := Lib.hid (HR.out w16 (HS.out w16 hb16').1).1
      have HW := Lib.hid (works_any w16 (HTb.out _ Hb16.out).1 (HTb.out _ Hb16.out).2)
      clear hb16'
      go_wp2_with fail
      refine HW.out.mono ?_
      rintro e w17 ⟨rfl, hb17⟩
      clear HW
      go_wp2_with fail
      go_ret
      exact ⟨rfl, Hb16.out.trans (hb17.mono Hb16.out.size)⟩
end Go.Proofs.YtbjkkmabafaogaaGreatDoor
