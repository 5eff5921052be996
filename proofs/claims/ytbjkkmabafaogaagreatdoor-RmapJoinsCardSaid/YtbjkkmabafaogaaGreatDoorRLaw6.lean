/- The law RmapJoins. -/
import Derived.Test.YtbjkkmabafaogaaGreatDoorRMB
namespace Go.Proofs.YtbjkkmabafaogaaGreatDoor
open Go.RowKit Go.Lib
set_option linter.unusedVariables false
set_option maxRecDepth 20000
attribute [local go_sem ↓] seal_append
attribute [local go_sem] opC upC

def ordJn : List FStep := [.steady 0, .steady 2, .steady 4, .move 1, .move 3, .move 5, .float 6, .float 7, .float 8, .fixed 9, .fixed 10, .fixed 11]
set_option maxRecDepth 100000 in
set_option maxHeartbeats 8000000 in
theorem RmapJoins_walk (va vb vc : Value) (w : World) (hva : IsRMap w va) (hvb : IsRMap w vb) (hvc : IsRMap w vc) (hq : Tabs w ∧ 3 ≤ w.heap.size) :
    Calls Tryz.prog 8 #[va, vb, vc] w fun e w' => e = .returned (.bool true) ∧ Below w.heap.size w w' := by
  obtain ⟨a, ha⟩ := hva
  obtain ⟨b, hb⟩ := hvb
  obtain ⟨c, hc⟩ := hvc
  have HTb := Lib.hid (show ∀ w', Below w.heap.size w w' → Tabs w' ∧ 3 ≤ w'.heap.size from fun w' hb => ⟨tabs_below hq.1 hq.2 hb, Nat.le_trans hq.2 hb.size⟩)
  clear hq
  replace ha := ha.mono (G := fun q => q < w.heap.size) fun q _ hlt => hlt
  replace hb := hb.mono (G := fun q => q < w.heap.size) fun q _ hlt => hlt
  replace hc := hc.mono (G := fun q => q < w.heap.size) fun q _ hlt => hlt
  obtain ⟨s1a, s2a, s3a, rfl, ha⟩ := ha
  obtain ⟨a1a, p1a, rfl, -⟩ := ha.seen.shape
  obtain ⟨a2a, p2a, rfl, -⟩ := ha.items.shape
  obtain ⟨a3a, p3a, rfl, -⟩ := ha.gone.shape
  obtain ⟨wxa, hwxa⟩ : ∃ wx, wx = w.alloc (.cells #[.slice a1a a.seen.length p1a, .slice a2a a.items.length p2a, .slice a3a a.gone.length p3a] 26) := ⟨_, rfl⟩
  have hbxa : Below w.heap.size w wxa := by rw [hwxa]; exact kept_alloc _ _
  have hzxa : wxa.heap.size = w.heap.size + 1 := by rw [hwxa]; simp
  have hxa := ha.keep (w' := wxa) fun b _ hlt => hbxa.block b hlt
  have hnxa : Blk wxa w.heap.size [.slice a1a a.seen.length p1a, .slice a2a a.items.length p2a, .slice a3a a.gone.length p3a] 26 := by rw [hwxa]; exact Blk.new _ _ _
  have Hxa := Lib.hid hxa
  have Hwxa := Lib.hid hwxa; have Hbxa := Lib.hid hbxa; have Hzxa := Lib.hid hzxa
  have Hnxa := Lib.hid hnxa
  clear hxa hwxa hbxa hnxa hzxa ha
  replace hb : MapV (fun q => q < w.heap.size) wxa vb b := hb.keep (w' := wxa) fun q _ hlt => Hbxa.out.block q hlt
  replace hc : MapV (fun q => q < w.heap.size) wxa vc c := hc.keep (w' := wxa) fun q _ hlt => Hbxa.out.block q hlt
  obtain ⟨s1b, s2b, s3b, rfl, hb⟩ := hb
  obtain ⟨a1b, p1b, rfl, -⟩ := hb.seen.shape
  obtain ⟨a2b, p2b, rfl, -⟩ := hb.items.shape
  obtain ⟨a3b, p3b, rfl, -⟩ := hb.gone.shape
  obtain ⟨wxb, hwxb⟩ : ∃ wx, wx = wxa.alloc (.cells #[.slice a1b b.seen.length p1b, .slice a2b b.items.length p2b, .slice a3b b.gone.length p3b] 26) := ⟨_, rfl⟩
  have hbxb : Below wxa.heap.size wxa wxb := by rw [hwxb]; exact kept_alloc _ _
  have hzxb : wxb.heap.size = wxa.heap.size + 1 := by rw [hwxb]; simp
  have hxb := hb.keep (w' := wxb) fun b _ hlt => hbxb.block b hlt
  have hnxb : Blk wxb wxa.heap.size [.slice a1b b.seen.length p1b, .slice a2b b.items.length p2b, .slice a3b b.gone.length p3b] 26 := by rw [hwxb]; exact Blk.new _ _ _
  have Hxb := Lib.hid hxb
  have Hwxb := Lib.hid hwxb; have Hbxb := Lib.hid hbxb; have Hzxb := Lib.hid hzxb
  have Hnxb := Lib.hid hnxb
  clear hxb hwxb hbxb hnxb hzxb hb
  replace hc : MapV (fun q => q < w.heap.size) wxb vc c := hc.keep (w' := wxb) fun q _ hlt => Hbxb.out.block q hlt
  obtain ⟨s1c, s2c, s3c, rfl, hc⟩ := hc
  obtain ⟨a1c, p1c, rfl, -⟩ := hc.seen.shape
  obtain ⟨a2c, p2c, rfl, -⟩ := hc.items.shape
  obtain ⟨a3c, p3c, rfl, -⟩ := hc.gone.shape
  obtain ⟨wxc, hwxc⟩ : ∃ wx, wx = wxb.alloc (.cells #[.slice a1c c.seen.length p1c, .slice a2c c.items.length p2c, .slice a3c c.gone.length p3c] 26) := ⟨_, rfl⟩
  have hbxc : Below wxb.heap.size wxb wxc := by rw [hwxc]; exact kept_alloc _ _
  have hzxc : wxc.heap.size = wxb.heap.size + 1 := by rw [hwxc]; simp
  have hxc := hc.keep (w' := wxc) fun b _ hlt => hbxc.block b hlt
  have hnxc : Blk wxc wxb.heap.size [.slice a1c c.seen.length p1c, .slice a2c c.items.length p2c, .slice a3c c.gone.length p3c] 26 := by rw [hwxc]; exact Blk.new _ _ _
  have Hxc := Lib.hid hxc
  have Hwxc := Lib.hid hwxc; have Hbxc := Lib.hid hbxc; have Hzxc := Lib.hid hzxc
  have Hnxc := Lib.hid hnxc
  clear hxc hwxc hbxc hnxc hzxc hc
  have hbb : Below w.heap.size w wxb := Hbxa.out.trans (Hbxb.out.mono Hbxa.out.size)
  have hbc : Below w.heap.size w wxc := hbb.trans (Hbxc.out.mono hbb.size)
  have hzb : wxb.heap.size = w.heap.size + 1 + 1 := by rw [Hzxb.out, Hzxa.out]
  have ka : Blk wxc w.heap.size [.slice a1a a.seen.length p1a, .slice a2a a.items.length p2a, .slice a3a a.gone.length p3a] 26 := (Hnxa.out.keep (Hbxb.out.block _ Hnxa.out.lt)).keep (Hbxc.out.block _ (by have := Hnxa.out.lt; have := Hbxb.out.size; omega))
  have kb : Blk wxc (w.heap.size + 1) [.slice a1b b.seen.length p1b, .slice a2b b.items.length p2b, .slice a3b b.gone.length p3b] 26 := by
    have := Hnxb.out.keep (Hbxc.out.block _ Hnxb.out.lt)
    rw [Hzxa.out] at this
    exact this
  have kc : Blk wxc (w.heap.size + 1 + 1) [.slice a1c c.seen.length p1c, .slice a2c c.items.length p2c, .slice a3c c.gone.length p3c] 26 := by
    have := Hnxc.out
    rw [hzb] at this
    exact this
  have hMa := Hxa.out
  have hMb := Hxb.out
  have hMc := Hxc.out
  obtain ⟨wx0, hx0⟩ : ∃ wx0, wx0 = wxc := ⟨_, rfl⟩
  have HR := Lib.hid (show ∀ W, Below wx0.heap.size wx0 W → Below w.heap.size w W ∧ Blk W w.heap.size [.slice a1a a.seen.length p1a, .slice a2a a.items.length p2a, .slice a3a a.gone.length p3a] 26 ∧ Blk W (w.heap.size + 1) [.slice a1b b.seen.length p1b, .slice a2b b.items.length p2b, .slice a3b b.gone.length p3b] 26 ∧ Blk W (w.heap.size + 1 + 1) [.slice a1c c.seen.length p1c, .slice a2c c.items.length p2c, .slice a3c c.gone.length p3c] 26 ∧ MapIn (fun q => q < w.heap.size) W (.slice a1a a.seen.length p1a) (.slice a2a a.items.length p2a) (.slice a3a a.gone.length p3a) a ∧ MapIn (fun q => q < w.heap.size) W (.slice a1b b.seen.length p1b) (.slice a2b b.items.length p2b) (.slice a3b b.gone.length p3b) b ∧ MapIn (fun q => q < w.heap.size) W (.slice a1c c.seen.length p1c) (.slice a2c c.items.length p2c) (.slice a3c c.gone.length p3c) c from fun W hW => by
    rw [hx0] at hW
    have hB : Below w.heap.size w W := hbc.trans (hW.mono hbc.size)
    exact ⟨hB, ka.keep (hW.block _ ka.lt), kb.keep (hW.block _ kb.lt), kc.keep (hW.block _ kc.lt), hMa.keep (w' := W) fun q hq _ => (hB.block q hq).trans (Hbxa.out.block q hq).symm, hMb.keep (w' := W) fun q hq _ => (hB.block q hq).trans (hbb.block q hq).symm, hMc.keep (w' := W) fun q hq _ => (hB.block q hq).trans (hbc.block q hq).symm⟩)
  have h0r := Below.refl wx0.heap.size wx0
  have HFa := Lib.hid (few_any wx0 _ _ a ⟨_, _, _, rfl, (HR.out wx0 h0r).2.2.2.2.1⟩)
  obtain ⟨c0, c1, c2⟩ := cell3 (HR.out wx0 h0r).2.1
  have HBa := Lib.hid hMa.bnd; have HBb := Lib.hid hMb.bnd; have HBc := Lib.hid hMc.bnd
  have Hx0 := Lib.hid hx0
  clear hbb hbc hzb ka kb kc hMa hMb hMc h0r hx0
  go_enter Tryz.func8, Tryz.ntmps8
  go_wp2_with fail
  rw [← Hwxa.out, ← Hwxb.out, ← Hwxc.out, ← Hx0.out]
  refine HFa.out.mono ?_
  rintro e w1 ⟨r, rfl, hsa, hbfa⟩
  clear HFa c0 c1 c2
  have hLa : Below wx0.heap.size wx0 w1 := hbfa
  clear hbfa
  cases r with
  | false =>
    have Hb1 := Lib.hid (HR.out w1 hLa).1
    clear hLa hsa
    go_wp2_with fail
    go_ret
    exact ⟨rfl, Hb1.out⟩
  | true =>
    have Hsa := Lib.hid (hsa rfl); have HLa := Lib.hid hLa
    clear hsa hLa
    have HFb := Lib.hid (few_any w1 _ _ b ⟨_, _, _, rfl, (HR.out w1 HLa.out).2.2.2.2.2.1⟩)
    obtain ⟨c0, c1, c2⟩ := cell3 (HR.out w1 HLa.out).2.2.1
    go_wp2_with fail
    refine HFb.out.mono ?_
    rintro e w2 ⟨r, rfl, hsb, hbfb⟩
    clear HFb c0 c1 c2
    have hLb : Below wx0.heap.size wx0 w2 := HLa.out.trans (hbfb.mono HLa.out.size)
    clear hbfb
    cases r with
    | false =>
      have Hb1 := Lib.hid (HR.out w2 hLb).1
      clear hLb hsb
      go_wp2_with fail
      go_ret
      exact ⟨rfl, Hb1.out⟩
    | true =>
      have Hsb := Lib.hid (hsb rfl); have HLb := Lib.hid hLb
      clear hsb hLb
      have HFc := Lib.hid (few_any w2 _ _ c ⟨_, _, _, rfl, (HR.out w2 HLb.out).2.2.2.2.2.2⟩)
      obtain ⟨c0, c1, c2⟩ := cell3 (HR.out w2 HLb.out).2.2.2.1
      go_wp2_with fail
      refine HFc.out.mono ?_
      rintro e w3 ⟨r, rfl, hsc, hbfc⟩
      clear HFc c0 c1 c2
      have hLc : Below wx0.heap.size wx0 w3 := HLb.out.trans (hbfc.mono HLb.out.size)
      clear hbfc
      cases r with
      | false =>
        have Hb1 := Lib.hid (HR.out w3 hLc).1
        clear hLc hsc
        go_wp2_with fail
        go_ret
        exact ⟨rfl, Hb1.out⟩
      | true =>
        have Hsc := Lib.hid (hsc rfl); have HLc := Lib.hid hLc
        clear hsc hLc
        have H0 := Lib.hid (show Below w3.heap.size w3 w3.drew from (Below.refl _ _).drew)
        have HL := Lib.hid (show ∀ W, LaterT w3.heap.size 31 w3.drew W → Below wx0.heap.size wx0 W ∧ Below w3.heap.size w3 W from fun W hW => ⟨HLc.out.trans ((H0.out.trans (hW.below (Nat.le_refl _))).mono HLc.out.size), H0.out.trans (hW.below (Nat.le_refl _))⟩)
        have pa := fun W hW => cell3 (HR.out W (HL.out W hW).1).2.1
        have pb := fun W hW => cell3 (HR.out W (HL.out W hW).1).2.2.1
        have pc := fun W hW => cell3 (HR.out W (HL.out W hW).1).2.2.2.1
        have pa0 := fun W hW => (pa W hW).1
        have pa1 := fun W hW => (pa W hW).2.1
        have pa2 := fun W hW => (pa W hW).2.2
        have pb0 := fun W hW => (pb W hW).1
        have pb1 := fun W hW => (pb W hW).2.1
        have pb2 := fun W hW => (pb W hW).2.2
        have pc0 := fun W hW => (pc W hW).1
        have pc1 := fun W hW => (pc W hW).2.1
        have pc2 := fun W hW => (pc W hW).2.2
        clear pa pb pc
        go_wp2_with fail
        refine wp_region_fl (LaterT w3.heap.size 31) (FreshT w3.heap.size 31 3) [6, 7, 8] ordJn 60 (by kernel_rfl) (by kernel_rfl) (laterT_refl _ _) (laterT_trans _ _) (floats_of #[.slice none 0 0, .slice none 0 0, .slice none 0 0] rfl (Nat.le_refl _) (fun j hj => ?_) (fun i j hi hj hne => ?_)) ?_
        · have hj' : j = 6 ∨ j = 7 ∨ j = 8 := by simpa using hj
          rcases hj' with rfl | rfl | rfl
          · exact ⟨_, rfl, rfl, fun a W => by go_simp⟩
          · exact ⟨_, rfl, rfl, fun a W => by go_simp⟩
          · exact ⟨_, rfl, rfl, fun a W => by go_simp⟩
        · have hi' : i = 6 ∨ i = 7 ∨ i = 8 := by simpa using hi
          have hj' : j = 6 ∨ j = 7 ∨ j = 8 := by simpa using hj
          intro d hd hd2
          rw [← hd2] at hd
          rcases hi' with rfl | rfl | rfl <;> rcases hj' with rfl | rfl | rfl <;> first | exact hne rfl | exact absurd hd (by decide)
        unfold ordJn
        repeat (refine canF_yes (v := ?_) rfl (wanted_none rfl) (fun w' hC => ?_) (fun K hK => ?_); rotate_left; (focus (go_simp; (try simp (disch := omega) only [IntWalk.i64_in]); first | done | exact rfl)); go_simp; (try simp (disch := omega) only [IntWalk.i64_in]); refine hK _ ?_; clear hK K)
        refine canF_go rfl rfl (fun Wa hWa KK hK => ?_)
        go_simp
        have hla : LaterT w3.heap.size 31 w3.drew Wa := id hWa
        have hG := given_own Wa _ (.agg #[.slice a1a a.seen.length p1a, .slice a2a a.items.length p2a, .slice a3a a.gone.length p3a]) a ⟨_, _, _, rfl, (HR.out Wa (HL.out Wa hla).1).2.2.2.2.1⟩ (by have := Hsa.out.seen; omega) (by have := Hsa.out.items; omega) (by have := Hsa.out.gone; omega)
        refine hG.mono ?_
        rintro e wa ⟨vq, rfl, hxa, -, hb⟩
        refine ⟨_, rfl, LaterT.of_later hb, hK _ _ ?_⟩
        have hlwa : LaterT w3.heap.size 31 w3.drew wa := laterT_trans _ _ _ _ _ hla (LaterT.of_later hb)
        have hswa : w3.heap.size ≤ Wa.heap.size := hla.size
        obtain ⟨t1a, t2a, t3a, rfl, hxo⟩ := OwnV.of_rowsT hxa
        clear hxa
        have hxa := hxo
        clear hxo
        replace hxa := hxa.mono hswa
        clear hK KK hG hswa
        go_simp
        clear hWa hb hla
        refine canF_go rfl rfl (fun Wb hWa KK hK => ?_)
        go_simp
        have hla : LaterT w3.heap.size 31 w3.drew Wb := laterT_trans _ _ _ _ _ hlwa hWa
        have hG := given_own Wb _ (.agg #[.slice a1b b.seen.length p1b, .slice a2b b.items.length p2b, .slice a3b b.gone.length p3b]) b ⟨_, _, _, rfl, (HR.out Wb (HL.out Wb hla).1).2.2.2.2.2.1⟩ (by have := Hsb.out.seen; omega) (by have := Hsb.out.items; omega) (by have := Hsb.out.gone; omega)
        refine hG.mono ?_
        rintro e wb ⟨vq, rfl, hxb, -, hb⟩
        refine ⟨_, rfl, LaterT.of_later hb, hK _ _ ?_⟩
        have hlwb : LaterT w3.heap.size 31 w3.drew wb := laterT_trans _ _ _ _ _ hla (LaterT.of_later hb)
        have hswb : w3.heap.size ≤ Wb.heap.size := hla.size
        obtain ⟨t1b, t2b, t3b, rfl, hxo⟩ := OwnV.of_rowsT hxb
        clear hxb
        have hxb := hxo
        clear hxo
        replace hxb := hxb.mono hswb
        clear hK KK hG hswb
        go_simp
        replace hxa := (hxa.laterT hWa).laterT (LaterT.of_later (B0 := w3.heap.size) hb)
        clear hWa hb hla hlwa
        refine canF_go rfl rfl (fun Wc hWa KK hK => ?_)
        go_simp
        have hla : LaterT w3.heap.size 31 w3.drew Wc := laterT_trans _ _ _ _ _ hlwb hWa
        have hG := given_own Wc _ (.agg #[.slice a1c c.seen.length p1c, .slice a2c c.items.length p2c, .slice a3c c.gone.length p3c]) c ⟨_, _, _, rfl, (HR.out Wc (HL.out Wc hla).1).2.2.2.2.2.2⟩ (by have := Hsc.out.seen; omega) (by have := Hsc.out.items; omega) (by have := Hsc.out.gone; omega)
        refine hG.mono ?_
        rintro e wc ⟨vq, rfl, hxc, -, hb⟩
        refine ⟨_, rfl, LaterT.of_later hb, hK _ _ ?_⟩
        have hlwc : LaterT w3.heap.size 31 w3.drew wc := laterT_trans _ _ _ _ _ hla (LaterT.of_later hb)
        have hswc : w3.heap.size ≤ Wc.heap.size := hla.size
        obtain ⟨t1c, t2c, t3c, rfl, hxo⟩ := OwnV.of_rowsT hxc
        clear hxc
        have hxc := hxo
        clear hxo
        replace hxc := hxc.mono hswc
        clear hK KK hG hswc
        go_simp
        replace hxa := (hxa.laterT hWa).laterT (LaterT.of_later (B0 := w3.heap.size) hb)
        replace hxb := (hxb.laterT hWa).laterT (LaterT.of_later (B0 := w3.heap.size) hb)
        clear hWa hb hla hlwb pa0 pa1 pa2 pb0 pb1 pb2 pc0 pc1 pc2
        refine canF_float rfl (fun vO1 W1 hW1 hZ hU1 KK hK => ?_)
        obtain ⟨O1, L1, rfl, hO1, hk1, hn1⟩ := hZ
        refine hK _ _ ?_
        clear hK KK
        go_simp
        refine canF_float rfl (fun vO2 W2 hW2 hZ hU2 KK hK => ?_)
        obtain ⟨O2, L2, rfl, hO2, hk2, hn2⟩ := hZ
        have hne21 : O2 ≠ O1 := fun e => hU2 (by rw [e]; exact List.mem_cons_self)
        refine hK _ _ ?_
        clear hK KK
        go_simp
        refine canF_float rfl (fun vO3 W3 hW3 hZ hU3 KK hK => ?_)
        obtain ⟨O3, L3, rfl, hO3, hk3, hn3⟩ := hZ
        have hne32 : O3 ≠ O2 := fun e => hU3 (by rw [e]; exact List.mem_cons_self)
        have hne31 : O3 ≠ O1 := fun e => hU3 (by rw [e]; exact List.mem_cons_of_mem _ List.mem_cons_self)
        refine hK _ _ ?_
        clear hK KK hU1 hU2 hU3
        go_simp
        obtain ⟨L1', hk1, hn1'⟩ := (laterT_trans _ _ _ _ _ hW2 hW3).typed O1 _ hO1 hk1
        obtain ⟨L2', hk2, hn2'⟩ := hW3.typed O2 _ hO2 hk2
        rw [hn1] at hn1'
        rw [hn2] at hn2'
        obtain ⟨x0, x1, x2, rfl⟩ : ∃ x0 x1 x2, L1' = [x0, x1, x2] := by
          match L1', hn1' with
          | [x0, x1, x2], _ => exact ⟨x0, x1, x2, rfl⟩
        obtain ⟨y0, y1, y2, rfl⟩ : ∃ y0 y1 y2, L2' = [y0, y1, y2] := by
          match L2', hn2' with
          | [y0, y1, y2], _ => exact ⟨y0, y1, y2, rfl⟩
        obtain ⟨z0, z1, z2, rfl⟩ : ∃ z0 z1 z2, L3 = [z0, z1, z2] := by
          match L3, hn3 with
          | [z0, z1, z2], _ => exact ⟨z0, z1, z2, rfl⟩
        obtain ⟨b1, e1, rfl⟩ := own_shape hxa.seen
        obtain ⟨b2, e2, rfl⟩ := own_shape hxa.items
        obtain ⟨b3, e3, rfl⟩ := own_shape hxa.gone
        obtain ⟨g1, f1, rfl⟩ := own_shape hxb.seen
        obtain ⟨g2, f2, rfl⟩ := own_shape hxb.items
        obtain ⟨g3, f3, rfl⟩ := own_shape hxb.gone
        obtain ⟨d1, q1, rfl⟩ := own_shape hxc.seen
        obtain ⟨d2, q2, rfl⟩ := own_shape hxc.items
        obtain ⟨d3, q3, rfl⟩ := own_shape hxc.gone
        have hl3 : LaterT w3.heap.size 31 wc W3 := laterT_trans _ _ _ _ _ hW1 (laterT_trans _ _ _ _ _ hW2 hW3)
        have hlW : LaterT w3.heap.size 31 w3.drew W3 := laterT_trans _ _ _ _ _ hlwc hl3
        replace hxa := hxa.laterT hl3
        replace hxb := hxb.laterT hl3
        replace hxc := hxc.laterT hl3
        obtain ⟨w7, hw7, kk1, hb7⟩ := fin3 hk1 (HL.out W3 hlW).2 hO1 (.slice b1 a.seen.length e1) (.slice b2 a.items.length e2) (.slice b3 a.gone.length e3)
        have hl7 : LaterT w3.heap.size 31 W3 w7 := by
          rw [hw7]
          exact laterT_trans _ _ _ _ _ (laterT_trans _ _ _ _ _ (LaterT.set hk1 hO1 0 _) (LaterT.set (hk1.set 0 _) hO1 1 _)) (LaterT.set ((hk1.set 0 _).set 1 _) hO1 2 _)
        have hk27 : Blk w7 O2 [y0, y1, y2] 31 := by
          rw [hw7]
          exact ((hk2.set_other _ hne21).set_other _ hne21).set_other _ hne21
        have hk37 : Blk w7 O3 [z0, z1, z2] 31 := by
          rw [hw7]
          exact ((hk3.set_other _ hne31).set_other _ hne31).set_other _ hne31
        obtain ⟨w8, hw8, kk2, hb8⟩ := fin3 hk27 hb7 hO2 (.slice g1 b.seen.length f1) (.slice g2 b.items.length f2) (.slice g3 b.gone.length f3)
        have hl8 : LaterT w3.heap.size 31 w7 w8 := by
          rw [hw8]
          exact laterT_trans _ _ _ _ _ (laterT_trans _ _ _ _ _ (LaterT.set hk27 hO2 0 _) (LaterT.set (hk27.set 0 _) hO2 1 _)) (LaterT.set ((hk27.set 0 _).set 1 _) hO2 2 _)
        have kk18 : Blk w8 O1 [.slice b1 a.seen.length e1, .slice b2 a.items.length e2, .slice b3 a.gone.length e3] 31 := by
          rw [hw8]
          exact ((kk1.set_other _ hne21.symm).set_other _ hne21.symm).set_other _ hne21.symm
        have hk38 : Blk w8 O3 [z0, z1, z2] 31 := by
          rw [hw8]
          exact ((hk37.set_other _ hne32).set_other _ hne32).set_other _ hne32
        obtain ⟨w9, hw9, kk3, hb9⟩ := fin3 hk38 hb8 hO3 (.slice d1 c.seen.length q1) (.slice d2 c.items.length q2) (.slice d3 c.gone.length q3)
        have hl9 : LaterT w3.heap.size 31 w8 w9 := by
          rw [hw9]
          exact laterT_trans _ _ _ _ _ (laterT_trans _ _ _ _ _ (LaterT.set hk38 hO3 0 _) (LaterT.set (hk38.set 0 _) hO3 1 _)) (LaterT.set ((hk38.set 0 _).set 1 _) hO3 2 _)
        have kk19 : Blk w9 O1 [.slice b1 a.seen.length e1, .slice b2 a.items.length e2, .slice b3 a.gone.length e3] 31 := by
          rw [hw9]
          exact ((kk18.set_other _ hne31.symm).set_other _ hne31.symm).set_other _ hne31.symm
        have kk29 : Blk w9 O2 [.slice g1 b.seen.length f1, .slice g2 b.items.length f2, .slice g3 b.gone.length f3] 31 := by
          rw [hw9]
          exact ((kk2.set_other _ hne32.symm).set_other _ hne32.symm).set_other _ hne32.symm
        replace hxa := ((hxa.laterT hl7).laterT hl8).laterT hl9
        replace hxb := ((hxb.laterT hl7).laterT hl8).laterT hl9
        replace hxc := ((hxc.laterT hl7).laterT hl8).laterT hl9
        have Hl9 := Lib.hid (show Has [(O1, a), (O2, b), (O3, c)] w9 from (((Has.nil w9).cons (⟨_, _, _, _, _, _, kk3, (hxc.map HBc.out).mono fun q _ hlt => hlt⟩ : MB w9 O3 c)).cons (⟨_, _, _, _, _, _, kk29, (hxb.map HBb.out).mono fun q _ hlt => hlt⟩ : MB w9 O2 b)).cons (⟨_, _, _, _, _, _, kk19, (hxa.map HBa.out).mono fun q _ hlt => hlt⟩ : MB w9 O1 a))
        have HW9 := Lib.hid (show Below w.heap.size w w9 from by
          have h1 := HLc.out.trans (hb9.mono HLc.out.size)
          exact (HR.out w9 h1).1)
        have Hl7 := Lib.hid hl7; have Hl8 := Lib.hid hl8; have Hlt9 := Lib.hid hl9; have Hw7 := Lib.hid hw7; have Hw8 := Lib.hid hw8; have Hw9 := Lib.hid hw9
        have v0 := hk1.free 0; have v1 := hk1.free 1; have v2 := hk1.free 2
        have v3 := hk27.free 0; have v4 := hk27.free 1; have v5 := hk27.free 2
        have v6 := hk38.free 0; have v7 := hk38.free 1; have v8 := hk38.free 2
        obtain ⟨u0, u1, u2⟩ := cell3 hk1
        obtain ⟨u3, u4, u5⟩ := cell3 hk27
        obtain ⟨u6, u7, u8⟩ := cell3 hk38
        clear hl7 hl8 hl9 hw7 hw8 hw9 kk1 kk2 kk3 kk18 kk19 kk29 hb7 hb8 hb9 hk1 hk2 hk3 hk27 hk37 hk38 hxa hxb hxc hl3 hlW hlwc hW1 hW2 hW3 hn1 hn2 hn3 hn1' hn2' hne21 hne31 hne32
        refine canF_fixed rfl rfl (fun KK hK => ?_)
        go_simp
        rw [← Hw7.out]
        refine ⟨Hl7.out, hK _ _ ?_⟩
        clear hK KK u0 u1 u2 v0 v1 v2
        go_simp
        refine canF_fixed rfl rfl (fun KK hK => ?_)
        go_simp
        rw [← Hw8.out]
        refine ⟨Hl8.out, hK _ _ ?_⟩
        clear hK KK u3 u4 u5 v3 v4 v5
        go_simp
        refine canF_fixed rfl rfl (fun KK hK => ?_)
        go_simp
        rw [← Hw9.out]
        refine ⟨Hlt9.out, hK _ _ ?_⟩
        clear hK KK u6 u7 u8 v6 v7 v8 Hl7 Hl8 Hlt9 Hw7 Hw8 Hw9
        go_simp
        refine canF_nil ?_
        have kya : KeysM a := ⟨fun x hx => by have := Hsa.out.ikeys x hx; omega, fun x hx => by have := Hsa.out.gkeys x hx; omega⟩
        have kyb : KeysM b := ⟨fun x hx => by have := Hsb.out.ikeys x hx; omega, fun x hx => by have := Hsb.out.gkeys x hx; omega⟩
        have kyc : KeysM c := ⟨fun x hx => by have := Hsc.out.ikeys x hx; omega, fun x hx => by have := Hsc.out.gkeys x hx; omega⟩
        have Kya := Lib.hid kya; have Kyb := Lib.hid kyb; have Kyc := Lib.hid kyc
        have Sma := Lib.hid (show SmallM a from ⟨by have := Hsa.out.seen; omega, by have := Hsa.out.items; omega, by have := Hsa.out.gone; omega⟩)
        clear kya kyb kyc HL H0 HLa HLb HLc HR
        obtain ⟨s1A, e1A, s2A, e2A, s3A, e3A, hBA, hMA⟩ := Hl9.out.get O1 a (by simp)
        obtain ⟨c0A, c1A, c2A⟩ := cell3 hBA
        obtain ⟨kv, hkv⟩ : ∃ kv, validR a = kv := ⟨_, rfl⟩
        have HC := Lib.hid (check_any w9 (HTb.out _ HW9.out).1 (HTb.out _ HW9.out).2 _ (.agg #[.slice s1A a.seen.length e1A, .slice s2A a.items.length e2A, .slice s3A a.gone.length e3A]) a ⟨_, _, _, rfl, hMA⟩ Kya.out.1 Kya.out.2)
        rw [hkv] at HC
        have Hva := Lib.hid hkv
        clear hkv hBA hMA
        go_wp2_with fail
        refine HC.out.mono ?_
        rintro e w10 ⟨rfl, hb⟩
        have Hl10 := Lib.hid (Hl9.out.keep hb); have HW10 := Lib.hid (show Below w.heap.size w w10 from HW9.out.trans (hb.mono HW9.out.size))
        clear HC c0A c1A c2A hb
        cases kv with
        | false =>
          have HW := Lib.hid (works_any w10 (HTb.out _ HW10.out).1 (HTb.out _ HW10.out).2)
          go_wp2_with fail
          skip
          refine HW.out.mono ?_
          rintro e wf ⟨rfl, hbf⟩
          clear HW
          go_wp2_with fail
          go_ret
          exact ⟨rfl, HW10.out.trans (hbf.mono HW10.out.size)⟩
        | true =>
          obtain ⟨s1A, e1A, s2A, e2A, s3A, e3A, hBA, hMA⟩ := Hl10.out.get O2 b (by simp)
          obtain ⟨c0A, c1A, c2A⟩ := cell3 hBA
          obtain ⟨kv, hkv⟩ : ∃ kv, validR b = kv := ⟨_, rfl⟩
          have HC := Lib.hid (check_any w10 (HTb.out _ HW10.out).1 (HTb.out _ HW10.out).2 _ (.agg #[.slice s1A b.seen.length e1A, .slice s2A b.items.length e2A, .slice s3A b.gone.length e3A]) b ⟨_, _, _, rfl, hMA⟩ Kyb.out.1 Kyb.out.2)
          rw [hkv] at HC
          have Hvb := Lib.hid hkv
          clear hkv hBA hMA
          go_wp2_with fail
          refine HC.out.mono ?_
          rintro e w11 ⟨rfl, hb⟩
          have Hl11 := Lib.hid (Hl10.out.keep hb); have HW11 := Lib.hid (show Below w.heap.size w w11 from HW10.out.trans (hb.mono HW10.out.size))
          clear HC c0A c1A c2A hb
          cases kv with
          | false =>
            have HW := Lib.hid (works_any w11 (HTb.out _ HW11.out).1 (HTb.out _ HW11.out).2)
            go_wp2_with fail
            skip
            refine HW.out.mono ?_
            rintro e wf ⟨rfl, hbf⟩
            clear HW
            go_wp2_with fail
            go_ret
            exact ⟨rfl, HW11.out.trans (hbf.mono HW11.out.size)⟩
          | true =>
            obtain ⟨s1A, e1A, s2A, e2A, s3A, e3A, hBA, hMA⟩ := Hl11.out.get O3 c (by simp)
            obtain ⟨c0A, c1A, c2A⟩ := cell3 hBA
            obtain ⟨kv, hkv⟩ : ∃ kv, validR c = kv := ⟨_, rfl⟩
            have HC := Lib.hid (check_any w11 (HTb.out _ HW11.out).1 (HTb.out _ HW11.out).2 _ (.agg #[.slice s1A c.seen.length e1A, .slice s2A c.items.length e2A, .slice s3A c.gone.length e3A]) c ⟨_, _, _, rfl, hMA⟩ Kyc.out.1 Kyc.out.2)
            rw [hkv] at HC
            have Hvc := Lib.hid hkv
            clear hkv hBA hMA
            go_wp2_with fail
            refine HC.out.mono ?_
            rintro e w12 ⟨rfl, hb⟩
            have Hl12 := Lib.hid (Hl11.out.keep hb); have HW12 := Lib.hid (show Below w.heap.size w w12 from HW11.out.trans (hb.mono HW11.out.size))
            clear HC c0A c1A c2A hb
            cases kv with
            | false =>
              have HW := Lib.hid (works_any w12 (HTb.out _ HW12.out).1 (HTb.out _ HW12.out).2)
              go_wp2_with fail
              skip
              refine HW.out.mono ?_
              rintro e wf ⟨rfl, hbf⟩
              clear HW
              go_wp2_with fail
              go_ret
              exact ⟨rfl, HW12.out.trans (hbf.mono HW12.out.size)⟩
            | true =>
              -- once, xy, yx
              obtain ⟨r1, er1, hxy⟩ : ∃ r1 er1, mergeR a b = (r1, er1) := ⟨_, _, rfl⟩
              have hyx : mergeR b a = (r1, er1) := by rw [← mergeR_comm Hva.out Hvb.out, hxy]
              have hk1 : KeysM r1 := by have := mergeR_keys a b; rw [hxy] at this; exact this
              have hs1 : SmallM r1 := by have := mergeR_small a b; rw [hxy] at this; exact this
              have he1 : er1 = 0 ∨ er1 = 7 := by have := mergeR_err Hva.out Hvb.out; rw [hxy] at this; exact this
              have hz1 : er1 = 0 → r1 = mergeM a b ∧ validR (mergeM a b) = true := fun h => by have := mergeR_zero Hva.out Hvb.out (by rw [hxy]; exact h); rw [hxy] at this; exact this
              have Hxy := Lib.hid hxy; have Hyx := Lib.hid hyx; have Hk1 := Lib.hid hk1; have Hs1 := Lib.hid hs1; have He1 := Lib.hid he1; have Hz1 := Lib.hid hz1
              clear hxy hyx hk1 hs1 he1 hz1
              obtain ⟨s1X, e1X, s2X, e2X, s3X, e3X, hBX, hMX⟩ := Hl12.out.get O1 a (by simp)
              obtain ⟨c0X, c1X, c2X⟩ := cell3 hBX
              have hU := pmerge_any w12 (HTb.out _ HW12.out).1 (HTb.out _ HW12.out).2 _ _ (.agg #[.slice s1X a.seen.length e1X, .slice s2X a.items.length e2X, .slice s3X a.gone.length e3X]) (.agg #[.slice s1X a.seen.length e1X, .slice s2X a.items.length e2X, .slice s3X a.gone.length e3X]) a a ⟨_, _, _, rfl, hMX⟩ ⟨_, _, _, rfl, hMX⟩ Kya.out.1 Kya.out.2 Kya.out.1 Kya.out.2
              rw [mergeR_self Hva.out] at hU
              have HU := Lib.hid hU
              clear hU hBX hMX
              go_wp2_with fail
              refine HU.out.mono ?_
              rintro e wm13 ⟨⟨r, rfl, ho, hbd⟩, hbm⟩
              obtain ⟨t1, t2, t3, rfl, ho⟩ := ho
              dsimp only at ho hbd ⊢
              obtain ⟨n113, m113, rfl⟩ := own_shape ho.seen
              obtain ⟨n213, m213, rfl⟩ := own_shape ho.items
              obtain ⟨n313, m313, rfl⟩ := own_shape ho.gone
              obtain ⟨w13, hw13⟩ : ∃ q, q = wm13.alloc (.cells #[.slice n113 a.seen.length m113, .slice n213 a.items.length m213, .slice n313 a.gone.length m313] 31) := ⟨_, rfl⟩
              have hk13 : Below wm13.heap.size wm13 w13 := by rw [hw13]; exact kept_alloc _ _
              have hbw : Below w12.heap.size w12 w13 := hbm.trans (hk13.mono hbm.size)
              have hmb : MB w13 wm13.heap.size a := ⟨_, _, _, _, _, _, by rw [hw13]; exact Blk.new _ _ _, (((ho.below hk13).map hbd).mono fun q _ hlt => hlt)⟩
              have Hl13 := Lib.hid (show Has ((wm13.heap.size, a) :: [(O1, a), (O2, b), (O3, c)]) w13 from (Hl12.out.keep hbw).cons hmb)
              have HW13 := Lib.hid (show Below w.heap.size w w13 from HW12.out.trans (hbw.mono HW12.out.size))
              have Hw13 := Lib.hid hw13
              clear hk13 hbw hmb ho hbd hbm
              clear HU c0X c1X c2X
              obtain ⟨s1X, e1X, s2X, e2X, s3X, e3X, hBX, hMX⟩ := Hl13.out.get O1 a (by simp)
              obtain ⟨c0X, c1X, c2X⟩ := cell3 hBX
              obtain ⟨s1Y, e1Y, s2Y, e2Y, s3Y, e3Y, hBY, hMY⟩ := Hl13.out.get O2 b (by simp)
              obtain ⟨c0Y, c1Y, c2Y⟩ := cell3 hBY
              have hU := pmerge_any w13 (HTb.out _ HW13.out).1 (HTb.out _ HW13.out).2 _ _ (.agg #[.slice s1X a.seen.length e1X, .slice s2X a.items.length e2X, .slice s3X a.gone.length e3X]) (.agg #[.slice s1Y b.seen.length e1Y, .slice s2Y b.items.length e2Y, .slice s3Y b.gone.length e3Y]) a b ⟨_, _, _, rfl, hMX⟩ ⟨_, _, _, rfl, hMY⟩ Kya.out.1 Kya.out.2 Kyb.out.1 Kyb.out.2
              rw [Hxy.out] at hU
              have HU := Lib.hid hU
              rw [Hw13.out] at c0X c1X c2X c0Y c1Y c2Y
              clear hU hBX hMX hBY hMY
              go_wp2_with fail
              rw [← Hw13.out]
              refine HU.out.mono ?_
              rintro e wm14 ⟨⟨r, rfl, ho, hbd⟩, hbm⟩
              obtain ⟨t1, t2, t3, rfl, ho⟩ := ho
              dsimp only at ho hbd ⊢
              obtain ⟨n114, m114, rfl⟩ := own_shape ho.seen
              obtain ⟨n214, m214, rfl⟩ := own_shape ho.items
              obtain ⟨n314, m314, rfl⟩ := own_shape ho.gone
              obtain ⟨w14, hw14⟩ : ∃ q, q = wm14.alloc (.cells #[.slice n114 r1.seen.length m114, .slice n214 r1.items.length m214, .slice n314 r1.gone.length m314] 31) := ⟨_, rfl⟩
              have hk14 : Below wm14.heap.size wm14 w14 := by rw [hw14]; exact kept_alloc _ _
              have hbw : Below w13.heap.size w13 w14 := hbm.trans (hk14.mono hbm.size)
              have hmb : MB w14 wm14.heap.size r1 := ⟨_, _, _, _, _, _, by rw [hw14]; exact Blk.new _ _ _, (((ho.below hk14).map hbd).mono fun q _ hlt => hlt)⟩
              have Hl14 := Lib.hid (show Has ((wm14.heap.size, r1) :: [(wm13.heap.size, a), (O1, a), (O2, b), (O3, c)]) w14 from (Hl13.out.keep hbw).cons hmb)
              have HW14 := Lib.hid (show Below w.heap.size w w14 from HW13.out.trans (hbw.mono HW13.out.size))
              have Hw14 := Lib.hid hw14
              clear hk14 hbw hmb ho hbd hbm
              clear HU c0X c1X c2X c0Y c1Y c2Y
              obtain ⟨s1X, e1X, s2X, e2X, s3X, e3X, hBX, hMX⟩ := Hl14.out.get O2 b (by simp)
              obtain ⟨c0X, c1X, c2X⟩ := cell3 hBX
              obtain ⟨s1Y, e1Y, s2Y, e2Y, s3Y, e3Y, hBY, hMY⟩ := Hl14.out.get O1 a (by simp)
              obtain ⟨c0Y, c1Y, c2Y⟩ := cell3 hBY
              have hU := pmerge_any w14 (HTb.out _ HW14.out).1 (HTb.out _ HW14.out).2 _ _ (.agg #[.slice s1X b.seen.length e1X, .slice s2X b.items.length e2X, .slice s3X b.gone.length e3X]) (.agg #[.slice s1Y a.seen.length e1Y, .slice s2Y a.items.length e2Y, .slice s3Y a.gone.length e3Y]) b a ⟨_, _, _, rfl, hMX⟩ ⟨_, _, _, rfl, hMY⟩ Kyb.out.1 Kyb.out.2 Kya.out.1 Kya.out.2
              rw [Hyx.out] at hU
              have HU := Lib.hid hU
              rw [Hw14.out] at c0X c1X c2X c0Y c1Y c2Y
              clear hU hBX hMX hBY hMY
              go_wp2_with fail
              rw [← Hw14.out]
              refine HU.out.mono ?_
              rintro e wm15 ⟨⟨r, rfl, ho, hbd⟩, hbm⟩
              obtain ⟨t1, t2, t3, rfl, ho⟩ := ho
              dsimp only at ho hbd ⊢
              obtain ⟨n115, m115, rfl⟩ := own_shape ho.seen
              obtain ⟨n215, m215, rfl⟩ := own_shape ho.items
              obtain ⟨n315, m315, rfl⟩ := own_shape ho.gone
              obtain ⟨w15, hw15⟩ : ∃ q, q = wm15.alloc (.cells #[.slice n115 r1.seen.length m115, .slice n215 r1.items.length m215, .slice n315 r1.gone.length m315] 31) := ⟨_, rfl⟩
              have hk15 : Below wm15.heap.size wm15 w15 := by rw [hw15]; exact kept_alloc _ _
              have hbw : Below w14.heap.size w14 w15 := hbm.trans (hk15.mono hbm.size)
              have hmb : MB w15 wm15.heap.size r1 := ⟨_, _, _, _, _, _, by rw [hw15]; exact Blk.new _ _ _, (((ho.below hk15).map hbd).mono fun q _ hlt => hlt)⟩
              have Hl15 := Lib.hid (show Has ((wm15.heap.size, r1) :: [(wm14.heap.size, r1), (wm13.heap.size, a), (O1, a), (O2, b), (O3, c)]) w15 from (Hl14.out.keep hbw).cons hmb)
              have HW15 := Lib.hid (show Below w.heap.size w w15 from HW14.out.trans (hbw.mono HW14.out.size))
              have Hw15 := Lib.hid hw15
              clear hk15 hbw hmb ho hbd hbm
              clear HU c0X c1X c2X c0Y c1Y c2Y
              obtain ⟨s1X, e1X, s2X, e2X, s3X, e3X, hBX, hMX⟩ := Hl15.out.get wm13.heap.size a (by simp)
              obtain ⟨c0X, c1X, c2X⟩ := cell3 hBX
              obtain ⟨s1Y, e1Y, s2Y, e2Y, s3Y, e3Y, hBY, hMY⟩ := Hl15.out.get O1 a (by simp)
              obtain ⟨c0Y, c1Y, c2Y⟩ := cell3 hBY
              have HE := Lib.hid (equal_any w15 _ _ (.agg #[.slice s1X a.seen.length e1X, .slice s2X a.items.length e2X, .slice s3X a.gone.length e3X]) (.agg #[.slice s1Y a.seen.length e1Y, .slice s2Y a.items.length e2Y, .slice s3Y a.gone.length e3Y]) a a ⟨_, _, _, rfl, hMX⟩ ⟨_, _, _, rfl, hMY⟩ Sma.out.1 Sma.out.2.1 Sma.out.2.2 Sma.out.1 Sma.out.2.1 Sma.out.2.2)
              rw [Hw15.out] at c0X c1X c2X c0Y c1Y c2Y
              clear hBX hMX hBY hMY
              go_wp2_with fail
              rw [← Hw15.out]
              refine HE.out.mono ?_
              rintro e w16 ⟨r, rfl, hr, hb⟩
              obtain rfl : r = true := hr.2 rfl
              have Hl16 := Lib.hid (Hl15.out.keep hb); have HW16 := Lib.hid (show Below w.heap.size w w16 from HW15.out.trans (hb.mono HW15.out.size))
              clear HE hr hb c0X c1X c2X c0Y c1Y c2Y
              obtain ⟨s1X, e1X, s2X, e2X, s3X, e3X, hBX, hMX⟩ := Hl16.out.get wm14.heap.size r1 (by simp)
              obtain ⟨c0X, c1X, c2X⟩ := cell3 hBX
              obtain ⟨s1Y, e1Y, s2Y, e2Y, s3Y, e3Y, hBY, hMY⟩ := Hl16.out.get wm15.heap.size r1 (by simp)
              obtain ⟨c0Y, c1Y, c2Y⟩ := cell3 hBY
              have HE := Lib.hid (equal_any w16 _ _ (.agg #[.slice s1X r1.seen.length e1X, .slice s2X r1.items.length e2X, .slice s3X r1.gone.length e3X]) (.agg #[.slice s1Y r1.seen.length e1Y, .slice s2Y r1.items.length e2Y, .slice s3Y r1.gone.length e3Y]) r1 r1 ⟨_, _, _, rfl, hMX⟩ ⟨_, _, _, rfl, hMY⟩ Hs1.out.1 Hs1.out.2.1 Hs1.out.2.2 Hs1.out.1 Hs1.out.2.1 Hs1.out.2.2)
              skip
              clear hBX hMX hBY hMY
              go_wp2_with fail
              skip
              refine HE.out.mono ?_
              rintro e w17 ⟨r, rfl, hr, hb⟩
              obtain rfl : r = true := hr.2 rfl
              have Hl17 := Lib.hid (Hl16.out.keep hb); have HW17 := Lib.hid (show Below w.heap.size w w17 from HW16.out.trans (hb.mono HW16.out.size))
              clear HE hr hb c0X c1X c2X c0Y c1Y c2Y
              -- yz
              obtain ⟨r2, er2, hyz⟩ : ∃ r2 er2, mergeR b c = (r2, er2) := ⟨_, _, rfl⟩
              have hk2 : KeysM r2 := by have := mergeR_keys b c; rw [hyz] at this; exact this
              have he2 : er2 = 0 ∨ er2 = 7 := by have := mergeR_err Hvb.out Hvc.out; rw [hyz] at this; exact this
              have hz2 : er2 = 0 → r2 = mergeM b c ∧ validR (mergeM b c) = true := fun h => by have := mergeR_zero Hvb.out Hvc.out (by rw [hyz]; exact h); rw [hyz] at this; exact this
              have Hyz := Lib.hid hyz; have Hk2 := Lib.hid hk2; have He2 := Lib.hid he2; have Hz2 := Lib.hid hz2
              clear hyz hk2 he2 hz2
              obtain ⟨s1X, e1X, s2X, e2X, s3X, e3X, hBX, hMX⟩ := Hl17.out.get O2 b (by simp)
              obtain ⟨c0X, c1X, c2X⟩ := cell3 hBX
              obtain ⟨s1Y, e1Y, s2Y, e2Y, s3Y, e3Y, hBY, hMY⟩ := Hl17.out.get O3 c (by simp)
              obtain ⟨c0Y, c1Y, c2Y⟩ := cell3 hBY
              have hU := pmerge_any w17 (HTb.out _ HW17.out).1 (HTb.out _ HW17.out).2 _ _ (.agg #[.slice s1X b.seen.length e1X, .slice s2X b.items.length e2X, .slice s3X b.gone.length e3X]) (.agg #[.slice s1Y c.seen.length e1Y, .slice s2Y c.items.length e2Y, .slice s3Y c.gone.length e3Y]) b c ⟨_, _, _, rfl, hMX⟩ ⟨_, _, _, rfl, hMY⟩ Kyb.out.1 Kyb.out.2 Kyc.out.1 Kyc.out.2
              rw [Hyz.out] at hU
              have HU := Lib.hid hU
              skip
              clear hU hBX hMX hBY hMY
              go_wp2_with fail
              skip
              refine HU.out.mono ?_
              rintro e wm18 ⟨⟨r, rfl, ho, hbd⟩, hbm⟩
              obtain ⟨t1, t2, t3, rfl, ho⟩ := ho
              dsimp only at ho hbd ⊢
              obtain ⟨n118, m118, rfl⟩ := own_shape ho.seen
              obtain ⟨n218, m218, rfl⟩ := own_shape ho.items
              obtain ⟨n318, m318, rfl⟩ := own_shape ho.gone
              obtain ⟨w18, hw18⟩ : ∃ q, q = wm18.alloc (.cells #[.slice n118 r2.seen.length m118, .slice n218 r2.items.length m218, .slice n318 r2.gone.length m318] 31) := ⟨_, rfl⟩
              have hk18 : Below wm18.heap.size wm18 w18 := by rw [hw18]; exact kept_alloc _ _
              have hbw : Below w17.heap.size w17 w18 := hbm.trans (hk18.mono hbm.size)
              have hmb : MB w18 wm18.heap.size r2 := ⟨_, _, _, _, _, _, by rw [hw18]; exact Blk.new _ _ _, (((ho.below hk18).map hbd).mono fun q _ hlt => hlt)⟩
              have Hl18 := Lib.hid (show Has ((wm18.heap.size, r2) :: [(wm15.heap.size, r1), (wm14.heap.size, r1), (wm13.heap.size, a), (O1, a), (O2, b), (O3, c)]) w18 from (Hl17.out.keep hbw).cons hmb)
              have HW18 := Lib.hid (show Below w.heap.size w w18 from HW17.out.trans (hbw.mono HW17.out.size))
              have Hw18 := Lib.hid hw18
              clear hk18 hbw hmb ho hbd hbm
              clear HU c0X c1X c2X c0Y c1Y c2Y
              rcases He1.out with rfl | rfl
              case inr =>
                rcases He2.out with rfl | rfl
                ·
                  have HW := Lib.hid (works_any w18 (HTb.out _ HW18.out).1 (HTb.out _ HW18.out).2)
                  go_wp2_with fail
                  rw [← Hw18.out]
                  refine HW.out.mono ?_
                  rintro e wf ⟨rfl, hbf⟩
                  clear HW
                  go_wp2_with fail
                  go_ret
                  exact ⟨rfl, HW18.out.trans (hbf.mono HW18.out.size)⟩
                ·
                  have HW := Lib.hid (works_any w18 (HTb.out _ HW18.out).1 (HTb.out _ HW18.out).2)
                  go_wp2_with fail
                  rw [← Hw18.out]
                  refine HW.out.mono ?_
                  rintro e wf ⟨rfl, hbf⟩
                  clear HW
                  go_wp2_with fail
                  go_ret
                  exact ⟨rfl, HW18.out.trans (hbf.mono HW18.out.size)⟩
              rcases He2.out with rfl | rfl
              case inr =>
                have HW := Lib.hid (works_any w18 (HTb.out _ HW18.out).1 (HTb.out _ HW18.out).2)
                go_wp2_with fail
                rw [← Hw18.out]
                refine HW.out.mono ?_
                rintro e wf ⟨rfl, hbf⟩
                clear HW
                go_wp2_with fail
                go_ret
                exact ⟨rfl, HW18.out.trans (hbf.mono HW18.out.size)⟩
              obtain ⟨rfl, hvab⟩ := Hz1.out rfl
              obtain ⟨rfl, hvbc⟩ := Hz2.out rfl
              obtain ⟨r3, er3, hl3⟩ : ∃ r3 er3, mergeR (mergeM a b) c = (r3, er3) := ⟨_, _, rfl⟩
              have hr3 : mergeR a (mergeM b c) = (r3, er3) := by
                rw [mergeR_valid Hva.out hvbc, ← merge_assoc a b c (valid_formed Hva.out) (valid_formed Hvb.out) (valid_formed Hvc.out), ← mergeR_valid hvab Hvc.out, hl3]
              have hs3 : SmallM r3 := by have := mergeR_small (mergeM a b) c; rw [hl3] at this; exact this
              have he3 : er3 = 0 ∨ er3 = 7 := by have := mergeR_err hvab Hvc.out; rw [hl3] at this; exact this
              have Hl3 := Lib.hid hl3; have Hr3 := Lib.hid hr3; have Hs3 := Lib.hid hs3; have He3 := Lib.hid he3; have Hkab := Lib.hid (valid_keys hvab); have Hkbc := Lib.hid (valid_keys hvbc)
              clear hl3 hr3 hs3 he3 hvab hvbc
              obtain ⟨s1X, e1X, s2X, e2X, s3X, e3X, hBX, hMX⟩ := Hl18.out.get wm14.heap.size (mergeM a b) (by simp)
              obtain ⟨c0X, c1X, c2X⟩ := cell3 hBX
              obtain ⟨s1Y, e1Y, s2Y, e2Y, s3Y, e3Y, hBY, hMY⟩ := Hl18.out.get O3 c (by simp)
              obtain ⟨c0Y, c1Y, c2Y⟩ := cell3 hBY
              have hU := pmerge_any w18 (HTb.out _ HW18.out).1 (HTb.out _ HW18.out).2 _ _ (.agg #[.slice s1X (mergeM a b).seen.length e1X, .slice s2X (mergeM a b).items.length e2X, .slice s3X (mergeM a b).gone.length e3X]) (.agg #[.slice s1Y c.seen.length e1Y, .slice s2Y c.items.length e2Y, .slice s3Y c.gone.length e3Y]) (mergeM a b) c ⟨_, _, _, rfl, hMX⟩ ⟨_, _, _, rfl, hMY⟩ Hkab.out.1 Hkab.out.2 Kyc.out.1 Kyc.out.2
              rw [Hl3.out] at hU
              have HU := Lib.hid hU
              rw [Hw18.out] at c0X c1X c2X c0Y c1Y c2Y
              clear hU hBX hMX hBY hMY
              go_wp2_with fail
              rw [← Hw18.out]
              refine HU.out.mono ?_
              rintro e wm19 ⟨⟨r, rfl, ho, hbd⟩, hbm⟩
              obtain ⟨t1, t2, t3, rfl, ho⟩ := ho
              dsimp only at ho hbd ⊢
              obtain ⟨n119, m119, rfl⟩ := own_shape ho.seen
              obtain ⟨n219, m219, rfl⟩ := own_shape ho.items
              obtain ⟨n319, m319, rfl⟩ := own_shape ho.gone
              obtain ⟨w19, hw19⟩ : ∃ q, q = wm19.alloc (.cells #[.slice n119 r3.seen.length m119, .slice n219 r3.items.length m219, .slice n319 r3.gone.length m319] 31) := ⟨_, rfl⟩
              have hk19 : Below wm19.heap.size wm19 w19 := by rw [hw19]; exact kept_alloc _ _
              have hbw : Below w18.heap.size w18 w19 := hbm.trans (hk19.mono hbm.size)
              have hmb : MB w19 wm19.heap.size r3 := ⟨_, _, _, _, _, _, by rw [hw19]; exact Blk.new _ _ _, (((ho.below hk19).map hbd).mono fun q _ hlt => hlt)⟩
              have Hl19 := Lib.hid (show Has ((wm19.heap.size, r3) :: [(wm18.heap.size, mergeM b c), (wm15.heap.size, mergeM a b), (wm14.heap.size, mergeM a b), (wm13.heap.size, a), (O1, a), (O2, b), (O3, c)]) w19 from (Hl18.out.keep hbw).cons hmb)
              have HW19 := Lib.hid (show Below w.heap.size w w19 from HW18.out.trans (hbw.mono HW18.out.size))
              have Hw19 := Lib.hid hw19
              clear hk19 hbw hmb ho hbd hbm
              clear HU c0X c1X c2X c0Y c1Y c2Y
              obtain ⟨s1X, e1X, s2X, e2X, s3X, e3X, hBX, hMX⟩ := Hl19.out.get O1 a (by simp)
              obtain ⟨c0X, c1X, c2X⟩ := cell3 hBX
              obtain ⟨s1Y, e1Y, s2Y, e2Y, s3Y, e3Y, hBY, hMY⟩ := Hl19.out.get wm18.heap.size (mergeM b c) (by simp)
              obtain ⟨c0Y, c1Y, c2Y⟩ := cell3 hBY
              have hU := pmerge_any w19 (HTb.out _ HW19.out).1 (HTb.out _ HW19.out).2 _ _ (.agg #[.slice s1X a.seen.length e1X, .slice s2X a.items.length e2X, .slice s3X a.gone.length e3X]) (.agg #[.slice s1Y (mergeM b c).seen.length e1Y, .slice s2Y (mergeM b c).items.length e2Y, .slice s3Y (mergeM b c).gone.length e3Y]) a (mergeM b c) ⟨_, _, _, rfl, hMX⟩ ⟨_, _, _, rfl, hMY⟩ Kya.out.1 Kya.out.2 Hkbc.out.1 Hkbc.out.2
              rw [Hr3.out] at hU
              have HU := Lib.hid hU
              rw [Hw19.out] at c0X c1X c2X c0Y c1Y c2Y
              clear hU hBX hMX hBY hMY
              go_wp2_with fail
              rw [← Hw19.out]
              refine HU.out.mono ?_
              rintro e wm20 ⟨⟨r, rfl, ho, hbd⟩, hbm⟩
              obtain ⟨t1, t2, t3, rfl, ho⟩ := ho
              dsimp only at ho hbd ⊢
              obtain ⟨n120, m120, rfl⟩ := own_shape ho.seen
              obtain ⟨n220, m220, rfl⟩ := own_shape ho.items
              obtain ⟨n320, m320, rfl⟩ := own_shape ho.gone
              obtain ⟨w20, hw20⟩ : ∃ q, q = wm20.alloc (.cells #[.slice n120 r3.seen.length m120, .slice n220 r3.items.length m220, .slice n320 r3.gone.length m320] 31) := ⟨_, rfl⟩
              have hk20 : Below wm20.heap.size wm20 w20 := by rw [hw20]; exact kept_alloc _ _
              have hbw : Below w19.heap.size w19 w20 := hbm.trans (hk20.mono hbm.size)
              have hmb : MB w20 wm20.heap.size r3 := ⟨_, _, _, _, _, _, by rw [hw20]; exact Blk.new _ _ _, (((ho.below hk20).map hbd).mono fun q _ hlt => hlt)⟩
              have Hl20 := Lib.hid (show Has ((wm20.heap.size, r3) :: [(wm19.heap.size, r3), (wm18.heap.size, mergeM b c), (wm15.heap.size, mergeM a b), (wm14.heap.size, mergeM a b), (wm13.heap.size, a), (O1, a), (O2, b), (O3, c)]) w20 from (Hl19.out.keep hbw).cons hmb)
              have HW20 := Lib.hid (show Below w.heap.size w w20 from HW19.out.trans (hbw.mono HW19.out.size))
              have Hw20 := Lib.hid hw20
              clear hk20 hbw hmb ho hbd hbm
              clear HU c0X c1X c2X c0Y c1Y c2Y
              rcases He3.out with rfl | rfl
              case inr =>
                have HW := Lib.hid (works_any w20 (HTb.out _ HW20.out).1 (HTb.out _ HW20.out).2)
                go_wp2_with fail
                rw [← Hw20.out]
                refine HW.out.mono ?_
                rintro e wf ⟨rfl, hbf⟩
                clear HW
                go_wp2_with fail
                go_ret
                exact ⟨rfl, HW20.out.trans (hbf.mono HW20.out.size)⟩
              obtain ⟨s1X, e1X, s2X, e2X, s3X, e3X, hBX, hMX⟩ := Hl20.out.get wm19.heap.size r3 (by simp)
              obtain ⟨c0X, c1X, c2X⟩ := cell3 hBX
              obtain ⟨s1Y, e1Y, s2Y, e2Y, s3Y, e3Y, hBY, hMY⟩ := Hl20.out.get wm20.heap.size r3 (by simp)
              obtain ⟨c0Y, c1Y, c2Y⟩ := cell3 hBY
              have HE := Lib.hid (equal_any w20 _ _ (.agg #[.slice s1X r3.seen.length e1X, .slice s2X r3.items.length e2X, .slice s3X r3.gone.length e3X]) (.agg #[.slice s1Y r3.seen.length e1Y, .slice s2Y r3.items.length e2Y, .slice s3Y r3.gone.length e3Y]) r3 r3 ⟨_, _, _, rfl, hMX⟩ ⟨_, _, _, rfl, hMY⟩ Hs3.out.1 Hs3.out.2.1 Hs3.out.2.2 Hs3.out.1 Hs3.out.2.1 Hs3.out.2.2)
              rw [Hw20.out] at c0X c1X c2X c0Y c1Y c2Y
              clear hBX hMX hBY hMY
              go_wp2_with fail
              rw [← Hw20.out]
              refine HE.out.mono ?_
              rintro e w21 ⟨r, rfl, hr, hb⟩
              obtain rfl : r = true := hr.2 rfl
              have Hl21 := Lib.hid (Hl20.out.keep hb); have HW21 := Lib.hid (show Below w.heap.size w w21 from HW20.out.trans (hb.mono HW20.out.size))
              clear HE hr hb c0X c1X c2X c0Y c1Y c2Y
              have HW := Lib.hid (works_any w21 (HTb.out _ HW21.out).1 (HTb.out _ HW21.out).2)
              go_wp2_with fail
              skip
              refine HW.out.mono ?_
              rintro e wf ⟨rfl, hbf⟩
              clear HW
              go_wp2_with fail
              go_ret
              exact ⟨rfl, HW21.out.trans (hbf.mono HW21.out.size)⟩
end Go.Proofs.YtbjkkmabafaogaaGreatDoor
