/-
  REncR SEncR SLawE
-/
import Derived.Test.YtkkacnfpdafadaaGreatDoorP49
import Derived.Test.YtkkacnfpdafadaaGreatDoorP35
import Derived.Test.YtkkacnfpdafadaaGreatDoorP46
import Derived.Test.YtkkacnfpdafadaaGreatDoorP28
import Derived.Test.YtkkacnfpdafadaaGreatDoorP29
import Derived.Test.YtkkacnfpdafadaaGreatDoorP41
namespace Go.Proofs.YtkkacnfpdafadaaGreatDoor
open Go.RowKit Go.Lib
set_option linter.unusedVariables false
set_option maxRecDepth 20000
attribute [local go_sem ↓] seal_append
attribute [local go_sem] opC upC

set_option maxRecDepth 100000 in
set_option maxHeartbeats 1500000 in
theorem rencode_any (w : World) (F : Blks) (v : Value) (m : RMap) (h : MapV F w v m) (hki : ∀ x ∈ m.items, x.key.length ≤ 1000000000) (hkg : ∀ x ∈ m.gone, x.key.length ≤ 1000000000) :
    Calls Tryz.prog 56 #[v] w (EncPost w (encR m)) := by
  replace h := h.mono (G := fun b => b < w.heap.size) fun b _ hlt => hlt
  obtain ⟨s1, s2, s3, rfl, h⟩ := h
  obtain ⟨a1, p1, rfl, -⟩ := h.seen.shape
  obtain ⟨a2, p2, rfl, -⟩ := h.items.shape
  obtain ⟨a3, p3, rfl, -⟩ := h.gone.shape
  have l1 := h.seen.len
  have l2 := h.items.len
  have l3 := h.gone.len
  unfold maxLen at l1 l2 l3
  obtain ⟨n1, hn1⟩ : ∃ n, m.seen.length = n := ⟨_, rfl⟩
  obtain ⟨n2, hn2⟩ : ∃ n, m.items.length = n := ⟨_, rfl⟩
  obtain ⟨n3, hn3⟩ : ∃ n, m.gone.length = n := ⟨_, rfl⟩
  rw [hn1, hn2, hn3] at h
  rw [hn1] at l1 ⊢
  rw [hn2] at l2 ⊢
  rw [hn3] at l3 ⊢
  obtain ⟨wx, hwx⟩ : ∃ wx, wx = w.alloc (.cells #[.slice a1 n1 p1, .slice a2 n2 p2, .slice a3 n3 p3] 26) := ⟨_, rfl⟩
  have hbx : Below w.heap.size w wx := by rw [hwx]; exact kept_alloc _ _
  have hzx : wx.heap.size = w.heap.size + 1 := by rw [hwx]; simp
  have hx := h.keep (w' := wx) fun b _ hlt => hbx.block b hlt
  have hnx : Blk wx w.heap.size [.slice a1 n1 p1, .slice a2 n2 p2, .slice a3 n3 p3] 26 := by rw [hwx]; exact Blk.new _ _ _
  have Hx := Lib.hid hx; have Hn1 := Lib.hid hn1; have Hn2 := Lib.hid hn2; have Hn3 := Lib.hid hn3
  have Hwx := Lib.hid hwx; have Hbx := Lib.hid hbx; have Hzx := Lib.hid hzx
  have c0 := hnx.cell 0
  have c1 := hnx.cell 1
  have c2 := hnx.cell 2
  simp at c0 c1 c2
  have Hnx := Lib.hid hnx
  clear hx hn1 hn2 hn3 hwx hbx hnx hzx
  clear h
  have HC := Lib.hid (rvalid2_any wx _ (.agg #[.slice a1 n1 p1, .slice a2 n2 p2, .slice a3 n3 p3]) m ⟨_, _, _, rfl, Hx.out⟩ hki hkg)
  obtain ⟨ok, hok⟩ : ∃ ok, validR m = ok := ⟨_, rfl⟩
  rw [hok] at HC
  have Hok := Lib.hid hok
  clear hok hki hkg c0 c1 c2
  go_enter Tryz.func56, Tryz.ntmps56
  go_wp2_with fail
  rw [← Hwx.out]
  refine HC.out.mono ?_
  rintro e w3 ⟨rfl, hb3⟩
  have Hb3 := Lib.hid (Hbx.out.trans (hb3.mono Hbx.out.size))
  obtain ⟨d0, d1, d2⟩ := cell3 (Hnx.out.keep (hb3.block _ Hnx.out.lt))
  have Hx3 := Lib.hid (Hx.out.keep (w' := w3) fun b _ hlt => hb3.block b hlt)
  clear HC hb3
  cases ok with
  | false =>
    have He := Lib.hid (show encR m = ([], 5) by unfold encR; rw [Hok.out]; rfl)
    go_wp2_with fail
    exact bodyPost_ret (v := .tuple #[.slice none 0 0, .int .i64 5]) (by simp [results, Tryz.results56, go_sem]) rfl ⟨⟨_, by rw [He.out], by rw [He.out]; exact bytes_nil _ _⟩, Hb3.out⟩
  | true =>
    have He := Lib.hid (show encR m = (codeR m, 0) by unfold encR; rw [Hok.out]; rfl)
    have HS := Lib.hid (refCode_any w3 _ (.agg #[.slice a1 n1 p1, .slice a2 n2 p2, .slice a3 n3 p3]) m ⟨_, _, _, rfl, Hx3.out⟩ (valid_codable Hok.out))
    go_wp2_with fail
    refine HS.out.mono ?_
    rintro e w4 ⟨⟨r, rfl, hr⟩, hb4⟩
    have Hb4 := Lib.hid (Hb3.out.trans (hb4.mono Hb3.out.size)); have Hr := Lib.hid hr
    clear hb4 hr HS
    go_wp2_with fail
    exact bodyPost_ret (v := .tuple #[r, .int .i64 0]) (by simp [results, Tryz.results56, go_sem]) rfl ⟨⟨_, by rw [He.out], by rw [He.out]; exact Hr.out⟩, Hb4.out⟩

end Go.Proofs.YtkkacnfpdafadaaGreatDoor

namespace Go.Proofs.YtkkacnfpdafadaaGreatDoor
open Go.RowKit Go.Lib
set_option linter.unusedVariables false
set_option maxRecDepth 20000
attribute [local go_sem ↓] seal_append
attribute [local go_sem] opC upC

set_option maxRecDepth 100000 in
set_option maxHeartbeats 4000000 in
theorem rsencode_any (w : World) (F : Blks) (v : Value) (x : SMsg) (h : MsgV F w v x) (hki : ∀ y ∈ x.tell.items, y.key.length ≤ 1000000000) (hkg : ∀ y ∈ x.tell.gone, y.key.length ≤ 1000000000) :
    Calls Tryz.prog 26 #[v] w (EncPost w (sencR x)) := by
  replace h := h.mono (G := fun q => q < w.heap.size) fun q _ hlt => hlt
  obtain ⟨sv, s1, s2, s3, rfl, h⟩ := h
  obtain ⟨a0, p0, rfl, -⟩ := h.seen.shape
  obtain ⟨a1, p1, rfl, -⟩ := h.tell.seen.shape
  obtain ⟨a2, p2, rfl, -⟩ := h.tell.items.shape
  obtain ⟨a3, p3, rfl, -⟩ := h.tell.gone.shape
  obtain ⟨wx, hwx⟩ : ∃ qq, qq = w.alloc (.cells #[.int .i64 x.frm, .slice a0 x.seen.length p0, .slice a1 x.tell.seen.length p1, .slice a2 x.tell.items.length p2, .slice a3 x.tell.gone.length p3] 43) := ⟨_, rfl⟩
  have hbx : Below w.heap.size w wx := by rw [hwx]; exact kept_alloc _ _
  have hzx : wx.heap.size = w.heap.size + 1 := by rw [hwx]; simp
  have hx := h.keep (w' := wx) fun b _ hlt => hbx.block b hlt
  have hnx : Blk wx w.heap.size [.int .i64 x.frm, .slice a0 x.seen.length p0, .slice a1 x.tell.seen.length p1, .slice a2 x.tell.items.length p2, .slice a3 x.tell.gone.length p3] 43 := by rw [hwx]; exact Blk.new _ _ _
  have Hx := Lib.hid hx
  have Hwx := Lib.hid hwx; have Hbx := Lib.hid hbx; have Hzx := Lib.hid hzx
  have Hnx := Lib.hid hnx
  clear hx hwx hbx hnx hzx h
  have HR := Lib.hid (show ∀ W, Below wx.heap.size wx W → Below w.heap.size w W ∧ Blk W w.heap.size [.int .i64 x.frm, .slice a0 x.seen.length p0, .slice a1 x.tell.seen.length p1, .slice a2 x.tell.items.length p2, .slice a3 x.tell.gone.length p3] 43 ∧ MsgIn (fun q => q < w.heap.size) W (.slice a0 x.seen.length p0) (.slice a1 x.tell.seen.length p1) (.slice a2 x.tell.items.length p2) (.slice a3 x.tell.gone.length p3) x from fun W hW => by
    have hz := Hzx.out
    exact ⟨Hbx.out.trans (hW.mono (by omega)), Hnx.out.keep (hW.block _ (by omega)), Hx.out.keep (w' := W) fun q hq hlt => hW.block q hlt⟩)
  have HV := Lib.hid (rvalidS_any wx _ (.agg #[.int .i64 x.frm, .slice a0 x.seen.length p0, .slice a1 x.tell.seen.length p1, .slice a2 x.tell.items.length p2, .slice a3 x.tell.gone.length p3]) x ⟨_, _, _, _, rfl, (HR.out wx (Below.refl _ _)).2.2⟩ hki hkg)
  obtain ⟨sv, hsv⟩ : ∃ sv, svalid x = sv := ⟨_, rfl⟩
  rw [hsv] at HV
  have Hsv := Lib.hid hsv; have Hki := Lib.hid hki; have Hkg := Lib.hid hkg
  obtain ⟨c0, c1, c2, c3, c4⟩ := cell5 Hnx.out
  clear hsv hki hkg
  go_enter Tryz.func26, Tryz.ntmps26
  go_wp2_with fail
  rw [← Hwx.out]
  refine HV.out.mono ?_
  rintro e w3 ⟨rfl, hb3⟩
  have Hb3 := Lib.hid hb3
  clear HV hb3 c0 c1 c2 c3 c4
  cases sv with
  | false =>
    have He := Lib.hid (show sencR x = ([], 5) by unfold sencR; rw [Hsv.out]; rfl)
    have Hb := Lib.hid (HR.out w3 Hb3.out).1
    go_wp2_with fail
    exact bodyPost_ret (v := .tuple #[.slice none 0 0, .int .i64 5]) (by simp [results, Tryz.results26, go_sem]) rfl ⟨⟨_, by rw [He.out], by rw [He.out]; exact bytes_nil _ _⟩, Hb.out⟩
  | true =>
    have He := Lib.hid (show sencR x = (codeS x, 0) by unfold sencR; rw [Hsv.out]; rfl)
    obtain ⟨hdv, hkn, hvt⟩ := svalid_enc Hsv.out
    have hd : 0 ≤ x.frm ∧ x.frm < 8 := by unfold devOk at hdv; simpa using hdv
    obtain ⟨q, hq⟩ := Int.eq_ofNat_of_zero_le hd.1
    have hq8 : q < 8 := by omega
    have hw : IntKind.u64.wrap (q : Int) = (q : Int) := IntWalk.u64_in _ (by omega)
    obtain ⟨-, k3, -⟩ := HR.out w3 Hb3.out
    obtain ⟨c0, c1, c2, c3, c4⟩ := cell5 k3
    rw [hq] at c0
    have HP := Lib.hid (refUint_any w3 q (by omega)); have Hq := Lib.hid (show x.frm = (q : Int) from hq); have Hkn := Lib.hid hkn; have Hvt := Lib.hid hvt
    have hx8 : x.seen.length = 8 := hkn.len
    have Hx8 := Lib.hid hx8
    clear hdv hkn hvt hd hq k3 hx8
    go_wp2_with fail
    refine HP.out.mono ?_
    rintro e w4 ⟨⟨r, rfl, hor⟩, hb4⟩
    have hL4 := Hb3.out.trans (hb4.mono Hb3.out.size)
    have Hst := Lib.hid (show w4.ownsRow wx.heap.size 5 1 r (encTo x 0).length ((encTo x 0).map B) ∧ Below wx.heap.size wx w4 by
      have e : encTo x 0 = uvar q := by unfold encTo; rw [Hq.out]; simp
      rw [e]
      exact ⟨own_base hor Hb3.out.size, hL4⟩)
    clear HP c0 c1 c2 c3 c4 hor hb4 hL4 hw
    go_wp2_with fail
    go_loopw [4, 5] (fun b i wr => ∃ k : Nat, k ≤ 8 ∧ i = .int .i64 (k : Int) ∧ wr.ownsRow wx.heap.size 5 1 b (encTo x k).length ((encTo x k).map B) ∧ Below wx.heap.size wx wr) (fun _ i _ => 8 - (intOf i).toNat)
    case atStart => exact ⟨0, by omega, rfl, Hst.out⟩
    case round =>
      obtain ⟨k, hk, rfl, hown, hbw⟩ := hrel
      obtain ⟨hB, kx, mx⟩ := HR.out wr hbw
      have hlen := encTo_len x k hk
      obtain ⟨L0, hL0⟩ : ∃ L, encTo x k = L := ⟨_, rfl⟩
      rw [hL0] at hown hlen
      obtain ⟨ab, cb, rfl⟩ := own_shape hown
      obtain ⟨c0, c1, c2, c3, c4⟩ := cell5 kx
      rw [Hx8.out] at c1
      by_cases hk8 : k < 8
      · have hkI : (k : Int) < 8 := by omega
        have hkl : k < x.seen.length := by rw [Hx8.out]; exact hk8
        have hseen := mx.seen
        rw [Hx8.out] at hseen
        obtain ⟨b, off, rfl, -, -, hc⟩ := int_cell (l := x.seen) (n := 8) (by rw [Hx8.out]; exact hseen) (by omega)
        have e0 := hc k hkl
        have hs := encTo_succ x k hkl
        obtain ⟨y, hy⟩ : ∃ y, x.seen[k] = y := ⟨_, rfl⟩
        have hyb := Hkn.out.num y (by rw [← hy]; exact List.getElem_mem _)
        rw [hy] at e0 hs
        rw [hL0] at hs
        obtain ⟨p, rfl⟩ := Int.eq_ofNat_of_zero_le hyb.1
        have hw : IntKind.u64.wrap (p : Int) = (p : Int) := IntWalk.u64_in _ (by omega)
        have HP := Lib.hid (refUint_any wr p (by omega))
        have Hs := Lib.hid hs; have Hbw := Lib.hid hbw; have Hown := Lib.hid hown; have Hlen := Lib.hid hlen
        clear hown hc hs hy hL0 kx mx hseen hB hbw hlen c0 c2 c3 c4
        go_wp2_with fail
        refine HP.out.mono ?_
        rintro e w6 ⟨⟨r6, rfl, ho6⟩, hb6⟩
        obtain ⟨v7, w7, hr7, ho7, hg7⟩ := run_append_bytes w6 wx.heap.size (.slice ab L0.length cb) L0 (own_below Hown.out hb6) _ r6 (uvar p) (Bytes.of_owns ho6 (fun _ => True) (fun _ _ _ => trivial)) (by have := Hlen.out; have := uvar_len p; omega) (Nat.le_trans Hbw.out.size hb6.size)
        have Hst7 := Lib.hid (show w7.ownsRow wx.heap.size 5 1 v7 (encTo x (k + 1)).length ((encTo x (k + 1)).map B) ∧ Below wx.heap.size wx w7 by
          rw [Hs.out]
          exact ⟨ho7, (Hbw.out.trans (hb6.mono Hbw.out.size)).trans (Below.grownOwn (own_below Hown.out hb6) hg7 (Nat.le_trans Hbw.out.size hb6.size) (Nat.le_refl _))⟩)
        obtain ⟨a7, c7, rfl⟩ := own_shape ho7
        obtain ⟨n7, hn7⟩ : ∃ n, (L0 ++ uvar p).length = n := ⟨_, rfl⟩
        obtain ⟨a6, c6, rfl⟩ := own_shape ho6
        obtain ⟨n6, hn6⟩ : ∃ n, (uvar p).length = n := ⟨_, rfl⟩
        rw [hn7] at hr7 Hst7
        rw [hn6] at hr7 ⊢
        clear HP ho6 hb6 e0 hw hn6 hn7 ho7 hg7 c1
        go_wp2_with fail
        go_roundw
        case rel => exact ⟨k + 1, by omega, by go_num, Hst7.out⟩
        case measure => simp [intOf]; omega
      · have hkI : ¬ (k : Int) < 8 := by omega
        have hke : k = 8 := by omega
        subst hke
        have hL8 : L0 ++ codeR x.tell = codeS x := by rw [← hL0]; exact encTo_all x Hx8.out
        have hE := rencode_any wr _ (.agg #[.slice a1 x.tell.seen.length p1, .slice a2 x.tell.items.length p2, .slice a3 x.tell.gone.length p3]) x.tell ⟨_, _, _, rfl, mx.tell⟩ Hki.out Hkg.out
        rw [show encR x.tell = (codeR x.tell, 0) by unfold encR; rw [Hvt.out]; rfl] at hE
        have HE := Lib.hid hE; have HL8 := Lib.hid hL8; have Hown := Lib.hid hown; have Hbw := Lib.hid hbw
        obtain ⟨n0, hn0⟩ : ∃ n, L0.length = n := ⟨_, rfl⟩
        have Hn0 := Lib.hid hn0
        have Hc := Lib.hid (valid_lens Hvt.out).2.2.2
        rw [hn0] at hlen ⊢
        clear hE hL8 hown hbw hL0 kx mx hB hn0
        go_wp2_with fail
        refine HE.out.mono ?_
        rintro e w6 ⟨⟨v6, rfl, hby⟩, hb6⟩
        obtain ⟨v7, w7, hr7, ho7, hg7⟩ := run_append_bytes w6 wx.heap.size (.slice ab L0.length cb) L0 (own_below Hown.out hb6) _ v6 (codeR x.tell) hby (by have := Hc.out; have := Hn0.out; omega) (Nat.le_trans Hbw.out.size hb6.size)
        rw [HL8.out] at ho7
        have hb67 : Below wx.heap.size wx w7 := (Hbw.out.trans (hb6.mono Hbw.out.size)).trans (Below.grownOwn (own_below Hown.out hb6) hg7 (Nat.le_trans Hbw.out.size hb6.size) (Nat.le_refl _))
        have Hfin := Lib.hid (show Bytes (fun _ => True) w7 v7 (codeS x) ∧ Below w.heap.size w w7 from ⟨Bytes.of_owns ho7 _ (fun _ _ _ => trivial), (HR.out w7 hb67).1⟩)
        obtain ⟨a6, c6, rfl, -⟩ := hby
        rw [Hn0.out] at hr7
        obtain ⟨nc, hnc⟩ : ∃ n, (codeR x.tell).length = n := ⟨_, rfl⟩
        rw [hnc] at hr7 ⊢
        clear HE ho7 hg7 hb6 hb67 hnc c0 c1 c2 c3 c4
        go_wp2_with fail
        exact bodyPost_ret (v := .tuple #[v7, .int .i64 0]) (by simp [results, Tryz.results26, go_sem]) rfl ⟨⟨_, by rw [He.out], by rw [He.out]; exact Hfin.out.1⟩, Hfin.out.2⟩
end Go.Proofs.YtkkacnfpdafadaaGreatDoor

namespace Go.Proofs.YtkkacnfpdafadaaGreatDoor
open Go.RowKit Go.Lib
set_option linter.unusedVariables false
set_option maxRecDepth 20000
attribute [local go_sem] opC upC

theorem smallS_of {x : SMsg} (h : Small x.tell) (hs : x.seen.length ≤ 20) : SmallS x := ⟨by omega, by have := h.seen; omega, by have := h.items; omega, by have := h.gone; omega⟩
set_option maxRecDepth 100000 in
set_option maxHeartbeats 4000000 in
theorem ShareEncodes_walk (v : Value) (w : World) (hv : IsSMsg w v) (hq : Tabs w ∧ 3 ≤ w.heap.size) :
    Calls Tryz.prog 5 #[v] w fun e w' => e = .returned (.bool true) ∧ Below w.heap.size w w' := by
  obtain ⟨x, h⟩ := hv
  have HTb := Lib.hid (show ∀ w', Below w.heap.size w w' → Tabs w' ∧ 3 ≤ w'.heap.size from fun w' hb => ⟨tabs_below hq.1 hq.2 hb, Nat.le_trans hq.2 hb.size⟩)
  clear hq
  obtain ⟨sv, s1, s2, s3, rfl, h⟩ := h
  obtain ⟨a0, p0, rfl, -⟩ := h.seen.shape
  obtain ⟨a1, p1, rfl, -⟩ := h.tell.seen.shape
  obtain ⟨a2, p2, rfl, -⟩ := h.tell.items.shape
  obtain ⟨a3, p3, rfl, -⟩ := h.tell.gone.shape
  obtain ⟨wx, hwx⟩ : ∃ qq, qq = w.alloc (.cells #[.int .i64 x.frm, .slice a0 x.seen.length p0, .slice a1 x.tell.seen.length p1, .slice a2 x.tell.items.length p2, .slice a3 x.tell.gone.length p3] 43) := ⟨_, rfl⟩
  have hbx : Below w.heap.size w wx := by rw [hwx]; exact kept_alloc _ _
  have hzx : wx.heap.size = w.heap.size + 1 := by rw [hwx]; simp
  have hx := h.keep (w' := wx) fun b _ hlt => hbx.block b hlt
  have hnx : Blk wx w.heap.size [.int .i64 x.frm, .slice a0 x.seen.length p0, .slice a1 x.tell.seen.length p1, .slice a2 x.tell.items.length p2, .slice a3 x.tell.gone.length p3] 43 := by rw [hwx]; exact Blk.new _ _ _
  have Hx := Lib.hid hx
  have Hwx := Lib.hid hwx; have Hbx := Lib.hid hbx; have Hzx := Lib.hid hzx
  have Hnx := Lib.hid hnx
  clear hx hwx hbx hnx hzx h
  have HF := Lib.hid (few_any wx _ (.agg #[.slice a1 x.tell.seen.length p1, .slice a2 x.tell.items.length p2, .slice a3 x.tell.gone.length p3]) x.tell ⟨_, _, _, rfl, Hx.out.tell⟩)
  have HR := Lib.hid (show ∀ W, Below wx.heap.size wx W → Below w.heap.size w W ∧ Blk W w.heap.size [.int .i64 x.frm, .slice a0 x.seen.length p0, .slice a1 x.tell.seen.length p1, .slice a2 x.tell.items.length p2, .slice a3 x.tell.gone.length p3] 43 ∧ MsgIn (fun q => q < w.heap.size) W (.slice a0 x.seen.length p0) (.slice a1 x.tell.seen.length p1) (.slice a2 x.tell.items.length p2) (.slice a3 x.tell.gone.length p3) x from fun W hW => by
    have hz := Hzx.out
    exact ⟨Hbx.out.trans (hW.mono (by omega)), Hnx.out.keep (hW.block _ (by omega)), Hx.out.keep (w' := W) fun q hq hlt => hW.block q hlt⟩)
  have hls := Hx.out.seen.len
  unfold maxLen at hls
  obtain ⟨c0, c1, c2, c3, c4⟩ := cell5 Hnx.out
  go_enter Tryz.func5, Tryz.ntmps5
  go_wp2_with fail
  rw [← Hwx.out]
  refine HF.out.mono ?_
  rintro e w1 ⟨r, rfl, hsm, hb1⟩
  obtain ⟨hB1, k1, m1⟩ := HR.out w1 hb1
  have Hb1 := Lib.hid hb1; have HB1 := Lib.hid hB1
  clear HF c0 c1 c2 c3 c4 hb1 hB1
  obtain ⟨c0, c1, c2, c3, c4⟩ := cell5 k1
  cases r with
  | false =>
    clear hsm k1 m1
    go_wp2_with fail
    go_ret
    exact ⟨rfl, HB1.out⟩
  | true =>
    have hsm := hsm rfl
    by_cases h20 : (x.seen.length : Int) > 20
    · have d1 : decide ((x.seen.length : Int) > 20) = true := by simpa using h20
      clear hsm k1 m1
      go_wp2_with fail
      go_ret
      exact ⟨rfl, HB1.out⟩
    have d1 : decide ((x.seen.length : Int) > 20) = false := by simpa using h20
    have h20' : x.seen.length ≤ 20 := by omega
    have kI : ∀ y ∈ x.tell.items, y.key.length ≤ 1000000 := fun y hy => by have := hsm.ikeys y hy; omega
    have kG : ∀ y ∈ x.tell.gone, y.key.length ≤ 1000000 := fun y hy => by have := hsm.gkeys y hy; omega
    have HS := Lib.hid (sent_any w1 _ (.agg #[.int .i64 x.frm, .slice a0 x.seen.length p0, .slice a1 x.tell.seen.length p1, .slice a2 x.tell.items.length p2, .slice a3 x.tell.gone.length p3]) x ⟨_, _, _, _, rfl, m1⟩ (smallS_of hsm h20'))
    have KI := Lib.hid kI; have KG := Lib.hid kG
    obtain ⟨mr, hmr⟩ : ∃ mr, sencR x = mr := ⟨_, rfl⟩
    have Hmr := Lib.hid hmr
    clear hsm k1 m1 kI kG hmr h20'
    go_wp2_with fail
    refine HS.out.mono ?_
    rintro e w2 ⟨v2, rfl, hv2, hb2⟩
    have hE := sencode_any w2 (HTb.out _ (HB1.out.trans (hb2.mono HB1.out.size))).1 (HTb.out _ (HB1.out.trans (hb2.mono HB1.out.size))).2 _ v2 x hv2 KI.out KG.out
    obtain ⟨sv, t1, t2, t3, rfl, hm2⟩ := hv2
    obtain ⟨f0, g0, rfl, -⟩ := hm2.seen.shape
    obtain ⟨f1, g1, rfl, -⟩ := hm2.tell.seen.shape
    obtain ⟨f2, g2, rfl, -⟩ := hm2.tell.items.shape
    obtain ⟨f3, g3, rfl, -⟩ := hm2.tell.gone.shape
    rw [Hmr.out] at hE
    have HE := Lib.hid hE; have Hb2 := Lib.hid (Hb1.out.trans (hb2.mono Hb1.out.size))
    clear HS c0 c1 c2 c3 c4 hm2 hb2 hE
    go_wp2_with fail
    refine HE.out.mono ?_
    rintro e w3 ⟨⟨v3, rfl, hby3⟩, hb3⟩
    have hL3 := Hb2.out.trans (hb3.mono Hb2.out.size)
    obtain ⟨hB3, k3, m3⟩ := HR.out w3 hL3
    have hR := rsencode_any w3 _ (.agg #[.int .i64 x.frm, .slice a0 x.seen.length p0, .slice a1 x.tell.seen.length p1, .slice a2 x.tell.items.length p2, .slice a3 x.tell.gone.length p3]) x ⟨_, _, _, _, rfl, m3⟩ (fun y hy => by have := KI.out y hy; omega) (fun y hy => by have := KG.out y hy; omega)
    rw [Hmr.out] at hR
    obtain ⟨cb, ce⟩ := mr
    dsimp only at hby3 hR ⊢
    obtain ⟨a3', c3', rfl, -⟩ := id hby3
    obtain ⟨nb, hnb⟩ : ∃ nb, cb.length = nb := ⟨_, rfl⟩
    have HRr := Lib.hid hR; have HL3 := Lib.hid hL3; have Hby3 := Lib.hid hby3; have Hnb := Lib.hid hnb
    obtain ⟨c0, c1, c2, c3, c4⟩ := cell5 k3
    rw [hnb]
    clear HE k3 m3 hB3 hR hL3 hby3 hb3 hnb
    go_wp2_with fail
    refine HRr.out.mono ?_
    rintro e w4 ⟨⟨v4, rfl, hby4⟩, hb4⟩
    have hL4 := HL3.out.trans (hb4.mono HL3.out.size)
    have hB4 := (HR.out w4 hL4).1
    have h3' := Hby3.out.inside.keep (w' := w4) fun q hq _ => hb4.block q hq
    obtain ⟨a4', c4', rfl, -⟩ := id hby4
    have r3 := run_strB h3'
    have r4 := run_strB hby4
    rw [Hnb.out] at r3 r4
    have HWk := Lib.hid (works_any w4 (HTb.out _ hB4).1 (HTb.out _ hB4).2)
    have HB4 := Lib.hid hB4
    have hnb := Hnb.out
    rw [hnb]
    clear HRr c0 c1 c2 c3 c4 hb4 hL4 h3' hby4 hB4 hnb
    go_wp2_with fail
    refine HWk.out.mono ?_
    rintro e w5 ⟨rfl, hb5⟩
    clear HWk r3 r4
    go_wp2_with fail
    go_ret
    exact ⟨rfl, HB4.out.trans (hb5.mono HB4.out.size)⟩
end Go.Proofs.YtkkacnfpdafadaaGreatDoor
