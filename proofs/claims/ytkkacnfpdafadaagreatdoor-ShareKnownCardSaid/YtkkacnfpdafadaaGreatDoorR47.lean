/-
  REncP SEncM SEnc
-/
import Derived.Test.YtkkacnfpdafadaaGreatDoorR24
import Derived.Test.YtkkacnfpdafadaaGreatDoorR11
import Derived.Test.YtkkacnfpdafadaaGreatDoorR27
import Derived.Test.YtkkacnfpdafadaaGreatDoorR33
namespace Go.Proofs.YtkkacnfpdafadaaGreatDoor
open Go.RowKit Go.Lib
set_option linter.unusedVariables false
set_option maxRecDepth 20000
attribute [local go_sem ↓] seal_append
attribute [local go_sem] opC upC

def encR (m : RMap) : List UInt8 × Int := if validR m then (codeR m, 0) else ([], 5)
def EncPost (w : World) (r : List UInt8 × Int) (e : Ending) (w' : World) : Prop := (∃ v, e = .returned (.tuple #[v, .int .i64 r.2]) ∧ Bytes (fun _ => True) w' v r.1) ∧ Below w.heap.size w w'
theorem bytes_nil (F : Blks) (w : World) : Bytes F w (.slice none 0 0) [] := ⟨none, 0, rfl, by simp, by unfold maxLen; omega, fun _ => rfl, .inl rfl⟩
theorem valid_codable {m : RMap} (h : validR m = true) : Codable m := codable_of_formed (valid_formed h) (valid_lens h).2.1 (valid_lens h).2.2.1

set_option maxRecDepth 100000 in
set_option maxHeartbeats 1500000 in
theorem pencode_any (w : World) (hT : Tabs w) (h3 : 3 ≤ w.heap.size) (F : Blks) (v : Value) (m : RMap) (h : MapV F w v m) (hki : ∀ x ∈ m.items, x.key.length ≤ 1000000) (hkg : ∀ x ∈ m.gone, x.key.length ≤ 1000000) :
    Calls Tryz.prog 54 #[v] w (EncPost w (encR m)) := by
  replace h := h.mono (G := fun b => b < w.heap.size) fun b _ hlt => hlt
  obtain ⟨s1, s2, s3, rfl, h⟩ := h
  obtain ⟨a1, p1, rfl, -⟩ := h.seen.shape
  obtain ⟨a2, p2, rfl, -⟩ := h.items.shape
  obtain ⟨a3, p3, rfl, -⟩ := h.gone.shape
  have l1 := h.seen.len
  have l2 := h.items.len
  have l3 := h.gone.len
  unfold maxLen at l1 l2 l3
  obtain ⟨n1, hn1⟩ : ∃ n, m.seen.length = n := ⟨_, rfl⟩
  obtain ⟨n2, hn2⟩ : ∃ n, m.items.length = n := ⟨_, rfl⟩
  obtain ⟨n3, hn3⟩ : ∃ n, m.gone.length = n := ⟨_, rfl⟩
  rw [hn1, hn2, hn3] at h
  rw [hn1] at l1 ⊢
  rw [hn2] at l2 ⊢
  rw [hn3] at l3 ⊢
  obtain ⟨wx, hwx⟩ : ∃ wx, wx = w.alloc (.cells #[.slice a1 n1 p1, .slice a2 n2 p2, .slice a3 n3 p3] 31) := ⟨_, rfl⟩
  have hbx : Below w.heap.size w wx := by rw [hwx]; exact kept_alloc _ _
  have hzx : wx.heap.size = w.heap.size + 1 := by rw [hwx]; simp
  have hx := h.keep (w' := wx) fun b _ hlt => hbx.block b hlt
  have hnx : Blk wx w.heap.size [.slice a1 n1 p1, .slice a2 n2 p2, .slice a3 n3 p3] 31 := by rw [hwx]; exact Blk.new _ _ _
  have Hx := Lib.hid hx; have Hn1 := Lib.hid hn1; have Hn2 := Lib.hid hn2; have Hn3 := Lib.hid hn3
  have Hwx := Lib.hid hwx; have Hbx := Lib.hid hbx; have Hzx := Lib.hid hzx
  have c0 := hnx.cell 0
  have c1 := hnx.cell 1
  have c2 := hnx.cell 2
  simp at c0 c1 c2
  have Hnx := Lib.hid hnx
  clear hx hn1 hn2 hn3 hwx hbx hnx hzx
  clear h
  have HC := Lib.hid (check_any wx (tabs_below hT h3 Hbx.out) (by rw [Hzx.out]; omega) _ (.agg #[.slice a1 n1 p1, .slice a2 n2 p2, .slice a3 n3 p3]) m ⟨_, _, _, rfl, Hx.out⟩ hki hkg)
  obtain ⟨ok, hok⟩ : ∃ ok, validR m = ok := ⟨_, rfl⟩
  rw [hok] at HC
  have Hok := Lib.hid hok
  clear hok hT hki hkg c0 c1 c2
  go_enter Tryz.func54, Tryz.ntmps54
  go_wp2_with fail
  rw [← Hwx.out]
  refine HC.out.mono ?_
  rintro e w3 ⟨rfl, hb3⟩
  have Hb3 := Lib.hid (Hbx.out.trans (hb3.mono Hbx.out.size))
  obtain ⟨d0, d1, d2⟩ := cell3 (Hnx.out.keep (hb3.block _ Hnx.out.lt))
  have Hx3 := Lib.hid (Hx.out.keep (w' := w3) fun b _ hlt => hb3.block b hlt)
  clear HC hb3
  cases ok with
  | false =>
    have He := Lib.hid (show encR m = ([], 5) by unfold encR; rw [Hok.out]; rfl)
    go_wp2_with fail
    exact bodyPost_ret (v := .tuple #[.slice none 0 0, .int .i64 5]) (by simp [results, Tryz.results54, go_sem]) rfl ⟨⟨_, by rw [He.out], by rw [He.out]; exact bytes_nil _ _⟩, Hb3.out⟩
  | true =>
    have He := Lib.hid (show encR m = (codeR m, 0) by unfold encR; rw [Hok.out]; rfl)
    have HS := Lib.hid (code_any w3 _ (.agg #[.slice a1 n1 p1, .slice a2 n2 p2, .slice a3 n3 p3]) m ⟨_, _, _, rfl, Hx3.out⟩ (valid_codable Hok.out))
    go_wp2_with fail
    refine HS.out.mono ?_
    rintro e w4 ⟨⟨r, rfl, hr⟩, hb4⟩
    have Hb4 := Lib.hid (Hb3.out.trans (hb4.mono Hb3.out.size)); have Hr := Lib.hid hr
    clear hb4 hr HS
    go_wp2_with fail
    exact bodyPost_ret (v := .tuple #[r, .int .i64 0]) (by simp [results, Tryz.results54, go_sem]) rfl ⟨⟨_, by rw [He.out], by rw [He.out]; exact Hr.out⟩, Hb4.out⟩

end Go.Proofs.YtkkacnfpdafadaaGreatDoor

namespace Go.Proofs.YtkkacnfpdafadaaGreatDoor
set_option linter.unusedVariables false
set_option maxRecDepth 20000

theorem svalid_enc {x : SMsg} (h : svalid x = true) : devOk x.frm = true ∧ Knows x.seen ∧ validR x.tell = true := by
  unfold svalid at h
  simp only [Bool.and_eq_true] at h
  exact ⟨h.1.1.1, (knows_iff _).1 h.1.1.2, h.1.2⟩
def encTo (x : SMsg) (k : Nat) : List UInt8 := uvar x.frm.toNat ++ (x.seen.take k).flatMap fun n => uvar n.toNat
theorem encTo_len (x : SMsg) (k : Nat) (h : k ≤ 8) : (encTo x k).length ≤ 100 := by
  unfold encTo
  have h1 := flat_len_le (fun n : Int => uvar n.toNat) 10 (x.seen.take k) fun n _ => uvar_len _
  have h2 : (x.seen.take k).length ≤ 8 := by simp; omega
  have h3 := uvar_len x.frm.toNat
  simp only [List.length_append]; omega
theorem encTo_succ (x : SMsg) (k : Nat) (h : k < x.seen.length) : encTo x (k + 1) = encTo x k ++ uvar x.seen[k].toNat := by
  unfold encTo
  rw [flat_take _ _ _ h, List.append_assoc]
theorem encTo_all (x : SMsg) (h : x.seen.length = 8) : encTo x 8 ++ codeR x.tell = codeS x := by
  unfold encTo codeS
  rw [List.take_of_length_le (by omega), List.append_assoc]
end Go.Proofs.YtkkacnfpdafadaaGreatDoor

namespace Go.Proofs.YtkkacnfpdafadaaGreatDoor
open Go.RowKit Go.Lib
set_option linter.unusedVariables false
set_option maxRecDepth 20000
attribute [local go_sem ↓] seal_append
attribute [local go_sem] opC upC

set_option maxRecDepth 100000 in
set_option maxHeartbeats 4000000 in
theorem sencode_any (w : World) (hT : Tabs w) (h3 : 3 ≤ w.heap.size) (F : Blks) (v : Value) (x : SMsg) (h : MsgV F w v x) (hki : ∀ y ∈ x.tell.items, y.key.length ≤ 1000000) (hkg : ∀ y ∈ x.tell.gone, y.key.length ≤ 1000000) :
    Calls Tryz.prog 25 #[v] w (EncPost w (sencR x)) := by
  replace h := h.mono (G := fun q => q < w.heap.size) fun q _ hlt => hlt
  obtain ⟨sv, s1, s2, s3, rfl, h⟩ := h
  obtain ⟨a0, p0, rfl, -⟩ := h.seen.shape
  obtain ⟨a1, p1, rfl, -⟩ := h.tell.seen.shape
  obtain ⟨a2, p2, rfl, -⟩ := h.tell.items.shape
  obtain ⟨a3, p3, rfl, -⟩ := h.tell.gone.shape
  obtain ⟨wx, hwx⟩ : ∃ qq, qq = w.alloc (.cells #[.int .i64 x.frm, .slice a0 x.seen.length p0, .slice a1 x.tell.seen.length p1, .slice a2 x.tell.items.length p2, .slice a3 x.tell.gone.length p3] 39) := ⟨_, rfl⟩
  have hbx : Below w.heap.size w wx := by rw [hwx]; exact kept_alloc _ _
  have hzx : wx.heap.size = w.heap.size + 1 := by rw [hwx]; simp
  have hx := h.keep (w' := wx) fun b _ hlt => hbx.block b hlt
  have hnx : Blk wx w.heap.size [.int .i64 x.frm, .slice a0 x.seen.length p0, .slice a1 x.tell.seen.length p1, .slice a2 x.tell.items.length p2, .slice a3 x.tell.gone.length p3] 39 := by rw [hwx]; exact Blk.new _ _ _
  have Hx := Lib.hid hx
  have Hwx := Lib.hid hwx; have Hbx := Lib.hid hbx; have Hzx := Lib.hid hzx
  have Hnx := Lib.hid hnx
  clear hx hwx hbx hnx hzx h
  have HTb := Lib.hid (show ∀ W, Below w.heap.size w W → Tabs W ∧ 3 ≤ W.heap.size from fun W hW => ⟨tabs_below hT h3 hW, Nat.le_trans h3 hW.size⟩)
  have HR := Lib.hid (show ∀ W, Below wx.heap.size wx W → Below w.heap.size w W ∧ Blk W w.heap.size [.int .i64 x.frm, .slice a0 x.seen.length p0, .slice a1 x.tell.seen.length p1, .slice a2 x.tell.items.length p2, .slice a3 x.tell.gone.length p3] 39 ∧ MsgIn (fun q => q < w.heap.size) W (.slice a0 x.seen.length p0) (.slice a1 x.tell.seen.length p1) (.slice a2 x.tell.items.length p2) (.slice a3 x.tell.gone.length p3) x from fun W hW => by
    have hz := Hzx.out
    exact ⟨Hbx.out.trans (hW.mono (by omega)), Hnx.out.keep (hW.block _ (by omega)), Hx.out.keep (w' := W) fun q hq hlt => hW.block q hlt⟩)
  have HV := Lib.hid (svalid_any wx (HTb.out wx Hbx.out).1 (HTb.out wx Hbx.out).2 _ (.agg #[.int .i64 x.frm, .slice a0 x.seen.length p0, .slice a1 x.tell.seen.length p1, .slice a2 x.tell.items.length p2, .slice a3 x.tell.gone.length p3]) x ⟨_, _, _, _, rfl, (HR.out wx (Below.refl _ _)).2.2⟩ hki hkg)
  obtain ⟨sv, hsv⟩ : ∃ sv, svalid x = sv := ⟨_, rfl⟩
  rw [hsv] at HV
  have Hsv := Lib.hid hsv; have Hki := Lib.hid hki; have Hkg := Lib.hid hkg
  obtain ⟨c0, c1, c2, c3, c4⟩ := cell5 Hnx.out
  clear hsv hki hkg hT
  go_enter Tryz.func25, Tryz.ntmps25
  go_wp2_with fail
  rw [← Hwx.out]
  refine HV.out.mono ?_
  rintro e w3 ⟨rfl, hb3⟩
  have Hb3 := Lib.hid hb3
  clear HV hb3 c0 c1 c2 c3 c4
  cases sv with
  | false =>
    have He := Lib.hid (show sencR x = ([], 5) by unfold sencR; rw [Hsv.out]; rfl)
    have Hb := Lib.hid (HR.out w3 Hb3.out).1
    go_wp2_with fail
    exact bodyPost_ret (v := .tuple #[.slice none 0 0, .int .i64 5]) (by simp [results, Tryz.results25, go_sem]) rfl ⟨⟨_, by rw [He.out], by rw [He.out]; exact bytes_nil _ _⟩, Hb.out⟩
  | true =>
    have He := Lib.hid (show sencR x = (codeS x, 0) by unfold sencR; rw [Hsv.out]; rfl)
    obtain ⟨hdv, hkn, hvt⟩ := svalid_enc Hsv.out
    have hd : 0 ≤ x.frm ∧ x.frm < 8 := by unfold devOk at hdv; simpa using hdv
    obtain ⟨q, hq⟩ := Int.eq_ofNat_of_zero_le hd.1
    have hq8 : q < 8 := by omega
    have hw : IntKind.u64.wrap (q : Int) = (q : Int) := IntWalk.u64_in _ (by omega)
    obtain ⟨-, k3, -⟩ := HR.out w3 Hb3.out
    obtain ⟨c0, c1, c2, c3, c4⟩ := cell5 k3
    rw [hq] at c0
    have hP := putUint_any w3 (fun _ => True) (.slice none 0 0) [] (bytes_nil _ _) q (by omega) (by simp)
    rw [List.nil_append] at hP
    have HP := Lib.hid hP; have Hq := Lib.hid (show x.frm = (q : Int) from hq); have Hkn := Lib.hid hkn; have Hvt := Lib.hid hvt
    have hx8 : x.seen.length = 8 := hkn.len
    have Hx8 := Lib.hid hx8
    clear hdv hkn hvt hd hq k3 hP hx8
    go_wp2_with fail
    refine HP.out.mono ?_
    rintro e w4 ⟨⟨r, rfl, hor⟩, hb4⟩
    have hL4 := Hb3.out.trans (hb4.mono Hb3.out.size)
    obtain ⟨-, k4, -⟩ := HR.out w4 hL4
    have Hst := Lib.hid (show w4.ownsRow wx.heap.size 5 1 r (encTo x 0).length ((encTo x 0).map B) ∧ Below wx.heap.size wx w4 by
      have e : encTo x 0 = uvar q := by unfold encTo; rw [Hq.out]; simp
      rw [e]
      exact ⟨own_base hor Hb3.out.size, hL4⟩)
    clear HP c0 c1 c2 c3 c4 hor hb4 hL4 hw
    obtain ⟨c0, c1, c2, c3, c4⟩ := cell5 k4
    rw [Hx8.out] at c1
    clear k4
    go_wp2_with fail
    clear c0 c1 c2 c3 c4
    go_loopw [4, 19] (fun b i wr => ∃ k : Nat, k ≤ 8 ∧ i = .int .i64 (k : Int) ∧ wr.ownsRow wx.heap.size 5 1 b (encTo x k).length ((encTo x k).map B) ∧ Below wx.heap.size wx wr) (fun _ i _ => 8 - (intOf i).toNat)
    case atStart => exact ⟨0, by omega, rfl, Hst.out⟩
    case round =>
      obtain ⟨k, hk, rfl, hown, hbw⟩ := hrel
      obtain ⟨hB, kx, mx⟩ := HR.out wr hbw
      have hlen := encTo_len x k hk
      obtain ⟨L0, hL0⟩ : ∃ L, encTo x k = L := ⟨_, rfl⟩
      rw [hL0] at hown hlen
      obtain ⟨ab, cb, rfl⟩ := own_shape hown
      by_cases hk8 : k < 8
      · have hkI : (k : Int) < 8 := by omega
        have hkl : k < x.seen.length := by rw [Hx8.out]; exact hk8
        have hseen := mx.seen
        rw [Hx8.out] at hseen
        obtain ⟨b, off, rfl, -, -, hc⟩ := int_cell (l := x.seen) (n := 8) (by rw [Hx8.out]; exact hseen) (by omega)
        have e0 := hc k hkl
        have hs := encTo_succ x k hkl
        obtain ⟨y, hy⟩ : ∃ y, x.seen[k] = y := ⟨_, rfl⟩
        have hyb := Hkn.out.num y (by rw [← hy]; exact List.getElem_mem _)
        rw [hy] at e0 hs
        rw [hL0] at hs
        obtain ⟨p, rfl⟩ := Int.eq_ofNat_of_zero_le hyb.1
        have hw : IntKind.u64.wrap (p : Int) = (p : Int) := IntWalk.u64_in _ (by omega)
        have HP := Lib.hid (putUint_any wr _ (.slice ab L0.length cb) L0 (Bytes.of_owns hown (fun _ => True) (fun _ _ _ => trivial)) p (by omega) (by omega))
        obtain ⟨n0, hn0⟩ : ∃ n, L0.length = n := ⟨_, rfl⟩
        rw [hn0] at HP ⊢
        have Hs := Lib.hid hs; have Hbw := Lib.hid hbw
        clear hown hc hs hy hL0 kx mx hseen hn0 hB hbw hlen
        go_wp2_with fail
        refine HP.out.mono ?_
        rintro e w6 ⟨⟨r6, rfl, ho6⟩, hb6⟩
        have Hst6 := Lib.hid (show w6.ownsRow wx.heap.size 5 1 r6 (encTo x (k + 1)).length ((encTo x (k + 1)).map B) ∧ Below wx.heap.size wx w6 by
          rw [Hs.out]
          exact ⟨own_base ho6 Hbw.out.size, Hbw.out.trans (hb6.mono Hbw.out.size)⟩)
        obtain ⟨a6, c6, rfl⟩ := own_shape ho6
        obtain ⟨n6, hn6⟩ : ∃ n, (L0 ++ uvar p).length = n := ⟨_, rfl⟩
        rw [hn6] at Hst6 ⊢
        clear HP ho6 hb6 e0 hw hn6
        go_wp2_with fail
        go_roundw
        case rel => exact ⟨k + 1, by omega, by go_num, Hst6.out⟩
        case measure => simp [intOf]; omega
      · have hkI : ¬ (k : Int) < 8 := by omega
        have hke : k = 8 := by omega
        subst hke
        have hL8 : L0 ++ codeR x.tell = codeS x := by rw [← hL0]; exact encTo_all x Hx8.out
        have hE := pencode_any wr (HTb.out wr hB).1 (HTb.out wr hB).2 _ (.agg #[.slice a1 x.tell.seen.length p1, .slice a2 x.tell.items.length p2, .slice a3 x.tell.gone.length p3]) x.tell ⟨_, _, _, rfl, mx.tell⟩ Hki.out Hkg.out
        rw [show encR x.tell = (codeR x.tell, 0) by unfold encR; rw [Hvt.out]; rfl] at hE
        have HE := Lib.hid hE; have HL8 := Lib.hid hL8; have Hown := Lib.hid hown; have Hbw := Lib.hid hbw
        obtain ⟨c0, c1, c2, c3, c4⟩ := cell5 kx
        obtain ⟨n0, hn0⟩ : ∃ n, L0.length = n := ⟨_, rfl⟩
        have Hn0 := Lib.hid hn0
        have Hc := Lib.hid (valid_lens Hvt.out).2.2.2
        rw [hn0] at hlen ⊢
        clear hE hL8 hown hbw hL0 kx mx hB hn0
        go_wp2_with fail
        refine HE.out.mono ?_
        rintro e w6 ⟨⟨v6, rfl, hby⟩, hb6⟩
        obtain ⟨v7, w7, hr7, ho7, hg7⟩ := run_append_bytes w6 wx.heap.size (.slice ab L0.length cb) L0 (own_below Hown.out hb6) _ v6 (codeR x.tell) hby (by have := Hc.out; have := Hn0.out; omega) (Nat.le_trans Hbw.out.size hb6.size)
        rw [HL8.out] at ho7
        have hb67 : Below wx.heap.size wx w7 := (Hbw.out.trans (hb6.mono Hbw.out.size)).trans (Below.grownOwn (own_below Hown.out hb6) hg7 (Nat.le_trans Hbw.out.size hb6.size) (Nat.le_refl _))
        have Hfin := Lib.hid (show Bytes (fun _ => True) w7 v7 (codeS x) ∧ Below w.heap.size w w7 from ⟨Bytes.of_owns ho7 _ (fun _ _ _ => trivial), (HR.out w7 hb67).1⟩)
        obtain ⟨a6, c6, rfl, -⟩ := hby
        rw [Hn0.out] at hr7
        obtain ⟨nc, hnc⟩ : ∃ n, (codeR x.tell).length = n := ⟨_, rfl⟩
        rw [hnc] at hr7 ⊢
        clear HE ho7 hg7 hb6 hb67 hnc c0 c1 c2 c3 c4
        go_wp2_with fail
        exact bodyPost_ret (v := .tuple #[v7, .int .i64 0]) (by simp [results, Tryz.results25, go_sem]) rfl ⟨⟨_, by rw [He.out], by rw [He.out]; exact Hfin.out.1⟩, Hfin.out.2⟩
end Go.Proofs.YtkkacnfpdafadaaGreatDoor
