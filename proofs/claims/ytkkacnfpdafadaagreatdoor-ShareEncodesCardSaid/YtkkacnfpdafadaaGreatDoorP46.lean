/-
  SRef3
-/
import Derived.Test.YtkkacnfpdafadaaGreatDoorP40
import Derived.Test.YtkkacnfpdafadaaGreatDoorP45
namespace Go.Proofs.YtkkacnfpdafadaaGreatDoor
open Go.RowKit
set_option linter.unusedVariables false
set_option maxRecDepth 20000
attribute [local go_sem] opC upC

set_option maxRecDepth 100000 in
set_option maxHeartbeats 3000000 in
theorem rvalidS_any (w : World) (F : Blks) (v : Value) (x : SMsg) (h : MsgV F w v x) (hki : ∀ y ∈ x.tell.items, y.key.length ≤ 1000000000) (hkg : ∀ y ∈ x.tell.gone, y.key.length ≤ 1000000000) :
    Calls Tryz.prog 51 #[v] w fun e w' => e = .returned (.bool (svalid x)) ∧ Below w.heap.size w w' := by
  replace h := h.mono (G := fun q => q < w.heap.size) fun q _ hlt => hlt
  obtain ⟨sv, s1, s2, s3, rfl, h⟩ := h
  obtain ⟨a0, p0, rfl, -⟩ := h.seen.shape
  obtain ⟨a1, p1, rfl, -⟩ := h.tell.seen.shape
  obtain ⟨a2, p2, rfl, -⟩ := h.tell.items.shape
  obtain ⟨a3, p3, rfl, -⟩ := h.tell.gone.shape
  obtain ⟨wx, hwx⟩ : ∃ qq, qq = w.alloc (.cells #[.int .i64 x.frm, .slice a0 x.seen.length p0, .slice a1 x.tell.seen.length p1, .slice a2 x.tell.items.length p2, .slice a3 x.tell.gone.length p3] 43) := ⟨_, rfl⟩
  have hbx : Below w.heap.size w wx := by rw [hwx]; exact kept_alloc _ _
  have hzx : wx.heap.size = w.heap.size + 1 := by rw [hwx]; simp
  have hx := h.keep (w' := wx) fun b _ hlt => hbx.block b hlt
  have hnx : Blk wx w.heap.size [.int .i64 x.frm, .slice a0 x.seen.length p0, .slice a1 x.tell.seen.length p1, .slice a2 x.tell.items.length p2, .slice a3 x.tell.gone.length p3] 43 := by rw [hwx]; exact Blk.new _ _ _
  have Hx := Lib.hid hx
  have Hwx := Lib.hid hwx; have Hbx := Lib.hid hbx; have Hzx := Lib.hid hzx
  have Hnx := Lib.hid hnx
  clear hx hwx hbx hnx hzx h
  have HR := Lib.hid (show ∀ W, Below wx.heap.size wx W → Below w.heap.size w W ∧ Blk W w.heap.size [.int .i64 x.frm, .slice a0 x.seen.length p0, .slice a1 x.tell.seen.length p1, .slice a2 x.tell.items.length p2, .slice a3 x.tell.gone.length p3] 43 ∧ MsgIn (fun q => q < w.heap.size) W (.slice a0 x.seen.length p0) (.slice a1 x.tell.seen.length p1) (.slice a2 x.tell.items.length p2) (.slice a3 x.tell.gone.length p3) x from fun W hW => by
    have hz := Hzx.out
    exact ⟨Hbx.out.trans (hW.mono (by omega)), Hnx.out.keep (hW.block _ (by omega)), Hx.out.keep (w' := W) fun q hq hlt => hW.block q hlt⟩)
  obtain ⟨d, hd⟩ : ∃ d, x.frm = d := ⟨_, rfl⟩
  obtain ⟨kv, hkv⟩ : ∃ kv, knowsR x.seen = kv := ⟨_, rfl⟩
  obtain ⟨ok, hok⟩ : ∃ ok, validR x.tell = ok := ⟨_, rfl⟩
  have HS := Lib.hid (show svalid x = (devOk d && kv && ok && x.tell.items.all fun i => !seqIn x.seen i) by unfold svalid; rw [hd, hkv, hok])
  have HK := Lib.hid (rknow_any wx _ (.slice a0 x.seen.length p0) x.seen (HR.out wx (Below.refl _ _)).2.2.seen)
  rw [hkv] at HK
  have HV := Lib.hid (rvalid2_any wx _ (.agg #[.slice a1 x.tell.seen.length p1, .slice a2 x.tell.items.length p2, .slice a3 x.tell.gone.length p3]) x.tell ⟨_, _, _, rfl, (HR.out wx (Below.refl _ _)).2.2.tell⟩ hki hkg)
  rw [hok] at HV
  obtain ⟨c0, c1, c2, c3, c4⟩ := cell5 Hnx.out
  have Hd := Lib.hid hd; have Hkv := Lib.hid hkv; have Hok := Lib.hid hok
  rw [hd] at c0
  have Hwx' := Lib.hid (show wx = w.alloc (.cells #[.int .i64 d, .slice a0 x.seen.length p0, .slice a1 x.tell.seen.length p1, .slice a2 x.tell.items.length p2, .slice a3 x.tell.gone.length p3] 43) by rw [← hd]; exact Hwx.out)
  have hbx0 := Lib.hid Hbx.out
  rw [hd]
  clear hd hkv hok hki hkg
  go_enter Tryz.func51, Tryz.ntmps51
  by_cases hd0 : d < 0
  · have d0 : decide (d < 0) = true := by simpa using hd0
    have Hr := Lib.hid (show svalid x = false by rw [HS.out, show devOk d = false by unfold devOk; simp; omega]; rfl)
    go_wp2_with fail
    rw [← Hwx'.out]
    go_ret
    exact ⟨by rw [Hr.out]; first | done | rfl, hbx0.out⟩
  have d0 : decide (d < 0) = false := by simpa using hd0
  by_cases hd8 : d ≥ 8
  · have d1 : decide (d ≥ 8) = true := by simpa using hd8
    have hd8' : (8 : Int) ≤ d := hd8
    have Hr := Lib.hid (show svalid x = false by rw [HS.out, show devOk d = false by unfold devOk; simp; omega]; rfl)
    go_wp2_with fail
    rw [← Hwx'.out]
    go_ret
    exact ⟨by rw [Hr.out]; first | done | rfl, hbx0.out⟩
  have d1 : decide (d ≥ 8) = false := by simpa using hd8
  have hd8' : ¬ (8 : Int) ≤ d := hd8
  have hdk : devOk d = true := by unfold devOk; simp; omega
  rw [hdk] at HS
  clear hdk
  go_wp2_with fail
  rw [← Hwx'.out]
  refine HK.out.mono ?_
  rintro e w2 ⟨rfl, hw2⟩
  obtain rfl := hw2.symm
  clear HK hw2
  cases kv with
  | false =>
    have Hr := Lib.hid (show svalid x = false by rw [HS.out]; rfl)
    go_wp2_with fail
    go_ret
    exact ⟨by rw [Hr.out]; first | done | rfl, hbx0.out⟩
  | true =>
    go_wp2_with fail
    refine HV.out.mono ?_
    rintro e w3 ⟨rfl, hb3⟩
    clear HV c0 c1 c2 c3 c4
    cases ok with
    | false =>
      have Hr := Lib.hid (show svalid x = false by rw [HS.out]; rfl)
      have Hb := Lib.hid (HR.out w3 hb3).1
      clear hb3
      go_wp2_with fail
      go_ret
      exact ⟨by rw [Hr.out]; first | done | rfl, Hb.out⟩
    | true =>
      have hkn := (knows_iff x.seen).1 Hkv.out
      have f := valid_formed Hok.out
      have hlen : x.tell.items.length ≤ 4096 := (valid_lens Hok.out).2.1
      have hdev : ∀ y ∈ x.tell.items, 0 ≤ y.dev ∧ y.dev < (x.seen.length : Int) := fun y hy => by
        have := known_seq (f.iknown y hy)
        have h1 : y.pl.2 = y.dev := rfl
        rw [h1, f.len] at this
        rw [hkn.len]
        exact ⟨this.1, this.2.1⟩
      have Hdev := Lib.hid hdev; have Hb3 := Lib.hid hb3
      clear hdev f hkn hb3
      go_wp2_with fail
      go_loopw [3] (fun i wr => ∃ k : Nat, k ≤ x.tell.items.length ∧ i = .int .i64 (k : Int) ∧ Below wx.heap.size wx wr ∧ ∀ j (hj : j < x.tell.items.length), j < k → seqIn x.seen x.tell.items[j] = false) (fun i _ => x.tell.items.length - (intOf i).toNat)
      case atStart => exact ⟨0, by omega, rfl, Hb3.out, fun j _ hj => by omega⟩
      case round =>
        obtain ⟨k, hk, rfl, hbw, hall⟩ := hrel
        have Hall := Lib.hid hall; have Hbw := Lib.hid hbw
        clear hall hbw
        obtain ⟨hB, kx, mx⟩ := HR.out wr Hbw.out
        obtain ⟨c0, c1, c2, c3, c4⟩ := cell5 kx
        rw [Hd.out] at c0
        have HB := Lib.hid hB
        by_cases hkn : k < x.tell.items.length
        · have hkI : (k : Int) < (x.tell.items.length : Int) := by omega
          obtain ⟨bi, oi, rfl, -, -, hic⟩ := it_cell mx.tell.items (by omega)
          obtain ⟨x0, x1, x2, x3⟩ := hic k hkn
          have hxm := Hdev.out x.tell.items[k] (List.getElem_mem hkn)
          obtain ⟨it, hit⟩ : ∃ it, x.tell.items[k] = it := ⟨_, rfl⟩
          rw [hit] at x0 x1 x2 x3 hxm
          have Hit := Lib.hid hit
          obtain ⟨xk, xd, xs, xv⟩ := it
          dsimp only at x0 x1 x2 x3 hxm
          obtain ⟨q, rfl⟩ := Int.eq_ofNat_of_zero_le hxm.1
          have hqs : q < x.seen.length := by omega
          have hqI : (q : Int) < (x.seen.length : Int) := by omega
          obtain ⟨bs, os, rfl, -, -, hsc⟩ := int_cell mx.seen (by omega)
          have e0 := hsc q hqs
          obtain ⟨y, hy⟩ : ∃ y, x.seen[q] = y := ⟨_, rfl⟩
          rw [hy] at e0
          have Hsq := Lib.hid (show seqIn x.seen ⟨xk, (q : Int), xs, xv⟩ = decide (xs ≤ y) by
            unfold seqIn
            dsimp only
            rw [Int.toNat_natCast, List.getD_eq_getElem?_getD, List.getElem?_eq_getElem hqs, hy]
            rfl)
          clear hsc hy hic hit mx kx hxm hB
          by_cases hle : xs ≤ y
          · have Hr := Lib.hid (show svalid x = false by
              rw [HS.out, List.all_eq_false.2 ⟨_, List.getElem_mem hkn, by rw [Hit.out, Hsq.out, decide_eq_true hle]; simp⟩]
              rfl)
            have dle : decide (xs ≤ y) = true := decide_eq_true hle
            go_wp2_with fail
            go_quiet (fail)
            go_wp2_with fail
            go_ret
            exact ⟨by rw [Hr.out]; first | done | rfl, kept_drewN HB.out _⟩
          · have Hn := Lib.hid (show seqIn x.seen x.tell.items[k] = false by rw [Hit.out, Hsq.out, decide_eq_false hle])
            have dle : decide (xs ≤ y) = false := decide_eq_false hle
            go_wp2_with fail
            go_quiet (fail)
            go_wp2_with fail
            go_roundw
            case rel => exact ⟨k + 1, by omega, by go_num, kept_drewN Hbw.out _, fun j hj hjk => by
              rcases Nat.lt_succ_iff_lt_or_eq.1 hjk with h | h
              · exact Hall.out j hj h
              · subst h; exact Hn.out⟩
            case measure => simp [intOf]; omega
        · have hkI : ¬ (k : Int) < (x.tell.items.length : Int) := by omega
          have Hr := Lib.hid (show svalid x = true by
            rw [HS.out, List.all_eq_true.2 fun y hy => by
              obtain ⟨j, hj, rfl⟩ := List.mem_iff_getElem.1 hy
              rw [Hall.out j hj (by omega)]
              rfl]
            rfl)
          clear mx kx hB
          go_wp2_with fail
          go_ret
          exact ⟨by rw [Hr.out]; first | done | rfl, HB.out⟩
theorem svalid_partsR {x : SMsg} (h : svalid x = true) : Knows x.seen ∧ validR x.tell = true := by
  unfold svalid at h
  simp only [Bool.and_eq_true] at h
  exact ⟨(knows_iff _).1 h.1.1.2, h.1.2⟩
theorem ahead_iffR (s t : List Int) : aheadR s t = true ↔ ∃ i, i < 8 ∧ t.getD i 0 < s.getD i 0 := by
  unfold aheadR
  simp [List.any_eq_true]
theorem getD_getR {l : List Int} {k : Nat} (h : k < l.length) : l.getD k 0 = l[k] := by rw [List.getD_eq_getElem?_getD, List.getElem?_eq_getElem h]; rfl
set_option maxRecDepth 100000 in
set_option maxHeartbeats 4000000 in
theorem rrecv_any (w : World) (F G : Blks) (v : Value) (m : RMap) (h : MapV F w v m) (hki : ∀ y ∈ m.items, y.key.length ≤ 1000000000) (hkg : ∀ y ∈ m.gone, y.key.length ≤ 1000000000) (xv : Value) (x : SMsg) (hm : MsgV G w xv x) (hxi : ∀ y ∈ x.tell.items, y.key.length ≤ 1000000000) (hxg : ∀ y ∈ x.tell.gone, y.key.length ≤ 1000000000) :
    Calls Tryz.prog 24 #[v, xv] w (RPost w (recvR m x)) := by
  replace h := h.mono (G := fun q => q < w.heap.size) fun q _ hlt => hlt
  replace hm := hm.mono (G := fun q => q < w.heap.size) fun q _ hlt => hlt
  obtain ⟨s1, s2, s3, rfl, h⟩ := h
  obtain ⟨a1, p1, rfl, -⟩ := h.seen.shape
  obtain ⟨a2, p2, rfl, -⟩ := h.items.shape
  obtain ⟨a3, p3, rfl, -⟩ := h.gone.shape
  obtain ⟨wx, hwx⟩ : ∃ wx, wx = w.alloc (.cells #[.slice a1 m.seen.length p1, .slice a2 m.items.length p2, .slice a3 m.gone.length p3] 26) := ⟨_, rfl⟩
  have hbx : Below w.heap.size w wx := by rw [hwx]; exact kept_alloc _ _
  have hzx : wx.heap.size = w.heap.size + 1 := by rw [hwx]; simp
  have hx := h.keep (w' := wx) fun b _ hlt => hbx.block b hlt
  have hnx : Blk wx w.heap.size [.slice a1 m.seen.length p1, .slice a2 m.items.length p2, .slice a3 m.gone.length p3] 26 := by rw [hwx]; exact Blk.new _ _ _
  have Hx := Lib.hid hx
  have Hwx := Lib.hid hwx; have Hbx := Lib.hid hbx; have Hzx := Lib.hid hzx
  have Hnx := Lib.hid hnx
  clear hx hwx hbx hnx hzx h
  replace hm : MsgV (fun q => q < w.heap.size) wx xv x := hm.keep (w' := wx) fun q _ hlt => Hbx.out.block q hlt
  obtain ⟨svm, s1m, s2m, s3m, rfl, hm⟩ := hm
  obtain ⟨a0m, p0m, rfl, -⟩ := hm.seen.shape
  obtain ⟨a1m, p1m, rfl, -⟩ := hm.tell.seen.shape
  obtain ⟨a2m, p2m, rfl, -⟩ := hm.tell.items.shape
  obtain ⟨a3m, p3m, rfl, -⟩ := hm.tell.gone.shape
  obtain ⟨wxm, hwxm⟩ : ∃ qq, qq = wx.alloc (.cells #[.int .i64 x.frm, .slice a0m x.seen.length p0m, .slice a1m x.tell.seen.length p1m, .slice a2m x.tell.items.length p2m, .slice a3m x.tell.gone.length p3m] 43) := ⟨_, rfl⟩
  have hbxm : Below wx.heap.size wx wxm := by rw [hwxm]; exact kept_alloc _ _
  have hzxm : wxm.heap.size = wx.heap.size + 1 := by rw [hwxm]; simp
  have hxm := hm.keep (w' := wxm) fun b _ hlt => hbxm.block b hlt
  have hnxm : Blk wxm wx.heap.size [.int .i64 x.frm, .slice a0m x.seen.length p0m, .slice a1m x.tell.seen.length p1m, .slice a2m x.tell.items.length p2m, .slice a3m x.tell.gone.length p3m] 43 := by rw [hwxm]; exact Blk.new _ _ _
  have Hxm := Lib.hid hxm
  have Hwxm := Lib.hid hwxm; have Hbxm := Lib.hid hbxm; have Hzxm := Lib.hid hzxm
  have Hnxm := Lib.hid hnxm
  clear hxm hwxm hbxm hnxm hzxm hm
  obtain ⟨w2, hw2⟩ : ∃ w2, w2 = wxm.alloc (.cells #[.slice none 0 0, .slice none 0 0, .slice none 0 0] 26) := ⟨_, rfl⟩
  have hzm : wxm.heap.size = w.heap.size + 2 := by rw [Hzxm.out, Hzx.out]
  have hz2 : w2.heap.size = w.heap.size + 3 := by rw [hw2]; simp [hzm]
  have hbm : Below w.heap.size w wxm := Hbx.out.trans (Hbxm.out.mono Hbx.out.size)
  have hb2 : Below w.heap.size w w2 := by rw [hw2]; exact hbm.alloc hbm.size _
  have ka : Blk w2 w.heap.size [.slice a1 m.seen.length p1, .slice a2 m.items.length p2, .slice a3 m.gone.length p3] 26 := by rw [hw2]; exact (Hnx.out.keep (Hbxm.out.block _ Hnx.out.lt)).alloc _
  have kb : Blk w2 (w.heap.size + 1) [.int .i64 x.frm, .slice a0m x.seen.length p0m, .slice a1m x.tell.seen.length p1m, .slice a2m x.tell.items.length p2m, .slice a3m x.tell.gone.length p3m] 43 := by
    have := Hnxm.out
    rw [Hzx.out] at this
    rw [hw2]; exact this.alloc _
  have kr : Blk w2 (w.heap.size + 1 + 1) [.slice none 0 0, .slice none 0 0, .slice none 0 0] 26 := by
    have := Blk.new wxm #[.slice none 0 0, .slice none 0 0, .slice none 0 0] 26
    rw [← hw2, hzm] at this
    exact this
  have hMa := Hx.out
  have hMb := Hxm.out
  have HR := Lib.hid (show ∀ W, Below w2.heap.size w2 W → Below w.heap.size w W ∧ Blk W w.heap.size [.slice a1 m.seen.length p1, .slice a2 m.items.length p2, .slice a3 m.gone.length p3] 26 ∧ Blk W (w.heap.size + 1) [.int .i64 x.frm, .slice a0m x.seen.length p0m, .slice a1m x.tell.seen.length p1m, .slice a2m x.tell.items.length p2m, .slice a3m x.tell.gone.length p3m] 43 ∧ Blk W (w.heap.size + 1 + 1) [.slice none 0 0, .slice none 0 0, .slice none 0 0] 26 ∧ MapIn (fun q => q < w.heap.size) W (.slice a1 m.seen.length p1) (.slice a2 m.items.length p2) (.slice a3 m.gone.length p3) m ∧ MsgIn (fun q => q < w.heap.size) W (.slice a0m x.seen.length p0m) (.slice a1m x.tell.seen.length p1m) (.slice a2m x.tell.items.length p2m) (.slice a3m x.tell.gone.length p3m) x from fun W hW => by
    have hB : Below w.heap.size w W := hb2.trans (hW.mono (by omega))
    exact ⟨hB, ka.keep (hW.block _ ka.lt), kb.keep (hW.block _ kb.lt), kr.keep (hW.block _ kr.lt), hMa.keep (w' := W) fun q hq _ => (hB.block q hq).trans (Hbx.out.block q hq).symm, hMb.keep (w' := W) fun q hq _ => (hB.block q hq).trans (hbm.block q hq).symm⟩)
  have HC := Lib.hid (rvalid2_any w2 _ (.agg #[.slice a1 m.seen.length p1, .slice a2 m.items.length p2, .slice a3 m.gone.length p3]) m ⟨_, _, _, rfl, (HR.out w2 (Below.refl _ _)).2.2.2.2.1⟩ hki hkg)
  have Hw2 := Lib.hid hw2; have Hz2 := Lib.hid hz2
  obtain ⟨c0, c1, c2⟩ := cell3 ka
  obtain ⟨ok, hok⟩ : ∃ ok, validR m = ok := ⟨_, rfl⟩
  rw [hok] at HC
  have Hok := Lib.hid hok; have Hki := Lib.hid hki; have Hkg := Lib.hid hkg; have Hxi := Lib.hid hxi; have Hxg := Lib.hid hxg
  clear hw2 hzm hz2 hbm hb2 ka kb kr hMa hMb hok hki hkg hxi hxg
  go_enter Tryz.func24, Tryz.ntmps24
  go_wp2_with fail
  rw [← Hwx.out, ← Hwxm.out, ← Hw2.out]
  refine HC.out.mono ?_
  rintro e w3 ⟨rfl, hb3⟩
  clear HC c0 c1 c2
  cases ok with
  | false =>
    have Hu := Lib.hid (show recvR m x = (.empty, 5) by unfold recvR; rw [Hok.out]; rfl)
    obtain ⟨hbel, -, -, kr, -⟩ := HR.out w3 hb3
    clear hb3
    obtain ⟨wf, hwf, hblk, hbf⟩ := fin3 kr hbel (by omega) (.slice none 0 0) (.slice none 0 0) (.slice none 0 0)
    obtain ⟨y0, y1, y2⟩ := cell3 kr
    have z0 := kr.free 0
    have z1 := kr.free 1
    have z2 := kr.free 2
    have Q := Lib.hid (cell3 hblk)
    have Hbf := Lib.hid hbf; have Hwf := Lib.hid hwf
    clear hwf hblk hbf
    go_wp2_with fail
    rw [← Hwf.out]
    obtain ⟨q0, q1, q2⟩ := Q.out
    exact bodyPost_ret (v := .tuple #[.agg #[.slice none 0 0, .slice none 0 0, .slice none 0 0], .int .i64 5]) (by simp [results, Tryz.results24, go_sem, q0, q1, q2]) rfl ⟨_, by rw [Hu.out], by rw [Hu.out]; exact mapV_empty _ _, Hbf.out⟩
  | true =>
    obtain ⟨hB3, -, kb, -, -, hmb⟩ := HR.out w3 hb3
    have HV := Lib.hid (rvalidS_any w3 _ (.agg #[.int .i64 x.frm, .slice a0m x.seen.length p0m, .slice a1m x.tell.seen.length p1m, .slice a2m x.tell.items.length p2m, .slice a3m x.tell.gone.length p3m]) x ⟨_, _, _, _, rfl, hmb⟩ Hxi.out Hxg.out)
    obtain ⟨sv, hsv⟩ : ∃ sv, svalid x = sv := ⟨_, rfl⟩
    rw [hsv] at HV
    have Hsv := Lib.hid hsv; have Hb3 := Lib.hid hb3
    obtain ⟨d0, d1, d2, d3, d4⟩ := cell5 kb
    clear kb hmb hsv hb3 hB3
    go_wp2_with fail
    refine HV.out.mono ?_
    rintro e w4 ⟨rfl, hb4⟩
    have hL4 : Below w2.heap.size w2 w4 := Hb3.out.trans (hb4.mono Hb3.out.size)
    clear HV d0 d1 d2 d3 d4 hb4
    cases sv with
    | false =>
      have Hu := Lib.hid (show recvR m x = (.empty, 5) by unfold recvR; rw [Hsv.out, Bool.and_false]; rfl)
      obtain ⟨hbel, -, -, kr, -⟩ := HR.out w4 hL4
      clear hL4
      obtain ⟨wf, hwf, hblk, hbf⟩ := fin3 kr hbel (by omega) (.slice none 0 0) (.slice none 0 0) (.slice none 0 0)
      obtain ⟨y0, y1, y2⟩ := cell3 kr
      have z0 := kr.free 0
      have z1 := kr.free 1
      have z2 := kr.free 2
      have Q := Lib.hid (cell3 hblk)
      have Hbf := Lib.hid hbf; have Hwf := Lib.hid hwf
      clear hwf hblk hbf
      go_wp2_with fail
      rw [← Hwf.out]
      obtain ⟨q0, q1, q2⟩ := Q.out
      exact bodyPost_ret (v := .tuple #[.agg #[.slice none 0 0, .slice none 0 0, .slice none 0 0], .int .i64 5]) (by simp [results, Tryz.results24, go_sem, q0, q1, q2]) rfl ⟨_, by rw [Hu.out], by rw [Hu.out]; exact mapV_empty _ _, Hbf.out⟩
    | true =>
      obtain ⟨hkn, hvt⟩ := svalid_partsR Hsv.out
      have hf := valid_formed Hok.out
      have hx8 := hkn.len
      have hm8 := hf.len
      have HL4 := Lib.hid hL4; have Hkn := Lib.hid hkn; have Hf := Lib.hid hf
      clear hkn hvt hf hL4
      have Hx8 := Lib.hid hx8; have Hm8 := Lib.hid hm8
      clear hx8 hm8
      go_wp2_with fail
      go_loopw [6] (fun i wr => ∃ k : Nat, k ≤ 8 ∧ i = .int .i64 (k : Int) ∧ Below w2.heap.size w2 wr ∧ ∀ j, j < k → ¬ m.seen.getD j 0 < x.seen.getD j 0) (fun i _ => 8 - (intOf i).toNat)
      case atStart => exact ⟨0, by omega, rfl, HL4.out, fun j hj => by omega⟩
      case round =>
        obtain ⟨k, hk, rfl, hL, hall⟩ := hrel
        have Hall := Lib.hid hall; have HL := Lib.hid hL
        clear hall
        by_cases hk8 : k < 8
        · have hkI : (k : Int) < 8 := by omega
          have hkn : k < x.seen.length := by rw [Hx8.out]; exact hk8
          have hkxI : (k : Int) < (x.seen.length : Int) := by omega
          have hka : k < m.seen.length := by rw [Hm8.out]; exact hk8
          have hkaI : (k : Int) < (m.seen.length : Int) := by omega
          obtain ⟨hbel, ka, kb, kr, hma, hmb⟩ := HR.out wr hL
          obtain ⟨bb, ob, rfl, -, -, hcb⟩ := int_cell hmb.seen (by omega)
          have e0 := hcb k hkn
          obtain ⟨c0, c1, c2⟩ := cell3 ka
          obtain ⟨d0, d1, d2, d3, d4⟩ := cell5 kb
          obtain ⟨ba, oa, rfl, -, -, hca⟩ := int_cell hma.seen (by omega)
          have f0 := hca k hka
          have g1 := getD_getR hka
          have g2 := getD_getR hkn
          obtain ⟨p, hp⟩ : ∃ p, x.seen[k] = p := ⟨_, rfl⟩
          obtain ⟨q, hq⟩ : ∃ q, m.seen[k] = q := ⟨_, rfl⟩
          rw [hp] at e0 g2
          rw [hq] at f0 g1
          by_cases hpq : q < p
          · have hpq' : p > q := hpq
            have dpq : decide (p > q) = true := decide_eq_true hpq
            have Hu := Lib.hid (show recvR m x = (.empty, 8) by
              unfold recvR
              rw [Hok.out, Hsv.out, (ahead_iffR _ _).2 ⟨k, hk8, by rw [g1, g2]; exact hpq⟩]
              rfl)
            have Hwn := Lib.hid (show ∀ nn, Below w2.heap.size w2 (wr.drewN nn) from fun nn => kept_drewN HL.out nn)
            clear g1 g2 hp hq hca hcb hma hmb hL ka kb hbel kr c1 c2
            go_wp2_with fail
            go_quiet (fail)
            obtain ⟨wd, hwd⟩ : ∃ wd, wd = wr.drewN nq := ⟨_, rfl⟩
            have hwn := Hwn.out nq
            rw [← hwd] at hwn
            rw [← hwd]
            obtain ⟨hbel, -, -, kr, -⟩ := HR.out wd hwn
            clear hwd hwn c0 d0 d1 d2 d3 d4 e0 f0
            obtain ⟨wf, hwf, hblk, hbf⟩ := fin3 kr hbel (by omega) (.slice none 0 0) (.slice none 0 0) (.slice none 0 0)
            obtain ⟨y0, y1, y2⟩ := cell3 kr
            have z0 := kr.free 0
            have z1 := kr.free 1
            have z2 := kr.free 2
            have Q := Lib.hid (cell3 hblk)
            have Hbf := Lib.hid hbf; have Hwf := Lib.hid hwf
            clear hwf hblk hbf
            go_wp2_with fail
            rw [← Hwf.out]
            obtain ⟨q0, q1, q2⟩ := Q.out
            exact bodyPost_ret (v := .tuple #[.agg #[.slice none 0 0, .slice none 0 0, .slice none 0 0], .int .i64 8]) (by simp [results, Tryz.results24, go_sem, q0, q1, q2]) rfl ⟨_, by rw [Hu.out], by rw [Hu.out]; exact mapV_empty _ _, Hbf.out⟩
          · have hpq' : ¬ p > q := hpq
            have dpq : decide (p > q) = false := decide_eq_false hpq
            have Hn := Lib.hid (show ¬ m.seen.getD k 0 < x.seen.getD k 0 by rw [g1, g2]; exact hpq)
            clear g1 g2 hp hq hca hcb hma hmb hL ka kb kr hbel c1 c2
            go_wp2_with fail
            go_quiet (fail)
            go_wp2_with fail
            go_roundw
            case rel => exact ⟨k + 1, by omega, by go_num, kept_drewN HL.out _, fun j hj => by
              rcases Nat.lt_succ_iff_lt_or_eq.1 hj with h | h
              · have := Hall.out j h; omega
              · subst h; have := Hn.out; omega⟩
            case measure => simp [intOf]; omega
        · have hkI : ¬ (k : Int) < 8 := by omega
          have Hu := Lib.hid (show recvR m x = mergeR m x.tell by
            unfold recvR
            have ha : aheadR x.seen m.seen = false := Bool.eq_false_iff.2 fun h => by
              obtain ⟨i, hi, hh⟩ := (ahead_iffR _ _).1 h
              exact Hall.out i (by omega) hh
            rw [Hok.out, Hsv.out, ha]
            rfl)
          obtain ⟨hbel, ka, kb, kr, hma, hmb⟩ := HR.out wr hL
          have hM := rmerge_any wr _ _ (.agg #[.slice a1 m.seen.length p1, .slice a2 m.items.length p2, .slice a3 m.gone.length p3]) (.agg #[.slice a1m x.tell.seen.length p1m, .slice a2m x.tell.items.length p2m, .slice a3m x.tell.gone.length p3m]) m x.tell ⟨_, _, _, rfl, hma⟩ ⟨_, _, _, rfl, hmb.tell⟩ Hki.out Hkg.out Hxi.out Hxg.out
          generalize mergeR m x.tell = mr at hM Hu
          have HM := Lib.hid hM
          obtain ⟨c0, c1, c2⟩ := cell3 ka
          obtain ⟨d0, d1, d2, d3, d4⟩ := cell5 kb
          clear hM hL ka kb hma hmb hbel kr
          go_wp2_with fail
          refine HM.out.mono ?_
          rintro e w6 ⟨r, rfl, hmv, hb6⟩
          obtain ⟨t1, t2, t3, rfl, hmi⟩ := hmv
          obtain ⟨b1, e1, rfl, -⟩ := hmi.seen.shape
          obtain ⟨b2, e2, rfl, -⟩ := hmi.items.shape
          obtain ⟨b3, e3, rfl, -⟩ := hmi.gone.shape
          have hL6 := HL.out.trans (hb6.mono HL.out.size)
          obtain ⟨hbel, -, -, kr, -⟩ := HR.out w6 hL6
          obtain ⟨er, her⟩ : ∃ er, mr.2 = er := ⟨_, rfl⟩
          rw [her]
          have Hu2 := Lib.hid (show (recvR m x).2 = er by rw [Hu.out]; exact her)
          have Hu1 := Lib.hid (show (recvR m x).1 = mr.1 by rw [Hu.out])
          obtain ⟨m1, hm1⟩ : ∃ m1, mr.1 = m1 := ⟨_, rfl⟩
          rw [hm1] at hmi Hu1
          rw [hm1]
          have hsw : w2.heap.size ≤ wr.heap.size := HL.out.size
          obtain ⟨wf, hwf, hblk, hbf⟩ := fin3 kr hbel (by omega) (.slice b1 m1.seen.length e1) (.slice b2 m1.items.length e2) (.slice b3 m1.gone.length e3)
          obtain ⟨y0, y1, y2⟩ := cell3 kr
          have z0 := kr.free 0
          have z1 := kr.free 1
          have z2 := kr.free 2
          have Q := Lib.hid (cell3 hblk)
          have Hof := Lib.hid (show MapIn (fun q => w.heap.size ≤ q) wf (.slice b1 m1.seen.length e1) (.slice b2 m1.items.length e2) (.slice b3 m1.gone.length e3) m1 by
            have hz := Hz2.out
            rw [hwf]
            exact (hmi.keep fun q hq _ => by
              have h : q ≠ w.heap.size + 1 + 1 := by have hq' : wr.heap.size ≤ q := hq; omega
              exact (Below.heap_setCell _ _ _ _ h).trans ((Below.heap_setCell _ _ _ _ h).trans (Below.heap_setCell _ _ _ _ h))).mono fun q hq _ => by have hq' : wr.heap.size ≤ q := hq; omega)
          have Hbf := Lib.hid hbf; have Hwf := Lib.hid hwf
          clear hwf hblk hbf kr hbel hmi hL6 hb6 hsw her hm1 HM c0 c1 c2 d0 d1 d2 d3 d4
          go_wp2_with fail
          rw [← Hwf.out]
          obtain ⟨q0, q1, q2⟩ := Q.out
          exact bodyPost_ret (v := .tuple #[.agg #[.slice b1 m1.seen.length e1, .slice b2 m1.items.length e2, .slice b3 m1.gone.length e3], .int .i64 er]) (by simp [results, Tryz.results24, go_sem, q0, q1, q2]) rfl ⟨_, by rw [Hu2.out], by rw [Hu1.out]; exact ⟨_, _, _, rfl, Hof.out⟩, Hbf.out⟩
end Go.Proofs.YtkkacnfpdafadaaGreatDoor
