/-
  SRecv
-/
import Derived.Test.YtelphnigdancpaaGreatDoorZA30
import Derived.Test.YtelphnigdancpaaGreatDoorZA31
namespace Go.Proofs.YtelphnigdancpaaGreatDoor
open Go.RowKit Go.Sort
set_option linter.unusedVariables false
set_option maxRecDepth 20000
attribute [local go_sem] opC upC

theorem svalid_parts {x : SMsg} (h : svalid x = true) : devOk x.frm = true ∧ Knows x.seen ∧ validR x.tell = true := by
  unfold svalid at h
  simp only [Bool.and_eq_true] at h
  exact ⟨h.1.1.1, (knows_iff _).1 h.1.1.2, h.1.2⟩
theorem ahead_iff (s t : List Int) : aheadR s t = true ↔ ∃ i, i < 8 ∧ t.getD i 0 < s.getD i 0 := by
  unfold aheadR
  simp [List.any_eq_true]
theorem getD_get {l : List Int} {k : Nat} (h : k < l.length) : l.getD k 0 = l[k] := by rw [List.getD_eq_getElem?_getD, List.getElem?_eq_getElem h]; rfl
set_option maxRecDepth 100000 in
set_option maxHeartbeats 4000000 in
theorem recv_any (w : World) (hT : Tabs w) (h3 : 3 ≤ w.heap.size) (F G : Blks) (v : Value) (m : RMap) (h : MapV F w v m) (hki : ∀ y ∈ m.items, y.key.length ≤ 1000000) (hkg : ∀ y ∈ m.gone, y.key.length ≤ 1000000) (xv : Value) (x : SMsg) (hm : MsgV G w xv x) (hxi : ∀ y ∈ x.tell.items, y.key.length ≤ 1000000) (hxg : ∀ y ∈ x.tell.gone, y.key.length ≤ 1000000) :
    Calls Tryz.prog 23 #[v, xv] w (UPost w (recvR m x)) := by
  replace h := h.mono (G := fun q => q < w.heap.size) fun q _ hlt => hlt
  replace hm := hm.mono (G := fun q => q < w.heap.size) fun q _ hlt => hlt
  obtain ⟨s1, s2, s3, rfl, h⟩ := h
  obtain ⟨a1, p1, rfl, -⟩ := h.seen.shape
  obtain ⟨a2, p2, rfl, -⟩ := h.items.shape
  obtain ⟨a3, p3, rfl, -⟩ := h.gone.shape
  obtain ⟨wx, hwx⟩ : ∃ wx, wx = w.alloc (.cells #[.slice a1 m.seen.length p1, .slice a2 m.items.length p2, .slice a3 m.gone.length p3] 31) := ⟨_, rfl⟩
  have hbx : Below w.heap.size w wx := by rw [hwx]; exact kept_alloc _ _
  have hzx : wx.heap.size = w.heap.size + 1 := by rw [hwx]; simp
  have hx := h.keep (w' := wx) fun b _ hlt => hbx.block b hlt
  have hnx : Blk wx w.heap.size [.slice a1 m.seen.length p1, .slice a2 m.items.length p2, .slice a3 m.gone.length p3] 31 := by rw [hwx]; exact Blk.new _ _ _
  have Hx := Lib.hid hx
  have Hwx := Lib.hid hwx; have Hbx := Lib.hid hbx; have Hzx := Lib.hid hzx
  have Hnx := Lib.hid hnx
  clear hx hwx hbx hnx hzx h
  replace hm : MsgV (fun q => q < w.heap.size) wx xv x := hm.keep (w' := wx) fun q _ hlt => Hbx.out.block q hlt
  obtain ⟨svm, s1m, s2m, s3m, rfl, hm⟩ := hm
  obtain ⟨a0m, p0m, rfl, -⟩ := hm.seen.shape
  obtain ⟨a1m, p1m, rfl, -⟩ := hm.tell.seen.shape
  obtain ⟨a2m, p2m, rfl, -⟩ := hm.tell.items.shape
  obtain ⟨a3m, p3m, rfl, -⟩ := hm.tell.gone.shape
  obtain ⟨wxm, hwxm⟩ : ∃ qq, qq = wx.alloc (.cells #[.int .i64 x.frm, .slice a0m x.seen.length p0m, .slice a1m x.tell.seen.length p1m, .slice a2m x.tell.items.length p2m, .slice a3m x.tell.gone.length p3m] 39) := ⟨_, rfl⟩
  have hbxm : Below wx.heap.size wx wxm := by rw [hwxm]; exact kept_alloc _ _
  have hzxm : wxm.heap.size = wx.heap.size + 1 := by rw [hwxm]; simp
  have hxm := hm.keep (w' := wxm) fun b _ hlt => hbxm.block b hlt
  have hnxm : Blk wxm wx.heap.size [.int .i64 x.frm, .slice a0m x.seen.length p0m, .slice a1m x.tell.seen.length p1m, .slice a2m x.tell.items.length p2m, .slice a3m x.tell.gone.length p3m] 39 := by rw [hwxm]; exact Blk.new _ _ _
  have Hxm := Lib.hid hxm
  have Hwxm := Lib.hid hwxm; have Hbxm := Lib.hid hbxm; have Hzxm := Lib.hid hzxm
  have Hnxm := Lib.hid hnxm
  clear hxm hwxm hbxm hnxm hzxm hm
  obtain ⟨w2, hw2⟩ : ∃ w2, w2 = wxm.alloc (.cells #[.slice none 0 0, .slice none 0 0, .slice none 0 0] 31) := ⟨_, rfl⟩
  have hzm : wxm.heap.size = w.heap.size + 2 := by rw [Hzxm.out, Hzx.out]
  have hz2 : w2.heap.size = w.heap.size + 3 := by rw [hw2]; simp [hzm]
  have hbm : Below w.heap.size w wxm := Hbx.out.trans (Hbxm.out.mono Hbx.out.size)
  have hb2 : Below w.heap.size w w2 := by rw [hw2]; exact hbm.alloc hbm.size _
  have ka : Blk w2 w.heap.size [.slice a1 m.seen.length p1, .slice a2 m.items.length p2, .slice a3 m.gone.length p3] 31 := by rw [hw2]; exact (Hnx.out.keep (Hbxm.out.block _ Hnx.out.lt)).alloc _
  have kb : Blk w2 (w.heap.size + 1) [.int .i64 x.frm, .slice a0m x.seen.length p0m, .slice a1m x.tell.seen.length p1m, .slice a2m x.tell.items.length p2m, .slice a3m x.tell.gone.length p3m] 39 := by
    have := Hnxm.out
    rw [Hzx.out] at this
    rw [hw2]; exact this.alloc _
  have kr : Blk w2 (w.heap.size + 1 + 1) [.slice none 0 0, .slice none 0 0, .slice none 0 0] 31 := by
    have := Blk.new wxm #[.slice none 0 0, .slice none 0 0, .slice none 0 0] 31
    rw [← hw2, hzm] at this
    exact this
  have hMa := Hx.out
  have hMb := Hxm.out
  have HR := Lib.hid (show ∀ W, Below w2.heap.size w2 W → Below w.heap.size w W ∧ Blk W w.heap.size [.slice a1 m.seen.length p1, .slice a2 m.items.length p2, .slice a3 m.gone.length p3] 31 ∧ Blk W (w.heap.size + 1) [.int .i64 x.frm, .slice a0m x.seen.length p0m, .slice a1m x.tell.seen.length p1m, .slice a2m x.tell.items.length p2m, .slice a3m x.tell.gone.length p3m] 39 ∧ Blk W (w.heap.size + 1 + 1) [.slice none 0 0, .slice none 0 0, .slice none 0 0] 31 ∧ MapIn (fun q => q < w.heap.size) W (.slice a1 m.seen.length p1) (.slice a2 m.items.length p2) (.slice a3 m.gone.length p3) m ∧ MsgIn (fun q => q < w.heap.size) W (.slice a0m x.seen.length p0m) (.slice a1m x.tell.seen.length p1m) (.slice a2m x.tell.items.length p2m) (.slice a3m x.tell.gone.length p3m) x from fun W hW => by
    have hB : Below w.heap.size w W := hb2.trans (hW.mono (by omega))
    exact ⟨hB, ka.keep (hW.block _ ka.lt), kb.keep (hW.block _ kb.lt), kr.keep (hW.block _ kr.lt), hMa.keep (w' := W) fun q hq _ => (hB.block q hq).trans (Hbx.out.block q hq).symm, hMb.keep (w' := W) fun q hq _ => (hB.block q hq).trans (hbm.block q hq).symm⟩)
  have HTb := Lib.hid (show ∀ W, Below w.heap.size w W → Tabs W ∧ 3 ≤ W.heap.size from fun W hW => ⟨tabs_below hT h3 hW, Nat.le_trans h3 hW.size⟩)
  have HC := Lib.hid (check_any w2 (HTb.out w2 hb2).1 (HTb.out w2 hb2).2 _ (.agg #[.slice a1 m.seen.length p1, .slice a2 m.items.length p2, .slice a3 m.gone.length p3]) m ⟨_, _, _, rfl, (HR.out w2 (Below.refl _ _)).2.2.2.2.1⟩ hki hkg)
  have Hw2 := Lib.hid hw2; have Hz2 := Lib.hid hz2
  obtain ⟨c0, c1, c2⟩ := cell3 ka
  obtain ⟨ok, hok⟩ : ∃ ok, validR m = ok := ⟨_, rfl⟩
  rw [hok] at HC
  have Hok := Lib.hid hok; have Hki := Lib.hid hki; have Hkg := Lib.hid hkg; have Hxi := Lib.hid hxi; have Hxg := Lib.hid hxg
  clear hw2 hzm hz2 hbm hb2 ka kb kr hMa hMb hT hok hki hkg hxi hxg
  go_enter Tryz.func23, Tryz.ntmps23
  go_wp2_with fail
  rw [← Hwx.out, ← Hwxm.out, ← Hw2.out]
  refine HC.out.mono ?_
  rintro e w3 ⟨rfl, hb3⟩
  clear HC c0 c1 c2
  cases ok with
  | false =>
    have Hu := Lib.hid (show recvR m x = (.empty, 5) by unfold recvR; rw [Hok.out]; rfl)
    obtain ⟨hbel, -, -, kr, -⟩ := HR.out w3 hb3
    clear hb3
    obtain ⟨wf, hwf, hblk, hbf⟩ := fin3 kr hbel (by omega) (.slice none 0 0) (.slice none 0 0) (.slice none 0 0)
    obtain ⟨y0, y1, y2⟩ := cell3 kr
    have z0 := kr.free 0
    have z1 := kr.free 1
    have z2 := kr.free 2
    have Q := Lib.hid (cell3 hblk)
    have Hbf := Lib.hid hbf; have Hwf := Lib.hid hwf
    clear hwf hblk hbf
    go_wp2_with fail
    rw [← Hwf.out]
    obtain ⟨q0, q1, q2⟩ := Q.out
    exact bodyPost_ret (v := .tuple #[nilV, .int .i64 5]) (by simp [results, Tryz.results23, go_sem, q0, q1, q2, nilV]) rfl ⟨⟨_, by rw [Hu.out], by rw [Hu.out]; exact own_nil _ _, by rw [Hu.out]; exact bnd_empty⟩, Hbf.out⟩
  | true =>
    obtain ⟨hB3, -, kb, -, -, hmb⟩ := HR.out w3 hb3
    have HV := Lib.hid (svalid_any w3 (HTb.out w3 hB3).1 (HTb.out w3 hB3).2 _ (.agg #[.int .i64 x.frm, .slice a0m x.seen.length p0m, .slice a1m x.tell.seen.length p1m, .slice a2m x.tell.items.length p2m, .slice a3m x.tell.gone.length p3m]) x ⟨_, _, _, _, rfl, hmb⟩ Hxi.out Hxg.out)
    obtain ⟨sv, hsv⟩ : ∃ sv, svalid x = sv := ⟨_, rfl⟩
    rw [hsv] at HV
    have Hsv := Lib.hid hsv; have Hb3 := Lib.hid hb3
    obtain ⟨d0, d1, d2, d3, d4⟩ := cell5 kb
    clear kb hmb hsv hb3 hB3
    go_wp2_with fail
    refine HV.out.mono ?_
    rintro e w4 ⟨rfl, hb4⟩
    have hL4 : Below w2.heap.size w2 w4 := Hb3.out.trans (hb4.mono Hb3.out.size)
    clear HV d0 d1 d2 d3 d4 hb4
    cases sv with
    | false =>
      have Hu := Lib.hid (show recvR m x = (.empty, 5) by unfold recvR; rw [Hsv.out, Bool.and_false]; rfl)
      obtain ⟨hbel, -, -, kr, -⟩ := HR.out w4 hL4
      clear hL4
      obtain ⟨wf, hwf, hblk, hbf⟩ := fin3 kr hbel (by omega) (.slice none 0 0) (.slice none 0 0) (.slice none 0 0)
      obtain ⟨y0, y1, y2⟩ := cell3 kr
      have z0 := kr.free 0
      have z1 := kr.free 1
      have z2 := kr.free 2
      have Q := Lib.hid (cell3 hblk)
      have Hbf := Lib.hid hbf; have Hwf := Lib.hid hwf
      clear hwf hblk hbf
      go_wp2_with fail
      rw [← Hwf.out]
      obtain ⟨q0, q1, q2⟩ := Q.out
      exact bodyPost_ret (v := .tuple #[nilV, .int .i64 5]) (by simp [results, Tryz.results23, go_sem, q0, q1, q2, nilV]) rfl ⟨⟨_, by rw [Hu.out], by rw [Hu.out]; exact own_nil _ _, by rw [Hu.out]; exact bnd_empty⟩, Hbf.out⟩
    | true =>
      obtain ⟨hdv, hkn, hvt⟩ := svalid_parts Hsv.out
      have hf := valid_formed Hok.out
      have HL4 := Lib.hid hL4; have Hkn := Lib.hid hkn; have Hvt := Lib.hid hvt; have Hf := Lib.hid hf
      obtain ⟨-, -, kb, -, -, -⟩ := HR.out w4 hL4
      obtain ⟨d0, d1, d2, d3, d4⟩ := cell5 kb
      clear hdv hkn hvt hf hL4 kb
      go_wp2_with fail
      clear d0 d1 d2 d3 d4
      go_loopw [20] (fun i wr => ∃ k : Nat, k ≤ x.seen.length ∧ i = .int .i64 (k : Int) ∧ Below w2.heap.size w2 wr ∧ ∀ j, j < k → ¬ m.seen.getD j 0 < x.seen.getD j 0) (fun i _ => x.seen.length - (intOf i).toNat)
      case atStart => exact ⟨0, by omega, rfl, HL4.out, fun j hj => by omega⟩
      case round =>
        obtain ⟨k, hk, rfl, hL, hall⟩ := hrel
        have Hall := Lib.hid hall; have HL := Lib.hid hL
        clear hall
        by_cases hkn : k < x.seen.length
        · have hkI : (k : Int) < (x.seen.length : Int) := by omega
          have hk8 : k < 8 := by have := Hkn.out.len; omega
          have hka : k < m.seen.length := by have := Hf.out.len; omega
          have hkaI : (k : Int) < (m.seen.length : Int) := by omega
          obtain ⟨hbel, ka, kb, kr, hma, hmb⟩ := HR.out wr hL
          obtain ⟨bb, ob, rfl, -, -, hcb⟩ := int_cell hmb.seen (by omega)
          have e0 := hcb k hkn
          obtain ⟨c0, c1, c2⟩ := cell3 ka
          obtain ⟨ba, oa, rfl, -, -, hca⟩ := int_cell hma.seen (by omega)
          have f0 := hca k hka
          have g1 := getD_get hka
          have g2 := getD_get hkn
          obtain ⟨p, hp⟩ : ∃ p, x.seen[k] = p := ⟨_, rfl⟩
          obtain ⟨q, hq⟩ : ∃ q, m.seen[k] = q := ⟨_, rfl⟩
          rw [hp] at e0 g2
          rw [hq] at f0 g1
          by_cases hpq : q < p
          · have hpq' : p > q := hpq
            have Hu := Lib.hid (show recvR m x = (.empty, 8) by
              unfold recvR
              rw [Hok.out, Hsv.out, (ahead_iff _ _).2 ⟨k, hk8, by rw [g1, g2]; exact hpq⟩]
              rfl)
            clear g1 g2 hp hq hca hcb hma hmb hL ka kb c1 c2
            obtain ⟨wf, hwf, hblk, hbf⟩ := fin3 kr hbel (by omega) (.slice none 0 0) (.slice none 0 0) (.slice none 0 0)
            obtain ⟨y0, y1, y2⟩ := cell3 kr
            have z0 := kr.free 0
            have z1 := kr.free 1
            have z2 := kr.free 2
            have Q := Lib.hid (cell3 hblk)
            have Hbf := Lib.hid hbf; have Hwf := Lib.hid hwf
            clear hwf hblk hbf
            go_wp2_with fail
            rw [← Hwf.out]
            obtain ⟨q0, q1, q2⟩ := Q.out
            exact bodyPost_ret (v := .tuple #[nilV, .int .i64 8]) (by simp [results, Tryz.results23, go_sem, q0, q1, q2, nilV]) rfl ⟨⟨_, by rw [Hu.out], by rw [Hu.out]; exact own_nil _ _, by rw [Hu.out]; exact bnd_empty⟩, Hbf.out⟩
          · have hpq' : ¬ p > q := hpq
            have Hn := Lib.hid (show ¬ m.seen.getD k 0 < x.seen.getD k 0 by rw [g1, g2]; exact hpq)
            clear g1 g2 hp hq hca hcb hma hmb hL ka kb kr hbel c1 c2
            go_wp2_with fail
            go_roundw
            case rel => exact ⟨k + 1, by omega, by go_num, HL.out, fun j hj => by
              rcases Nat.lt_succ_iff_lt_or_eq.1 hj with h | h
              · exact Hall.out j h
              · subst h; exact Hn.out⟩
            case measure => simp [intOf]; omega
        · have hkI : ¬ (k : Int) < (x.seen.length : Int) := by omega
          have Hu := Lib.hid (show recvR m x = mergeR m x.tell by
            unfold recvR
            have ha : aheadR x.seen m.seen = false := Bool.eq_false_iff.2 fun h => by
              obtain ⟨i, hi, hh⟩ := (ahead_iff _ _).1 h
              exact Hall.out i (by have := Hkn.out.len; omega) hh
            rw [Hok.out, Hsv.out, ha]
            rfl)
          obtain ⟨hbel, ka, kb, kr, hma, hmb⟩ := HR.out wr hL
          have hM := pmerge_any wr (HTb.out wr hbel).1 (HTb.out wr hbel).2 _ _ (.agg #[.slice a1 m.seen.length p1, .slice a2 m.items.length p2, .slice a3 m.gone.length p3]) (.agg #[.slice a1m x.tell.seen.length p1m, .slice a2m x.tell.items.length p2m, .slice a3m x.tell.gone.length p3m]) m x.tell ⟨_, _, _, rfl, hma⟩ ⟨_, _, _, rfl, hmb.tell⟩ Hki.out Hkg.out Hxi.out Hxg.out
          generalize mergeR m x.tell = mr at hM Hu
          have HM := Lib.hid hM
          obtain ⟨c0, c1, c2⟩ := cell3 ka
          obtain ⟨d0, d1, d2, d3, d4⟩ := cell5 kb
          clear hM hL ka kb kr hma hmb hbel
          go_wp2_with fail
          refine HM.out.mono ?_
          rintro e w6 ⟨⟨r, rfl, ⟨t1, t2, t3, rfl, ho⟩, hbd⟩, hb6⟩
          obtain ⟨b1, e1, rfl⟩ := own_shape ho.seen
          obtain ⟨b2, e2, rfl⟩ := own_shape ho.items
          obtain ⟨b3, e3, rfl⟩ := own_shape ho.gone
          have hL6 := HL.out.trans (hb6.mono HL.out.size)
          obtain ⟨hbel, -, -, kr, -⟩ := HR.out w6 hL6
          have hsw : w.heap.size ≤ wr.heap.size := (HR.out wr HL.out).1.size
          obtain ⟨er, her⟩ : ∃ er, mr.2 = er := ⟨_, rfl⟩
          rw [her]
          have Hu2 := Lib.hid (show (recvR m x).2 = er by rw [Hu.out]; exact her)
          have Hu1 := Lib.hid (show (recvR m x).1 = mr.1 by rw [Hu.out])
          obtain ⟨m1, hm1⟩ : ∃ m1, mr.1 = m1 := ⟨_, rfl⟩
          rw [hm1] at ho hbd Hu1
          rw [hm1]
          obtain ⟨wf, hwf, hblk, hbf⟩ := fin3 kr hbel (by omega) (.slice b1 m1.seen.length e1) (.slice b2 m1.items.length e2) (.slice b3 m1.gone.length e3)
          obtain ⟨y0, y1, y2⟩ := cell3 kr
          have z0 := kr.free 0
          have z1 := kr.free 1
          have z2 := kr.free 2
          have Q := Lib.hid (cell3 hblk)
          have Hof := Lib.hid (show OwnIn wf w.heap.size (.slice b1 m1.seen.length e1) (.slice b2 m1.items.length e2) (.slice b3 m1.gone.length e3) m1 by
            rw [hwf]
            exact (((ho.mono hsw).setCell kr _).setCell (kr.set 0 _) _).setCell ((kr.set 0 _).set 1 _) _)
          have Hbf := Lib.hid hbf; have Hwf := Lib.hid hwf; have Hbd := Lib.hid hbd
          clear hwf hblk hbf kr hbel ho hbd hL6 hb6 hsw her hm1 HM c0 c1 c2 d0 d1 d2 d3 d4
          go_wp2_with fail
          rw [← Hwf.out]
          obtain ⟨q0, q1, q2⟩ := Q.out
          exact bodyPost_ret (v := .tuple #[.agg #[.slice b1 m1.seen.length e1, .slice b2 m1.items.length e2, .slice b3 m1.gone.length e3], .int .i64 er]) (by simp [results, Tryz.results23, go_sem, q0, q1, q2]) rfl ⟨⟨_, by rw [Hu2.out], by rw [Hu1.out]; exact ⟨_, _, _, rfl, Hof.out⟩, by rw [Hu1.out]; exact Hbd.out⟩, Hbf.out⟩
end Go.Proofs.YtelphnigdancpaaGreatDoor
