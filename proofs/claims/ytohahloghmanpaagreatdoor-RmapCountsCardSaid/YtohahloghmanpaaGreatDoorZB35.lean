/-
  RCntR
-/
import Derived.Test.YtohahloghmanpaaGreatDoorZB22
import Derived.Test.YtohahloghmanpaaGreatDoorZB30
import Derived.Test.YtohahloghmanpaaGreatDoorZB31
import Derived.Test.YtohahloghmanpaaGreatDoorZB34
namespace Go.Proofs.YtohahloghmanpaaGreatDoor
open Go.RowKit Go.Lib
set_option linter.unusedVariables false
set_option maxRecDepth 20000
attribute [local go_sem ↓] seal_append
attribute [local go_sem] opC upC

set_option maxRecDepth 100000 in
set_option maxHeartbeats 2000000 in
theorem rvalM_any (w : World) (F : Blks) (v : Value) (m : RMap) (h : MapV F w v m) (f : Formed m) (hl : m.items.length ≤ 4096) (key : RKey) :
    Calls Tryz.prog 18 #[v, .string ⟨key.toArray⟩] w fun e w' => e = .returned (.int .i64 (valueM m key)) ∧ Below w.heap.size w w' := by
  replace h := h.mono (G := fun b => b < w.heap.size) fun b _ hlt => hlt
  obtain ⟨s1, s2, s3, rfl, h⟩ := h
  obtain ⟨a1, p1, rfl, -⟩ := h.seen.shape
  obtain ⟨a2, p2, rfl, -⟩ := h.items.shape
  obtain ⟨a3, p3, rfl, -⟩ := h.gone.shape
  have l1 := h.seen.len
  have l2 := h.items.len
  have l3 := h.gone.len
  unfold maxLen at l1 l2 l3
  obtain ⟨n1, hn1⟩ : ∃ n, m.seen.length = n := ⟨_, rfl⟩
  obtain ⟨n2, hn2⟩ : ∃ n, m.items.length = n := ⟨_, rfl⟩
  obtain ⟨n3, hn3⟩ : ∃ n, m.gone.length = n := ⟨_, rfl⟩
  rw [hn1, hn2, hn3] at h
  rw [hn1] at l1 ⊢
  rw [hn2] at l2 ⊢
  rw [hn3] at l3 ⊢
  obtain ⟨wx, hwx⟩ : ∃ wx, wx = w.alloc (.cells #[.slice a1 n1 p1, .slice a2 n2 p2, .slice a3 n3 p3] 26) := ⟨_, rfl⟩
  have hbx : Below w.heap.size w wx := by rw [hwx]; exact kept_alloc _ _
  have hzx : wx.heap.size = w.heap.size + 1 := by rw [hwx]; simp
  have hx := h.keep (w' := wx) fun b _ hlt => hbx.block b hlt
  have hnx : Blk wx w.heap.size [.slice a1 n1 p1, .slice a2 n2 p2, .slice a3 n3 p3] 26 := by rw [hwx]; exact Blk.new _ _ _
  have Hx := Lib.hid hx; have Hn1 := Lib.hid hn1; have Hn2 := Lib.hid hn2; have Hn3 := Lib.hid hn3
  have Hwx := Lib.hid hwx; have Hbx := Lib.hid hbx; have Hzx := Lib.hid hzx
  have c0 := hnx.cell 0
  have c1 := hnx.cell 1
  have c2 := hnx.cell 2
  simp at c0 c1 c2
  have Hnx := Lib.hid hnx
  clear hx hn1 hn2 hn3 hwx hbx hnx hzx
  rw [Hn2.out] at hl
  have HM := Lib.hid (show ∀ W, Below wx.heap.size wx W → (W.cell? ⟨w.heap.size, 0, none⟩ = some (.slice a1 n1 p1) ∧ W.cell? ⟨w.heap.size, 1, none⟩ = some (.slice a2 n2 p2) ∧ W.cell? ⟨w.heap.size, 2, none⟩ = some (.slice a3 n3 p3)) ∧ MapIn (fun b => b < w.heap.size) W (.slice a1 n1 p1) (.slice a2 n2 p2) (.slice a3 n3 p3) m from fun W hb => by
    have hz := Hzx.out
    exact ⟨cell3 (Hnx.out.keep (hb.block _ (by omega))), Hx.out.keep fun b hb' hlt => hb.block b hlt⟩)
  have Hf := Lib.hid f; have Hl := Lib.hid hl
  clear h f hl c0 c1 c2 Hx Hnx
  go_enter Tryz.func18, Tryz.ntmps18
  go_wp2_with fail
  rw [← Hwx.out]
  go_loopw [5, 6] (fun s i wr => ∃ k : Nat, k ≤ n2 ∧ s = .int .i64 (vsum m (m.items.take k) key) ∧ i = .int .i64 (k : Int) ∧ Below wx.heap.size wx wr) (fun _ i _ => n2 - (intOf i).toNat)
  case atStart => exact ⟨0, by omega, rfl, rfl, Below.refl _ _⟩
  case round =>
    obtain ⟨k, hk, rfl, rfl, hbw⟩ := hrel
    obtain ⟨⟨d0, d1, d2⟩, hmp⟩ := HM.out wr hbw
    have Hbw := Lib.hid hbw
    clear hbw
    by_cases hkn : k < n2
    · have hkI : (k : Int) < (n2 : Int) := by omega
      have hkl : k < m.items.length := by rw [Hn2.out]; exact hkn
      obtain ⟨b, off, rfl, -, -, hc⟩ := it_cell hmp.items (by omega)
      obtain ⟨e0, e1, e2, e3⟩ := hc k hkl
      have hst := vsum_snoc m (m.items.take k) m.items[k] key
      rw [← List.take_succ_eq_append_getElem hkl] at hst
      obtain ⟨x, hx⟩ : ∃ x, m.items[k] = x := ⟨_, rfl⟩
      rw [hx] at e0 e1 e2 e3 hst
      have hxm : x ∈ m.items := by rw [← hx]; exact List.getElem_mem hkl
      obtain ⟨k1, k2, k3, k4⟩ := known_seq (Hf.out.iknown x hxm)
      obtain ⟨q, hq⟩ := Int.eq_ofNat_of_zero_le k1
      have hq' : x.dev = (q : Int) := hq
      have hqs : q < m.seen.length := by rw [hq] at k2; omega
      have hq8 : q < 8 := by have := Hf.out.len; omega
      obtain ⟨bs, os, rfl, -, -, hcs⟩ := int_cell hmp.seen (by omega)
      have g0 := hcs q hqs
      obtain ⟨s, hs⟩ : ∃ s, m.seen[q] = s := ⟨_, rfl⟩
      rw [hs] at g0
      have hget : m.seen.getD x.dev.toNat 0 = s := by
        rw [hq', Int.toNat_natCast, List.getD_eq_getElem?_getD, List.getElem?_eq_getElem hqs, hs]; rfl
      have hsle := Hf.out.seen s (by rw [← hs]; exact List.getElem_mem hqs)
      have k4' : x.seq ≤ s := by rw [← hget]; exact k4
      have k3' : 1 ≤ x.seq := k3
      have hvx := valIt_le Hf.out hxm
      have hvd : valIt m x = DM.aft (s - x.seq).toNat (DM.bnd x.val) := by unfold valIt decAft; rw [hget]
      have hvs := vsum_le m key (m.items.take k) (fun y hy => valIt_le Hf.out (List.mem_of_mem_take hy))
      have htl : (m.items.take k).length = k := by rw [List.length_take]; omega
      rw [htl] at hvs
      obtain ⟨c, hcv⟩ : ∃ c, vsum m (m.items.take k) key = c := ⟨_, rfl⟩
      rw [hcv] at hvs hst ⊢
      obtain ⟨u, hu⟩ : ∃ u, valIt m x = u := ⟨_, rfl⟩
      rw [hu] at hvx hvd hst
      obtain ⟨xk, xd, xs, xv⟩ := x
      dsimp only at e0 e1 e2 e3 hq' hst hvd k4' k3'
      subst hq'
      obtain ⟨wb, hwb⟩ : ∃ wb, wb = wr.alloc (.cells #[.string ⟨xk.toArray⟩, .int .i64 (q : Int), .int .i64 xs, .int .i64 xv] 44) := ⟨_, rfl⟩
      have hbb : Below wr.heap.size wr wb := by rw [hwb]; exact kept_alloc _ _
      have hXB : Blk wb wr.heap.size [.string ⟨xk.toArray⟩, .int .i64 (q : Int), .int .i64 xs, .int .i64 xv] 44 := by rw [hwb]; exact Blk.new _ _ _
      have hbwb : Below wx.heap.size wx wb := Hbw.out.trans (hbb.mono Hbw.out.size)
      have Hst := Lib.hid hst; have Hwb := Lib.hid hwb; have Hbwb := Lib.hid hbwb
      by_cases hxk : xk = key
      · have hxkB : (xk == key) = true := by simpa using hxk
        obtain ⟨x0, x1, x2, x3⟩ := cell4 hXB
        have hlt0 : ∀ {a : Addr} {u : Value}, wr.cell? a = some u → wb.cell? a = some u := fun {a u} h => (hbb.cell (cellLt h)).trans h
        have px1 : ∀ w', Later wb.drew w' → w'.cell? _ = _ := fun w' hh => laterC x1 hh
        have px2 : ∀ w', Later wb.drew w' → w'.cell? _ = _ := fun w' hh => laterC x2 hh
        have px3 : ∀ w', Later wb.drew w' → w'.cell? _ = _ := fun w' hh => laterC x3 hh
        have pm0 : ∀ w', Later wb.drew w' → w'.cell? _ = _ := fun w' hh => laterC (hlt0 d0) hh
        have pg0 : ∀ w', Later wb.drew w' → w'.cell? _ = _ := fun w' hh => laterC (hlt0 g0) hh
        have hA := refAfter_any xv (s - xs) wb.drew (by omega)
        rw [← hvd] at hA
        have HA := Lib.hid hA
        have hs1 : IntKind.i64.wrap (s - xs) = s - xs := IntWalk.i64_in _ (by omega)
        have hs2 : IntKind.i64.wrap (c + u) = c + u := IntWalk.i64_in _ (by have := Hl.out; omega)
        have hs0 : IntKind.i64.wrap (q : Int) = (q : Int) := IntWalk.i64_in _ (by omega)
        have hqI : (q : Int) < (n1 : Int) := by have := Hn1.out; omega
        rw [hwb] at x0
        have Hxk := Lib.hid hxk
        clear hc hcs hx hs hget hsle k1 k2 k3 k4 k3' k4' hvx hvd hvs htl hcv hu hwb hbb hXB hA hst x1 x2 x3 g0 d0 d2 hlt0 hq hmp hxm hxk hbwb
        go_wp2_with fail
        rw [← Hwb.out]
        refine wp_region_can Later [(0, true), (1, true), (2, true), (3, true), (4, true), (5, true), (6, true), (7, true), (8, true), (9, true), (10, true), (11, true), (12, false), (13, true), (14, true)] (by kernel_rfl) (by kernel_rfl) later_refl later_trans ?_
        repeat (refine can_yes (v := ?_) rfl (wanted_none rfl) (fun w' hC => ?_) (fun K hK => ?_); rotate_left; (focus (go_simp; (try simp (disch := omega) only [IntWalk.i64_in]); first | done | exact rfl)); go_simp; (try simp (disch := omega) only [IntWalk.i64_in]); refine hK _ ?_; clear hK K)
        refine can_go rfl rfl (fun KK hK => ?_)
        go_simp
        refine HA.out.mono ?_
        rintro e w4 ⟨rfl, rfl⟩
        refine ⟨_, rfl, later_refl _, hK _ _ ?_⟩
        clear hK KK HA px1 px2 px3 pm0 pg0
        go_simp
        repeat (refine can_yes (v := ?_) rfl (wanted_none rfl) (fun w' hC => ?_) (fun K hK => ?_); rotate_left; (focus (go_simp; (try simp (disch := omega) only [IntWalk.i64_in]); first | done | exact rfl)); go_simp; (try simp (disch := omega) only [IntWalk.i64_in]); refine hK _ ?_; clear hK K)
        refine can_nil ?_
        go_wp2_with fail
        go_roundw
        case rel => exact ⟨k + 1, by omega, by rw [Hst.out, if_pos Hxk.out], by go_num, Hbwb.out.drew⟩
        case measure => first | (simp [intOf]; done) | (simp [intOf]; omega)
      · have hxkB : (xk == key) = false := by simpa using hxk
        obtain ⟨x0, x1, x2, x3⟩ := cell4 hXB
        rw [hwb] at x0
        have Hxk := Lib.hid hxk
        clear hc hcs hx hs hget hsle k1 k2 k3 k4 k3' k4' hvx hvd hvs htl hcv hu hwb hbb hXB hst x1 x2 x3 g0 d0 d2 hq hmp hxm hxk hbwb
        go_wp2_with fail
        rw [← Hwb.out]
        go_roundw
        case rel => exact ⟨k + 1, by omega, by rw [Hst.out, if_neg Hxk.out, Int.add_zero], by go_num, Hbwb.out⟩
        case measure => first | (simp [intOf]; done) | (simp [intOf]; omega)
    · have hkI : ¬ (k : Int) < (n2 : Int) := by omega
      have Hfin := Lib.hid (show vsum m (m.items.take k) key = valueM m key by rw [List.take_of_length_le (by rw [Hn2.out]; omega), vsum_all])
      have Hbel := Lib.hid (Hbx.out.trans (Hbw.out.mono (by have := Hzx.out; omega)))
      go_wp2_with fail
      go_ret
      exact ⟨by rw [Hfin.out]; rfl, Hbel.out⟩
set_option maxHeartbeats 1500000 in
theorem rvalue_any (w : World) (F : Blks) (v : Value) (m : RMap) (h : MapV F w v m) (hki : ∀ x ∈ m.items, x.key.length ≤ 1000000000) (hkg : ∀ x ∈ m.gone, x.key.length ≤ 1000000000) (key : RKey) :
    Calls Tryz.prog 9 #[v, .string ⟨key.toArray⟩] w fun e w' => e = .returned (.int .i64 (valueR m key)) ∧ Below w.heap.size w w' := by
  replace h := h.mono (G := fun b => b < w.heap.size) fun b _ hlt => hlt
  obtain ⟨ok, hok⟩ : ∃ ok, validR m = ok := ⟨_, rfl⟩
  obtain ⟨s1, s2, s3, rfl, h⟩ := h
  obtain ⟨a1, p1, rfl, -⟩ := h.seen.shape
  obtain ⟨a2, p2, rfl, -⟩ := h.items.shape
  obtain ⟨a3, p3, rfl, -⟩ := h.gone.shape
  have l1 := h.seen.len
  have l2 := h.items.len
  have l3 := h.gone.len
  unfold maxLen at l1 l2 l3
  obtain ⟨n1, hn1⟩ : ∃ n, m.seen.length = n := ⟨_, rfl⟩
  obtain ⟨n2, hn2⟩ : ∃ n, m.items.length = n := ⟨_, rfl⟩
  obtain ⟨n3, hn3⟩ : ∃ n, m.gone.length = n := ⟨_, rfl⟩
  rw [hn1, hn2, hn3] at h
  rw [hn1] at l1 ⊢
  rw [hn2] at l2 ⊢
  rw [hn3] at l3 ⊢
  obtain ⟨wx, hwx⟩ : ∃ wx, wx = w.alloc (.cells #[.slice a1 n1 p1, .slice a2 n2 p2, .slice a3 n3 p3] 26) := ⟨_, rfl⟩
  have hbx : Below w.heap.size w wx := by rw [hwx]; exact kept_alloc _ _
  have hzx : wx.heap.size = w.heap.size + 1 := by rw [hwx]; simp
  have hx := h.keep (w' := wx) fun b _ hlt => hbx.block b hlt
  have hnx : Blk wx w.heap.size [.slice a1 n1 p1, .slice a2 n2 p2, .slice a3 n3 p3] 26 := by rw [hwx]; exact Blk.new _ _ _
  have Hx := Lib.hid hx; have Hn1 := Lib.hid hn1; have Hn2 := Lib.hid hn2; have Hn3 := Lib.hid hn3
  have Hwx := Lib.hid hwx; have Hbx := Lib.hid hbx; have Hzx := Lib.hid hzx
  have c0 := hnx.cell 0
  have c1 := hnx.cell 1
  have c2 := hnx.cell 2
  simp at c0 c1 c2
  have Hnx := Lib.hid hnx
  clear hx hn1 hn2 hn3 hwx hbx hnx hzx
  have HV := Lib.hid (rvalid2_any wx _ (.agg #[.slice a1 n1 p1, .slice a2 n2 p2, .slice a3 n3 p3]) m ⟨_, _, _, rfl, Hx.out⟩ hki hkg)
  rw [hok] at HV
  have Hok := Lib.hid hok
  clear h hok hki hkg
  go_enter Tryz.func9, Tryz.ntmps9
  go_wp2_with fail
  rw [← Hwx.out]
  refine HV.out.mono ?_
  rintro e w2 ⟨rfl, hb2⟩
  have hW2 := Hbx.out.trans (hb2.mono Hbx.out.size)
  have hx2 := Hx.out.keep (w' := w2) fun b _ hlt => hb2.block b hlt
  have hn2 := Hnx.out.keep (hb2.block _ Hnx.out.lt)
  have HW2 := Lib.hid hW2
  clear HV c0 c1 c2
  cases ok with
  | false =>
    clear hx2 hn2 hW2 hb2
    go_wp2_with fail
    go_ret
    exact ⟨by unfold valueR; rw [Hok.out]; rfl, HW2.out⟩
  | true =>
    have HM := Lib.hid (rvalM_any w2 _ (.agg #[.slice a1 n1 p1, .slice a2 n2 p2, .slice a3 n3 p3]) m ⟨_, _, _, rfl, hx2⟩ (valid_formed Hok.out) (valid_lens Hok.out).2.1 key)
    obtain ⟨c0, c1, c2⟩ := cell3 hn2
    clear hx2 hn2 hW2 hb2
    go_wp2_with fail
    refine HM.out.mono ?_
    rintro e w3 ⟨rfl, hb3⟩
    clear HM
    go_wp2_with fail
    go_ret
    exact ⟨by unfold valueR; rw [Hok.out]; rfl, HW2.out.trans (hb3.mono HW2.out.size)⟩
end Go.Proofs.YtohahloghmanpaaGreatDoor
