/-
  RCntC
-/
import Derived.Test.YtohahloghmanpaaGreatDoorZB35
import Derived.Test.YtohahloghmanpaaGreatDoorZB37
namespace Go.Proofs.YtohahloghmanpaaGreatDoor
open Go.RowKit Go.Lib
set_option linter.unusedVariables false
set_option maxRecDepth 20000
attribute [local go_sem ↓] seal_append
attribute [local go_sem] opC upC

theorem infoCn : (Tryz.prog.info? 39).map (fun i => (i.zero, i.size, i.bytes)) = some (some (.agg #[.string ⟨#[]⟩, .int .i64 0]), 2, 24) := by kernel_rfl
def CntPost (w : World) (l : List RCn) (e : Ending) (w' : World) : Prop :=
  (∃ r, e = .returned r ∧ Rows (fun q => w.heap.size ≤ q) w' 2 r l.length (l.flatMap encCn)) ∧ Below w.heap.size w w'
theorem valueM_le {m : RMap} (f : Formed m) (hl : m.items.length ≤ 4096) (k : RKey) : 0 ≤ valueM m k ∧ valueM m k ≤ 68719476736 := by
  have := vsum_le m k m.items fun y hy => valIt_le f hy
  rw [vsum_all] at this
  omega
set_option maxRecDepth 100000 in
set_option maxHeartbeats 4000000 in
theorem rcounts_any (w : World) (F : Blks) (v : Value) (m : RMap) (h : MapV F w v m) (hki : ∀ x ∈ m.items, x.key.length ≤ 1000000000) (hkg : ∀ x ∈ m.gone, x.key.length ≤ 1000000000) :
    Calls Tryz.prog 7 #[v] w (CntPost w (countsR m)) := by
  replace h := h.mono (G := fun b => b < w.heap.size) fun b _ hlt => hlt
  obtain ⟨ok, hok⟩ : ∃ ok, validR m = ok := ⟨_, rfl⟩
  obtain ⟨s1, s2, s3, rfl, h⟩ := h
  obtain ⟨a1, p1, rfl, -⟩ := h.seen.shape
  obtain ⟨a2, p2, rfl, -⟩ := h.items.shape
  obtain ⟨a3, p3, rfl, -⟩ := h.gone.shape
  have l1 := h.seen.len
  have l2 := h.items.len
  have l3 := h.gone.len
  unfold maxLen at l1 l2 l3
  obtain ⟨n1, hn1⟩ : ∃ n, m.seen.length = n := ⟨_, rfl⟩
  obtain ⟨n2, hn2⟩ : ∃ n, m.items.length = n := ⟨_, rfl⟩
  obtain ⟨n3, hn3⟩ : ∃ n, m.gone.length = n := ⟨_, rfl⟩
  rw [hn1, hn2, hn3] at h
  rw [hn1] at l1 ⊢
  rw [hn2] at l2 ⊢
  rw [hn3] at l3 ⊢
  obtain ⟨wx, hwx⟩ : ∃ wx, wx = w.alloc (.cells #[.slice a1 n1 p1, .slice a2 n2 p2, .slice a3 n3 p3] 26) := ⟨_, rfl⟩
  have hbx : Below w.heap.size w wx := by rw [hwx]; exact kept_alloc _ _
  have hzx : wx.heap.size = w.heap.size + 1 := by rw [hwx]; simp
  have hx := h.keep (w' := wx) fun b _ hlt => hbx.block b hlt
  have hnx : Blk wx w.heap.size [.slice a1 n1 p1, .slice a2 n2 p2, .slice a3 n3 p3] 26 := by rw [hwx]; exact Blk.new _ _ _
  have Hx := Lib.hid hx; have Hn1 := Lib.hid hn1; have Hn2 := Lib.hid hn2; have Hn3 := Lib.hid hn3
  have Hwx := Lib.hid hwx; have Hbx := Lib.hid hbx; have Hzx := Lib.hid hzx
  have c0 := hnx.cell 0
  have c1 := hnx.cell 1
  have c2 := hnx.cell 2
  simp at c0 c1 c2
  have Hnx := Lib.hid hnx
  clear hx hn1 hn2 hn3 hwx hbx hnx hzx
  have HV := Lib.hid (rvalid2_any wx _ (.agg #[.slice a1 n1 p1, .slice a2 n2 p2, .slice a3 n3 p3]) m ⟨_, _, _, rfl, Hx.out⟩ hki hkg)
  rw [hok] at HV
  have HM := Lib.hid (show ∀ W, Below wx.heap.size wx W → (W.cell? ⟨w.heap.size, 0, none⟩ = some (.slice a1 n1 p1) ∧ W.cell? ⟨w.heap.size, 1, none⟩ = some (.slice a2 n2 p2) ∧ W.cell? ⟨w.heap.size, 2, none⟩ = some (.slice a3 n3 p3)) ∧ MapIn (fun b => b < w.heap.size) W (.slice a1 n1 p1) (.slice a2 n2 p2) (.slice a3 n3 p3) m from fun W hb => by
    have hz := Hzx.out
    exact ⟨cell3 (Hnx.out.keep (hb.block _ (by omega))), Hx.out.keep fun b hb' hlt => hb.block b hlt⟩)
  have Hok := Lib.hid hok
  clear h hok hki hkg
  go_enter Tryz.func7, Tryz.ntmps7
  go_wp2_with fail
  rw [← Hwx.out]
  refine HV.out.mono ?_
  rintro e w2 ⟨rfl, hb2⟩
  have Hb2 := Lib.hid hb2
  clear HV c0 c1 c2 hb2
  cases ok with
  | false =>
    go_wp2_with fail
    go_ret
    exact ⟨⟨_, rfl, by unfold countsR; rw [Hok.out]; exact Rows.nil _ _ _⟩, Hbx.out.trans (Hb2.out.mono Hbx.out.size)⟩
  | true =>
    have Hf := Lib.hid (valid_formed Hok.out)
    have Hl := Lib.hid (show n2 ≤ 4096 by rw [← Hn2.out]; exact (valid_lens Hok.out).2.1)
    go_wp2_with fail
    go_loopw [3, 4] (fun o i wr => ∃ (k : Nat) (ao : Option Addr) (co : Nat), k ≤ n2 ∧ i = .int .i64 (k : Int) ∧ o = .slice ao (refC m k).length co ∧ wr.ownsRow (w.heap.size + 1) 39 2 (.slice ao (refC m k).length co) (refC m k).length ((refC m k).flatMap encCn) ∧ Below wx.heap.size wx wr) (fun _ i _ => n2 - (intOf i).toNat)
    case atStart => exact ⟨0, none, 0, by omega, rfl, rfl, World.ownsRow_nil _ _ _ _, Hb2.out⟩
    case round =>
      obtain ⟨k, ao, co, hk, rfl, rfl, hown, hbw⟩ := hrel
      obtain ⟨⟨d0, d1, d2⟩, hmp⟩ := HM.out wr hbw
      have Hbw := Lib.hid hbw; have Hown := Lib.hid hown
      clear hbw hown
      by_cases hkn : k < n2
      · have hkI : (k : Int) < (n2 : Int) := by omega
        have hkl : k < m.items.length := by rw [Hn2.out]; exact hkn
        obtain ⟨b, off, rfl, -, -, hc⟩ := it_cell hmp.items (by omega)
        obtain ⟨x, hx⟩ : ∃ x, m.items[k] = x := ⟨_, rfl⟩
        have Hxe := Lib.hid hx
        by_cases hk0 : k = 0
        · subst hk0
          have Hhd := Lib.hid (show headAt m.items 0 x = true by unfold headAt; simp)
          have hk0I : (0 : Int) < (n2 : Int) := by omega
          have pm1 : ∀ w', Later wr.drew w' → w'.cell? _ = _ := fun w' hh => laterC d1 hh
          clear hc hx d0 d2 hmp
          go_wp2_with fail
          refine wp_region_can Later [(0, true), (1, true), (2, true), (3, true), (4, true), (5, true), (6, true), (7, true), (8, true), (9, true), (10, true), (11, true), (12, true), (13, true), (14, true), (15, true), (16, true), (17, true)] (by kernel_rfl) (by kernel_rfl) later_refl later_trans ?_
          repeat (first
            | (refine can_yes (v := ?_) rfl (wanted_none rfl) (fun w' hC => ?_) (fun K hK => ?_); rotate_left; (focus (go_simp; (try simp (disch := omega) only [IntWalk.i64_in]); first | done | exact rfl)); go_simp; (try simp (disch := omega) only [IntWalk.i64_in]); refine hK _ ?_; clear hK K)
            | (refine can_guard rfl (fun A B hA hB => ?_); go_simp; first | (refine hA ⟨?_, fun w' hC => ?_, fun K hK => ?_⟩; rotate_left; (focus (go_simp; (try simp (disch := omega) only [IntWalk.i64_in]); first | done | exact rfl)); go_simp; (try simp (disch := omega) only [IntWalk.i64_in]); refine hK _ ?_; clear hK K hA hB A B) | (refine hB (fun K hK => ?_); go_simp; (try simp (disch := omega) only [IntWalk.i64_in]); refine hK _ ?_; clear hK K hA hB A B))
            | (refine can_guard_go rfl (fun A B hA hB => ?_); go_simp; refine hB (fun K hK => ?_); go_simp; (try simp (disch := omega) only [IntWalk.i64_in]); refine hK _ ?_; clear hK K hA hB A B))
          refine can_nil ?_
          clear pm1 d1
          obtain ⟨wd, hwd⟩ : ∃ q, q = wr.drew := ⟨_, rfl⟩
          rw [← hwd]
          have hbd : Below wx.heap.size wx wd := by rw [hwd]; exact Hbw.out.drew
          have hown : wd.ownsRow (w.heap.size + 1) 39 2 (.slice ao (refC m 0).length co) (refC m 0).length ((refC m 0).flatMap encCn) := by rw [hwd]; exact own_below Hown.out (Below.refl wr.heap.size wr).drew
          obtain ⟨⟨d0, d1, d2⟩, hmp⟩ := HM.out wd hbd
          obtain ⟨b', off', hbo, -, -, hc⟩ := it_cell hmp.items (by omega)
          obtain ⟨rfl, rfl⟩ : b' = b ∧ off' = off := by
            injection hbo with hbo
            injection hbo with h1 h2
            exact ⟨h1.symm, h2.symm⟩
          have e0 := (hc 0 hkl).1
          try simp only [Nat.zero_mul, Nat.add_zero] at e0
          rw [Hxe.out] at e0
          clear hbo hc
          have pm0 : ∀ w', Later wd.drew w' → w'.cell? _ = _ := fun w' hh => laterC d0 hh
          have pm1 : ∀ w', Later wd.drew w' → w'.cell? _ = _ := fun w' hh => laterC d1 hh
          have pm2 : ∀ w', Later wd.drew w' → w'.cell? _ = _ := fun w' hh => laterC d2 hh
          have pk : ∀ w', Later wd.drew w' → w'.cell? _ = _ := fun w' hh => laterC e0 hh
          obtain ⟨n, hn⟩ : ∃ n, valueM m x.key = n := ⟨_, rfl⟩
          have hV := rvalM_any wd.drew _ (.agg #[.slice a1 n1 p1, .slice (some ⟨b', off', none⟩) n2 p2, .slice a3 n3 p3]) m ⟨_, _, _, rfl, hmp.keep (w' := wd.drew) fun q _ _ => rfl⟩ Hf.out (by rw [Hn2.out]; exact Hl.out) x.key
          rw [hn] at hV
          have hcn : cnt1 m 0 = if 0 < n then [(x.key, n)] else [] := by
            unfold cnt1
            rw [List.getElem?_eq_getElem hkl, Hxe.out]
            dsimp only
            rw [hn, Hhd.out]
            simp
          have hnb := valueM_le Hf.out (by rw [Hn2.out]; exact Hl.out) x.key
          rw [hn] at hnb
          obtain ⟨xk, hxk⟩ : ∃ y, x.key = y := ⟨_, rfl⟩
          rw [hxk] at pk hV hcn
          have HV := Lib.hid hV; have Hcn := Lib.hid hcn; have Hbd := Lib.hid hbd; have Hownd := Lib.hid hown
          clear hbd hown d0 d1 d2 e0 hmp hV hcn hn hwd hxk Hhd
          go_wp2_with fail
          refine wp_region_can Later [(0, true), (1, true), (2, true), (3, true), (4, true), (5, true), (6, true), (7, false), (8, true)] (by kernel_rfl) (by kernel_rfl) later_refl later_trans ?_
          repeat (refine can_yes (v := ?_) rfl (wanted_none rfl) (fun w' hC => ?_) (fun K hK => ?_); rotate_left; (focus (go_simp; (try simp (disch := omega) only [IntWalk.i64_in]); first | done | exact rfl)); go_simp; (try simp (disch := omega) only [IntWalk.i64_in]); refine hK _ ?_; clear hK K)
          refine can_go rfl rfl (fun KK hK => ?_)
          go_simp
          refine HV.out.mono ?_
          rintro e w4 ⟨rfl, hb4⟩
          refine ⟨_, rfl, hb4, hK _ _ ?_⟩
          clear hK KK HV
          have c1 := pm1 w4 hb4
          have ck := pk w4 hb4
          have hbd4 : Below wx.heap.size wx w4 := Hbd.out.trans (((Below.refl wd.heap.size wd).drew.trans hb4).mono Hbd.out.size)
          have hown4 := own_below Hownd.out ((Below.refl wd.heap.size wd).drew.trans hb4)
          have Hbd4 := Lib.hid hbd4; have Hown4 := Lib.hid hown4
          clear pm0 pm1 pm2 pk hb4 hbd4 hown4
          go_simp
          repeat (refine can_yes (v := ?_) rfl (wanted_none rfl) (fun w' hC => ?_) (fun K hK => ?_); rotate_left; (focus (go_simp; (try simp (disch := omega) only [IntWalk.i64_in]); first | done | exact rfl)); go_simp; (try simp (disch := omega) only [IntWalk.i64_in]); refine hK _ ?_; clear hK K)
          refine can_nil ?_
          by_cases h0 : 0 < n
          · obtain ⟨i0, t1, t2, t3, t4⟩ := info_parts infoCn
            have hlenC := refC_len m 0
            obtain ⟨va, w5, hr, hown5, hgr⟩ := run_append_one (P := Tryz.prog) w4 (w.heap.size + 1) 33 39 Tryz.underlying33 t1 t2 t3 t4 rfl (by decide) (.slice ao (refC m 0).length co) (refC m 0).length _ Hown4.out #[.string ⟨xk.toArray⟩, .int .i64 n] rfl (by simp [Value.oneCell']) (by have := Hl.out; unfold maxLen; omega) (by have := Hl.out; omega) (by have := Hbd4.out.size; have := Hzx.out; omega)
            obtain ⟨a5, c5, rfl⟩ := own_shape hown5
            have hb5 : Below wx.heap.size wx w5 := Hbd4.out.trans (((Below.refl wx.heap.size w4).alloc Hbd4.out.size _).trans (Below.grownOwn (Hown4.out.alloc _) hgr (by have := Hbd4.out.size; simp; omega) (by rw [Hzx.out]; exact Nat.le_refl _)))
            have hst : refC m (0 + 1) = refC m 0 ++ [(xk, n)] := by show refC m 0 ++ cnt1 m 0 = _; rw [Hcn.out, if_pos h0]
            have Hst := Lib.hid hst; have Hown5 := Lib.hid hown5; have Hb5 := Lib.hid hb5
            clear hown5 hgr hb5 hst t1 t2 t3 t4 hlenC
            go_wp2_with fail
            go_roundw
            case rel => exact ⟨0 + 1, a5, c5, by omega, by go_num, by rw [Hst.out]; simp, by rw [Hst.out]; simpa [encCn] using Hown5.out, Hb5.out⟩
            case measure => first | (simp [intOf]; done) | (simp [intOf]; omega)
          · have hst : refC m (0 + 1) = refC m 0 := by show refC m 0 ++ cnt1 m 0 = _; rw [Hcn.out, if_neg h0, List.append_nil]
            have Hst := Lib.hid hst
            clear hst c1 ck
            go_wp2_with fail
            go_roundw
            case rel => exact ⟨0 + 1, ao, co, by omega, by go_num, by rw [Hst.out], by rw [Hst.out]; exact Hown4.out, Hbd4.out⟩
            case measure => first | (simp [intOf]; done) | (simp [intOf]; omega)
        · obtain ⟨j, hj⟩ : ∃ j, k = j + 1 := ⟨k - 1, by omega⟩
          have hjl : j < m.items.length := by omega
          have hk0I : (0 : Int) < (k : Int) := by omega
          have hk0N : 0 < k := by omega
          have hjI : (j : Int) < (n2 : Int) := by omega
          have hs0 : IntKind.i64.wrap ((k : Int) - 1) = (j : Int) := by rw [show (k : Int) - 1 = (j : Int) by omega]; exact IntWalk.i64_in _ (by omega)
          obtain ⟨y, hy⟩ : ∃ y, m.items[j] = y := ⟨_, rfl⟩
          have e0 := (hc k hkl).1
          have f0 := (hc j hjl).1
          rw [hx] at e0
          rw [hy] at f0
          obtain ⟨yk, hyk⟩ : ∃ q, y.key = q := ⟨_, rfl⟩
          obtain ⟨xk', hxk'⟩ : ∃ q, x.key = q := ⟨_, rfl⟩
          rw [hyk] at f0
          rw [hxk'] at e0
          have pm1 : ∀ w', Later wr.drew w' → w'.cell? _ = _ := fun w' hh => laterC d1 hh
          have pk : ∀ w', Later wr.drew w' → w'.cell? _ = _ := fun w' hh => laterC e0 hh
          have pj : ∀ w', Later wr.drew w' → w'.cell? _ = _ := fun w' hh => laterC f0 hh
          have hpre : m.items[k - 1]?.map RIt.key = some yk := by
            rw [show k - 1 = j by omega, List.getElem?_eq_getElem hjl, hy]
            simp [hyk]
          by_cases hxy : yk = xk'
          · have hxyB : (yk == xk') = true := by simpa using hxy
            have hcn : cnt1 m k = [] := by
              unfold cnt1
              rw [List.getElem?_eq_getElem hkl, hx]
              dsimp only
              rw [if_neg]
              intro h
              have h1 := h.1
              unfold headAt at h1
              rw [hpre, hxy, ← hxk'] at h1
              simp [hk0] at h1
            have hst : refC m (k + 1) = refC m k := by show refC m k ++ cnt1 m k = _; rw [hcn, List.append_nil]
            have Hst := Lib.hid hst
            clear hc hx hy hyk hxk' d0 d2 hmp hpre hcn hst e0 f0 hxy hj
            go_wp2_with fail
            refine wp_region_can Later [(0, true), (1, true), (2, true), (3, true), (4, true), (5, true), (6, true), (7, true), (8, true), (9, true), (10, true), (11, true), (12, true), (13, true), (14, true), (15, true), (16, true), (17, true)] (by kernel_rfl) (by kernel_rfl) later_refl later_trans ?_
            repeat (first
              | (refine can_yes (v := ?_) rfl (wanted_none rfl) (fun w' hC => ?_) (fun K hK => ?_); rotate_left; (focus (go_simp; (try simp (disch := omega) only [IntWalk.i64_in]); first | done | exact rfl)); go_simp; (try simp (disch := omega) only [IntWalk.i64_in]); refine hK _ ?_; clear hK K)
              | (refine can_guard rfl (fun A B hA hB => ?_); go_simp; first | (refine hA ⟨?_, fun w' hC => ?_, fun K hK => ?_⟩; rotate_left; (focus (go_simp; (try simp (disch := omega) only [IntWalk.i64_in]); first | done | exact rfl)); go_simp; (try simp (disch := omega) only [IntWalk.i64_in]); refine hK _ ?_; clear hK K hA hB A B) | (refine hB (fun K hK => ?_); go_simp; (try simp (disch := omega) only [IntWalk.i64_in]); refine hK _ ?_; clear hK K hA hB A B))
              | (refine can_guard_go rfl (fun A B hA hB => ?_); go_simp; refine hB (fun K hK => ?_); go_simp; (try simp (disch := omega) only [IntWalk.i64_in]); refine hK _ ?_; clear hK K hA hB A B))
            refine can_nil ?_
            clear pm1 pk pj d1
            go_wp2_with fail
            go_roundw
            case rel => exact ⟨k + 1, ao, co, by omega, by go_num, by rw [Hst.out], by rw [Hst.out]; exact own_below Hown.out (Below.refl wr.heap.size wr).drew, Hbw.out.drew⟩
            case measure => first | (simp [intOf]; done) | (simp [intOf]; omega)
          · have hxyB : (yk == xk') = false := by simpa using hxy
            have Hhd := Lib.hid (show headAt m.items k x = true by
              unfold headAt
              rw [hpre, hxk']
              simp [hk0, hxy])
            clear hc hx hy hyk hxk' d0 d2 hmp hpre e0 f0 hxy hj
            go_wp2_with fail
            refine wp_region_can Later [(0, true), (1, true), (2, true), (3, true), (4, true), (5, true), (6, true), (7, true), (8, true), (9, true), (10, true), (11, true), (12, true), (13, true), (14, true), (15, true), (16, true), (17, true)] (by kernel_rfl) (by kernel_rfl) later_refl later_trans ?_
            repeat (first
              | (refine can_yes (v := ?_) rfl (wanted_none rfl) (fun w' hC => ?_) (fun K hK => ?_); rotate_left; (focus (go_simp; (try simp (disch := omega) only [IntWalk.i64_in]); first | done | exact rfl)); go_simp; (try simp (disch := omega) only [IntWalk.i64_in]); refine hK _ ?_; clear hK K)
              | (refine can_guard rfl (fun A B hA hB => ?_); go_simp; first | (refine hA ⟨?_, fun w' hC => ?_, fun K hK => ?_⟩; rotate_left; (focus (go_simp; (try simp (disch := omega) only [IntWalk.i64_in]); first | done | exact rfl)); go_simp; (try simp (disch := omega) only [IntWalk.i64_in]); refine hK _ ?_; clear hK K hA hB A B) | (refine hB (fun K hK => ?_); go_simp; (try simp (disch := omega) only [IntWalk.i64_in]); refine hK _ ?_; clear hK K hA hB A B))
              | (refine can_guard_go rfl (fun A B hA hB => ?_); go_simp; refine hB (fun K hK => ?_); go_simp; (try simp (disch := omega) only [IntWalk.i64_in]); refine hK _ ?_; clear hK K hA hB A B))
            refine can_nil ?_
            clear pm1 pk pj d1 hxyB hs0 hk0I hk0N
            obtain ⟨wd, hwd⟩ : ∃ q, q = wr.drew := ⟨_, rfl⟩
            rw [← hwd]
            have hbd : Below wx.heap.size wx wd := by rw [hwd]; exact Hbw.out.drew
            have hown : wd.ownsRow (w.heap.size + 1) 39 2 (.slice ao (refC m k).length co) (refC m k).length ((refC m k).flatMap encCn) := by rw [hwd]; exact own_below Hown.out (Below.refl wr.heap.size wr).drew
            obtain ⟨⟨d0, d1, d2⟩, hmp⟩ := HM.out wd hbd
            obtain ⟨b', off', hbo, -, -, hc⟩ := it_cell hmp.items (by omega)
            obtain ⟨rfl, rfl⟩ : b' = b ∧ off' = off := by
              injection hbo with hbo
              injection hbo with h1 h2
              exact ⟨h1.symm, h2.symm⟩
            have e0 := (hc k hkl).1
            try simp only [Nat.zero_mul, Nat.add_zero] at e0
            rw [Hxe.out] at e0
            clear hbo hc
            have pm0 : ∀ w', Later wd.drew w' → w'.cell? _ = _ := fun w' hh => laterC d0 hh
            have pm1 : ∀ w', Later wd.drew w' → w'.cell? _ = _ := fun w' hh => laterC d1 hh
            have pm2 : ∀ w', Later wd.drew w' → w'.cell? _ = _ := fun w' hh => laterC d2 hh
            have pk : ∀ w', Later wd.drew w' → w'.cell? _ = _ := fun w' hh => laterC e0 hh
            obtain ⟨n, hn⟩ : ∃ n, valueM m x.key = n := ⟨_, rfl⟩
            have hV := rvalM_any wd.drew _ (.agg #[.slice a1 n1 p1, .slice (some ⟨b', off', none⟩) n2 p2, .slice a3 n3 p3]) m ⟨_, _, _, rfl, hmp.keep (w' := wd.drew) fun q _ _ => rfl⟩ Hf.out (by rw [Hn2.out]; exact Hl.out) x.key
            rw [hn] at hV
            have hcn : cnt1 m k = if 0 < n then [(x.key, n)] else [] := by
              unfold cnt1
              rw [List.getElem?_eq_getElem hkl, Hxe.out]
              dsimp only
              rw [hn, Hhd.out]
              simp
            have hnb := valueM_le Hf.out (by rw [Hn2.out]; exact Hl.out) x.key
            rw [hn] at hnb
            obtain ⟨xk, hxk⟩ : ∃ y, x.key = y := ⟨_, rfl⟩
            rw [hxk] at pk hV hcn
            have HV := Lib.hid hV; have Hcn := Lib.hid hcn; have Hbd := Lib.hid hbd; have Hownd := Lib.hid hown
            clear hbd hown d0 d1 d2 e0 hmp hV hcn hn hwd hxk Hhd
            go_wp2_with fail
            refine wp_region_can Later [(0, true), (1, true), (2, true), (3, true), (4, true), (5, true), (6, true), (7, false), (8, true)] (by kernel_rfl) (by kernel_rfl) later_refl later_trans ?_
            repeat (refine can_yes (v := ?_) rfl (wanted_none rfl) (fun w' hC => ?_) (fun K hK => ?_); rotate_left; (focus (go_simp; (try simp (disch := omega) only [IntWalk.i64_in]); first | done | exact rfl)); go_simp; (try simp (disch := omega) only [IntWalk.i64_in]); refine hK _ ?_; clear hK K)
            refine can_go rfl rfl (fun KK hK => ?_)
            go_simp
            refine HV.out.mono ?_
            rintro e w4 ⟨rfl, hb4⟩
            refine ⟨_, rfl, hb4, hK _ _ ?_⟩
            clear hK KK HV
            have c1 := pm1 w4 hb4
            have ck := pk w4 hb4
            have hbd4 : Below wx.heap.size wx w4 := Hbd.out.trans (((Below.refl wd.heap.size wd).drew.trans hb4).mono Hbd.out.size)
            have hown4 := own_below Hownd.out ((Below.refl wd.heap.size wd).drew.trans hb4)
            have Hbd4 := Lib.hid hbd4; have Hown4 := Lib.hid hown4
            clear pm0 pm1 pm2 pk hb4 hbd4 hown4
            go_simp
            repeat (refine can_yes (v := ?_) rfl (wanted_none rfl) (fun w' hC => ?_) (fun K hK => ?_); rotate_left; (focus (go_simp; (try simp (disch := omega) only [IntWalk.i64_in]); first | done | exact rfl)); go_simp; (try simp (disch := omega) only [IntWalk.i64_in]); refine hK _ ?_; clear hK K)
            refine can_nil ?_
            by_cases h0 : 0 < n
            · obtain ⟨i0, t1, t2, t3, t4⟩ := info_parts infoCn
              have hlenC := refC_len m k
              obtain ⟨va, w5, hr, hown5, hgr⟩ := run_append_one (P := Tryz.prog) w4 (w.heap.size + 1) 33 39 Tryz.underlying33 t1 t2 t3 t4 rfl (by decide) (.slice ao (refC m k).length co) (refC m k).length _ Hown4.out #[.string ⟨xk.toArray⟩, .int .i64 n] rfl (by simp [Value.oneCell']) (by have := Hl.out; unfold maxLen; omega) (by have := Hl.out; omega) (by have := Hbd4.out.size; have := Hzx.out; omega)
              obtain ⟨a5, c5, rfl⟩ := own_shape hown5
              have hb5 : Below wx.heap.size wx w5 := Hbd4.out.trans (((Below.refl wx.heap.size w4).alloc Hbd4.out.size _).trans (Below.grownOwn (Hown4.out.alloc _) hgr (by have := Hbd4.out.size; simp; omega) (by rw [Hzx.out]; exact Nat.le_refl _)))
              have hst : refC m (k + 1) = refC m k ++ [(xk, n)] := by show refC m k ++ cnt1 m k = _; rw [Hcn.out, if_pos h0]
              have Hst := Lib.hid hst; have Hown5 := Lib.hid hown5; have Hb5 := Lib.hid hb5
              clear hown5 hgr hb5 hst t1 t2 t3 t4 hlenC
              go_wp2_with fail
              go_roundw
              case rel => exact ⟨k + 1, a5, c5, by omega, by go_num, by rw [Hst.out]; simp, by rw [Hst.out]; simpa [encCn] using Hown5.out, Hb5.out⟩
              case measure => first | (simp [intOf]; done) | (simp [intOf]; omega)
            · have hst : refC m (k + 1) = refC m k := by show refC m k ++ cnt1 m k = _; rw [Hcn.out, if_neg h0, List.append_nil]
              have Hst := Lib.hid hst
              clear hst c1 ck
              go_wp2_with fail
              go_roundw
              case rel => exact ⟨k + 1, ao, co, by omega, by go_num, by rw [Hst.out], by rw [Hst.out]; exact Hown4.out, Hbd4.out⟩
              case measure => first | (simp [intOf]; done) | (simp [intOf]; omega)
      · have hkI : ¬ (k : Int) < (n2 : Int) := by omega
        have hke : refC m k = countsR m := by unfold countsR countsM; rw [Hok.out, show k = m.items.length by rw [Hn2.out]; omega]; rfl
        have Hfin := Lib.hid (show Rows (fun q => w.heap.size ≤ q) wr 2 (.slice ao (refC m k).length co) (countsR m).length ((countsR m).flatMap encCn) by rw [← hke]; exact (Rows.of_owns Hown.out).mono fun q hq _ => by have := hq.1; omega)
        have Hbel := Lib.hid (Hbx.out.trans (Hbw.out.mono Hbx.out.size))
        clear hke
        go_wp2_with fail
        go_ret
        exact ⟨⟨_, rfl, Hfin.out⟩, Hbel.out⟩
end Go.Proofs.YtohahloghmanpaaGreatDoor
