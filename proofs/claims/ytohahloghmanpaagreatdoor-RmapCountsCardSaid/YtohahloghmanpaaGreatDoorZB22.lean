/-
  RRefF
-/
import Derived.Test.YtohahloghmanpaaGreatDoorZB19
import Derived.Test.YtohahloghmanpaaGreatDoorZB21
namespace Go.Proofs.YtohahloghmanpaaGreatDoor
open Go.RowKit
set_option linter.unusedVariables false
set_option maxRecDepth 20000
attribute [local go_sem] opC upC

theorem formed_no {m : RMap} (h : formedR m = true → False) : formedR m = false := by
  cases hv : formedR m with
  | false => rfl
  | true => exact (h hv).elim
set_option maxRecDepth 100000 in
set_option maxHeartbeats 6000000 in
theorem formed_any (w : World) (F : Blks) (v : Value) (m : RMap) (h : MapV F w v m) (hl2 : m.items.length ≤ 1000000) (hl3 : m.gone.length ≤ 1000000) (hki : ∀ x ∈ m.items, x.key.length ≤ 1000000000) (hkg : ∀ x ∈ m.gone, x.key.length ≤ 1000000000) :
    Calls Tryz.prog 34 #[v] w fun e w' => e = .returned (.bool (formedR m)) ∧ Below w.heap.size w w' := by
  replace h := h.mono (G := fun b => b < w.heap.size) fun b _ hlt => hlt
  obtain ⟨ok, hok⟩ : ∃ ok, formedR m = ok := ⟨_, rfl⟩
  rw [hok]
  have Hok := Lib.hid hok
  have Hki := Lib.hid hki; have Hkg := Lib.hid hkg
  obtain ⟨s1, s2, s3, rfl, h⟩ := h
  obtain ⟨a1, p1, rfl, -⟩ := h.seen.shape
  obtain ⟨a2, p2, rfl, -⟩ := h.items.shape
  obtain ⟨a3, p3, rfl, -⟩ := h.gone.shape
  have l1 := h.seen.len
  have l2 := h.items.len
  have l3 := h.gone.len
  unfold maxLen at l1 l2 l3
  obtain ⟨n1, hn1⟩ : ∃ n, m.seen.length = n := ⟨_, rfl⟩
  obtain ⟨n2, hn2⟩ : ∃ n, m.items.length = n := ⟨_, rfl⟩
  obtain ⟨n3, hn3⟩ : ∃ n, m.gone.length = n := ⟨_, rfl⟩
  rw [hn1, hn2, hn3] at h
  rw [hn1] at l1 ⊢
  rw [hn2] at l2 ⊢
  rw [hn3] at l3 ⊢
  obtain ⟨wx, hwx⟩ : ∃ wx, wx = w.alloc (.cells #[.slice a1 n1 p1, .slice a2 n2 p2, .slice a3 n3 p3] 26) := ⟨_, rfl⟩
  have hbx : Below w.heap.size w wx := by rw [hwx]; exact kept_alloc _ _
  have hzx : wx.heap.size = w.heap.size + 1 := by rw [hwx]; simp
  have hx := h.keep (w' := wx) fun b _ hlt => hbx.block b hlt
  have hnx : Blk wx w.heap.size [.slice a1 n1 p1, .slice a2 n2 p2, .slice a3 n3 p3] 26 := by rw [hwx]; exact Blk.new _ _ _
  have Hx := Lib.hid hx; have Hn1 := Lib.hid hn1; have Hn2 := Lib.hid hn2; have Hn3 := Lib.hid hn3
  have Hwx := Lib.hid hwx; have Hbx := Lib.hid hbx; have Hzx := Lib.hid hzx
  have c0 := hnx.cell 0
  have c1 := hnx.cell 1
  have c2 := hnx.cell 2
  simp at c0 c1 c2
  have Hnx := Lib.hid hnx
  clear hx hn1 hn2 hn3 hwx hbx hnx hzx
  rw [Hn2.out] at hl2
  rw [Hn3.out] at hl3
  have HIB := Lib.hid h.itemsB; have HGB := Lib.hid h.goneB
  have HM := Lib.hid (show ∀ w', Below (w.heap.size + 1) wx w' → (w'.cell? ⟨w.heap.size, 0, none⟩ = some (.slice a1 n1 p1) ∧ w'.cell? ⟨w.heap.size, 1, none⟩ = some (.slice a2 n2 p2) ∧ w'.cell? ⟨w.heap.size, 2, none⟩ = some (.slice a3 n3 p3)) ∧ MapIn (fun b => b < w.heap.size) w' (.slice a1 n1 p1) (.slice a2 n2 p2) (.slice a3 n3 p3) m from fun w' hb => by
    have hk := Hnx.out.keep (hb.block _ (by omega))
    have k0 := hk.cell 0
    have k1 := hk.cell 1
    have k2 := hk.cell 2
    simp at k0 k1 k2
    exact ⟨⟨k0, k1, k2⟩, Hx.out.keep fun b hb' hlt => hb.block b (by omega)⟩)
  have H0 := Lib.hid (show Below (w.heap.size + 1) wx wx from Below.refl _ _)
  have HE := Lib.hid (show ∀ w', Below (w.heap.size + 1) wx w' → Below w.heap.size w w' from fun w' hb => Hbx.out.trans (hb.mono (Nat.le_succ _)))
  have Hzs := Lib.hid (show wx.heap.size = w.heap.size + 1 from Hzx.out)
  clear h hok hki hkg Hx Hnx c1 c2 Hbx Hzx
  go_enter Tryz.func34, Tryz.ntmps34
  by_cases hl1 : n1 = 8
  case neg =>
    have hI : ¬ (n1 : Int) = 8 := by omega
    have hI2 : ((n1 : Int) != 8) = true := by simp [hI]
    obtain rfl : ok = false := by
      rw [← Hok.out]
      refine formed_no fun hv => ?_
      have hf := (formed_iff m).1 hv
      exact hl1 (by rw [← Hn1.out]; exact hf.len)
    go_wp2_with fail
    rw [← Hwx.out]
    go_ret
    exact ⟨rfl, HE.out _ H0.out⟩
  subst hl1
  go_wp2_with fail
  rw [← Hwx.out]
  clear c0
  go_loopw [3] (fun i wr => ∃ k : Nat, k ≤ 8 ∧ i = .int .i64 (k : Int) ∧ wr = wx ∧ ∀ j (hj : j < m.seen.length), j < k → seenOk m.seen[j] = true) (fun i _ => 8 - (intOf i).toNat)
  case atStart => exact ⟨0, by omega, rfl, rfl, fun j _ hj => by omega⟩
  case round =>
    obtain ⟨k, hk, rfl, rfl, hall⟩ := hrel
    have Hall := Lib.hid hall
    clear hall
    obtain ⟨⟨d0, d1, d2⟩, hmp⟩ := HM.out _ H0.out
    by_cases hkn : k < 8
    · have hkI : (k : Int) < 8 := by omega
      have hkl : k < m.seen.length := by rw [Hn1.out]; exact hkn
      obtain ⟨b, off, rfl, -, -, hc⟩ := int_cell hmp.seen (by omega)
      have e0 := hc k hkl
      obtain ⟨x, hx⟩ : ∃ x, m.seen[k] = x := ⟨_, rfl⟩
      rw [hx] at e0
      have Hx := Lib.hid hx
      clear hc hx hmp
      by_cases hs : 0 ≤ x ∧ x ≤ 1099511627776
      · obtain ⟨s1, s2⟩ := hs
        have s1' : ¬ x < 0 := by omega
        have s2' : ¬ x > 1099511627776 := by omega
        have Hs := Lib.hid (show seenOk x = true by unfold seenOk; exact decide_eq_true ⟨s1, s2⟩)
        clear s1 s2
        go_wp2_with fail
        go_roundw
        case rel => exact ⟨k + 1, by omega, by go_num, by trivial, fun j hj hjk => by
          rcases Nat.lt_succ_iff_lt_or_eq.1 hjk with h | h
          · exact Hall.out j hj h
          · subst h; rw [Hx.out]; exact Hs.out⟩
        case measure => simp [intOf]; omega
      ·
        obtain rfl : ok = false := by
          rw [← Hok.out]
          refine formed_no fun hv => ?_
          have hf := (formed_iff m).1 hv
          exact hs (hf.seen x (by rw [← Hx.out]; exact List.getElem_mem hkl))
        by_cases s1 : x < 0
        · go_wp2_with fail
          go_ret
          exact ⟨rfl, HE.out _ H0.out⟩
        · have s2 : x > 1099511627776 := by omega
          go_wp2_with fail
          go_ret
          exact ⟨rfl, HE.out _ H0.out⟩
    · have hkI : ¬ (k : Int) < 8 := by omega
      have Hseen := Lib.hid (show m.seen.all seenOk = true by
        rw [List.all_eq_true]
        intro x hx
        obtain ⟨j, hj, rfl⟩ := List.mem_iff_getElem.1 hx
        exact Hall.out j hj (by rw [Hn1.out] at hj; omega))
      clear hmp Hall hkn hk
      go_wp2_with fail
      clear d0 d1 d2 hkI
      go_loopw [4] (fun i wq => ∃ k : Nat, k ≤ n3 ∧ i = .int .i64 (k : Int) ∧ Below (w.heap.size + 1) wr wq ∧ (∀ j (hj : j < m.gone.length), j < k → goneOk m m.gone[j] = true) ∧ ∀ j (hj : j + 1 < m.gone.length), j + 1 < k → plt m.gone[j].pl m.gone[j + 1].pl) (fun i _ => n3 - (intOf i).toNat)
      case atStart => exact ⟨0, by omega, rfl, H0.out, fun j _ hj => by omega, fun j _ hj => by omega⟩
      case round =>
        rename World => wq
        obtain ⟨k, hk, rfl, hbq, hall, hst⟩ := hrel
        have Hall := Lib.hid hall; have Hbq := Lib.hid hbq; have Hst := Lib.hid hst
        clear hall hbq hst
        obtain ⟨⟨d0, d1, d2⟩, hmp⟩ := HM.out _ Hbq.out
        by_cases hkn : k < n3
        · have hkI : (k : Int) < (n3 : Int) := by omega
          have hkl : k < m.gone.length := by rw [Hn3.out]; exact hkn
          obtain ⟨b, off, rfl, hblt, -, hc⟩ := go_cell hmp.gone (by omega)
          obtain ⟨e0, e1, e2⟩ := hc k hkl
          obtain ⟨x, hx⟩ : ∃ x, m.gone[k] = x := ⟨_, rfl⟩
          rw [hx] at e0 e1 e2
          have Hx := Lib.hid hx
          obtain ⟨wb, hwb⟩ : ∃ wb, wb = wq.alloc (.cells #[.string ⟨x.key.toArray⟩, .int .i64 x.dev, .int .i64 x.seq] 46) := ⟨_, rfl⟩
          have hbb : Below (w.heap.size + 1) wr wb := by rw [hwb]; exact Hbq.out.alloc (by have := Hbq.out.size; have := Hzs.out; omega) _
          have hXB : Blk wb wq.heap.size [.string ⟨x.key.toArray⟩, .int .i64 x.dev, .int .i64 x.seq] 46 := by rw [hwb]; exact Blk.new _ _ _
          have x0 := hXB.cell 0
          have x1 := hXB.cell 1
          have x2 := hXB.cell 2
          simp at x0 x1 x2
          obtain ⟨⟨m0, m1, m2⟩, -⟩ := HM.out _ hbb
          have px0 : ∀ w', Later wb.drew w' → w'.cell? _ = _ := fun w' hh => laterC x0 hh
          have px1 : ∀ w', Later wb.drew w' → w'.cell? _ = _ := fun w' hh => laterC x1 hh
          have px2 : ∀ w', Later wb.drew w' → w'.cell? _ = _ := fun w' hh => laterC x2 hh
          have pm0 : ∀ w', Later wb.drew w' → w'.cell? _ = _ := fun w' hh => laterC m0 hh
          have pm1 : ∀ w', Later wb.drew w' → w'.cell? _ = _ := fun w' hh => laterC m1 hh
          have pm2 : ∀ w', Later wb.drew w' → w'.cell? _ = _ := fun w' hh => laterC m2 hh
          have hxg : x ∈ m.gone := by rw [← hx]; exact List.getElem_mem hkl
          have HPL := Lib.hid (placed_any wb.drew _ (.agg #[.slice a1 8 p1, .slice a2 n2 p2, .slice (some ⟨b, off, none⟩) n3 p3]) m ⟨_, _, _, rfl, ((HM.out _ hbb).2.keep (w' := wb.drew) fun _ _ _ => rfl)⟩ x.key x.dev x.seq (Hkg.out x hxg) (HGB.out x hxg).2.1 (HGB.out x hxg).2.2)
          have HC := Lib.hid hc
          have Hwb := Lib.hid hwb; have Hbb := Lib.hid hbb
          have Hzb := Lib.hid (show wq.heap.size < wb.heap.size from hXB.lt)
          have Hbl := Lib.hid hblt
          clear hc hx hwb hbb hXB x0 x1 x2 m0 m1 m2 d0 d1 hmp hxg hblt
          go_wp2_with fail
          rw [← Hwb.out]
          refine wp_region_can Later [(0, true), (1, true), (2, true), (3, true), (4, true), (5, true), (6, true), (7, false), (8, true), (9, true), (10, true), (11, true), (12, true), (13, true), (14, true), (15, true), (16, true), (17, true), (18, true), (19, true), (20, true), (21, true), (22, true), (23, true), (24, true), (25, true), (26, true), (27, true), (28, true), (29, true), (30, true), (31, false), (32, true), (33, true), (34, true)] (by kernel_rfl) (by kernel_rfl) later_refl later_trans ?_
          repeat (first
            | (refine can_yes (v := ?_) rfl (wanted_none rfl) (fun w' hC => ?_) (fun K hK => ?_); rotate_left; (focus (go_simp; first | done | exact rfl)); go_simp; refine hK _ ?_; clear hK K)
            | (refine can_guard rfl (fun A B hA hB => ?_); go_simp; first | (refine hA ⟨?_, fun w' hC => ?_, fun K hK => ?_⟩; rotate_left; (focus (go_simp; first | done | exact rfl)); go_simp; refine hK _ ?_; clear hK K hA hB A B) | (refine hB (fun K hK => ?_); go_simp; refine hK _ ?_; clear hK K hA hB A B))
            | (refine can_guard_go rfl (fun A B hA hB => ?_); go_simp; refine hB (fun K hK => ?_); go_simp; refine hK _ ?_; clear hK K hA hB A B))
          refine can_go rfl rfl (fun KK hK => ?_)
          go_simp
          refine HPL.out.mono ?_
          rintro e w4 ⟨rfl, hb4⟩
          refine ⟨_, rfl, hb4, hK _ _ ?_⟩
          clear hK KK HPL
          go_simp
          have hb4' : Below (w.heap.size + 1) wr w4 := Hbb.out.drew.trans (hb4.mono (by have := Hbb.out.size; have := Hzs.out; show _ ≤ wb.heap.size; omega))
          have Hb4 := Lib.hid hb4'
          have hl4 : Later wb.drew w4 := hb4
          have qx0 : ∀ w', Later w4 w' → w'.cell? _ = _ := fun w' hh => px0 w' (later_trans _ _ _ hl4 hh)
          have qx1 : ∀ w', Later w4 w' → w'.cell? _ = _ := fun w' hh => px1 w' (later_trans _ _ _ hl4 hh)
          have qm2 : ∀ w', Later w4 w' → w'.cell? _ = _ := fun w' hh => pm2 w' (later_trans _ _ _ hl4 hh)
          have hHL4 : ∀ w', Later w4 w' → Below (w.heap.size + 1) wr w' := fun w' hh => hb4'.trans (RowKit.Below.mono hh (by have := hb4'.size; have := Hzs.out; omega))
          have HL4 := Lib.hid hHL4
          clear hb4 hb4' hl4 px0 px1 px2 pm0 pm1 pm2 hHL4
          obtain ⟨kn, hkn'⟩ : ∃ kn, knownR m (x.key, x.dev) x.seq = kn := ⟨_, rfl⟩
          rw [hkn']
          have Hkn := Lib.hid (show knownR m x.pl x.seq = kn from hkn')
          clear hkn'
          cases kn with
          | false =>
            clear qx0 qx1 qm2
            repeat (first
              | (refine can_yes (v := ?_) rfl (wanted_none rfl) (fun w' hC => ?_) (fun K hK => ?_); rotate_left; (focus (go_simp; (try simp (disch := omega) only [IntWalk.i64_in]); first | done | exact rfl)); go_simp; (try simp (disch := omega) only [IntWalk.i64_in]); refine hK _ ?_; clear hK K)
              | (refine can_guard rfl (fun A B hA hB => ?_); go_simp; first | (refine hA ⟨?_, fun w' hC => ?_, fun K hK => ?_⟩; rotate_left; (focus (go_simp; (try simp (disch := omega) only [IntWalk.i64_in]); first | done | exact rfl)); go_simp; (try simp (disch := omega) only [IntWalk.i64_in]); refine hK _ ?_; clear hK K hA hB A B) | (refine hB (fun K hK => ?_); go_simp; (try simp (disch := omega) only [IntWalk.i64_in]); refine hK _ ?_; clear hK K hA hB A B))
              | (refine can_guard_go rfl (fun A B hA hB => ?_); go_simp; refine hB (fun K hK => ?_); go_simp; (try simp (disch := omega) only [IntWalk.i64_in]); refine hK _ ?_; clear hK K hA hB A B))
            obtain rfl : ok = false := by
              rw [← Hok.out]
              refine formed_no fun hv => ?_
              have hf := (formed_iff m).1 hv
              have h1 := hf.gknown x (by rw [← Hx.out]; exact List.getElem_mem hkl); rw [Hkn.out] at h1; cases h1
            refine can_nil ?_
            go_wp2_with fail
            go_ret
            exact ⟨rfl, HE.out _ Hb4.out⟩
          | true =>
            have Hgok := Lib.hid (show goneOk m x = true from Hkn.out)
            rcases Nat.eq_zero_or_pos k with rfl | hk0
            · clear qx0 qx1 qm2
              repeat (first
                | (refine can_yes (v := ?_) rfl (wanted_none rfl) (fun w' hC => ?_) (fun K hK => ?_); rotate_left; (focus (go_simp; (try simp (disch := omega) only [IntWalk.i64_in]); first | done | exact rfl)); go_simp; (try simp (disch := omega) only [IntWalk.i64_in]); refine hK _ ?_; clear hK K)
                | (refine can_guard rfl (fun A B hA hB => ?_); go_simp; first | (refine hA ⟨?_, fun w' hC => ?_, fun K hK => ?_⟩; rotate_left; (focus (go_simp; (try simp (disch := omega) only [IntWalk.i64_in]); first | done | exact rfl)); go_simp; (try simp (disch := omega) only [IntWalk.i64_in]); refine hK _ ?_; clear hK K hA hB A B) | (refine hB (fun K hK => ?_); go_simp; (try simp (disch := omega) only [IntWalk.i64_in]); refine hK _ ?_; clear hK K hA hB A B))
                | (refine can_guard_go rfl (fun A B hA hB => ?_); go_simp; refine hB (fun K hK => ?_); go_simp; (try simp (disch := omega) only [IntWalk.i64_in]); refine hK _ ?_; clear hK K hA hB A B))
              refine can_nil ?_
              go_wp2_with fail
              go_roundw
              case rel => exact ⟨1, by omega, by go_num, Hb4.out, fun j hj hjk => by
                obtain rfl : j = 0 := by omega
                rw [Hx.out]; exact Hgok.out, fun j hj hjk => by omega⟩
              case measure => simp [intOf]; omega
            · obtain ⟨q, rfl⟩ : ∃ q, k = q + 1 := ⟨k - 1, by omega⟩
              have hql : q < m.gone.length := by omega
              obtain ⟨f0, f1, f2⟩ := HC.out q hql
              obtain ⟨y, hy⟩ : ∃ y, m.gone[q] = y := ⟨_, rfl⟩
              rw [hy] at f0 f1 f2
              have Hy := Lib.hid hy
              have hcell : ∀ {a : Addr} {u : Value}, wq.cell? a = some u → a.block < w.heap.size → ∀ w', Later w4 w' → w'.cell? a = some u := fun h hlt w' hh => cell_same Hbq.out (HL4.out w' hh) (by omega) h
              have qy0 : ∀ w', Later w4 w' → w'.cell? _ = _ := hcell f0 Hbl.out
              have qy1 : ∀ w', Later w4 w' → w'.cell? _ = _ := hcell f1 Hbl.out
              have hs1 : IntKind.i64.wrap (((q + 1 : Nat) : Int) - 1) = (q : Int) := by rw [IntWalk.i64_in _ (by omega)]; omega
              have hs0 : IntKind.i64.wrap (q : Int) = (q : Int) := IntWalk.i64_in _ (by omega)
              have hqI : (q : Int) < (n3 : Int) := by omega
              have hpos : ((q + 1 : Nat) : Int) > 0 := by omega
              have HBF := Lib.hid (fun W => before_any W y.key x.key y.dev x.dev)
              clear f0 f1 f2 hy hcell
              repeat (first
                | (refine can_yes (v := ?_) rfl (wanted_none rfl) (fun w' hC => ?_) (fun K hK => ?_); rotate_left; (focus (go_simp; (try simp (disch := omega) only [IntWalk.i64_in]); first | done | exact rfl)); go_simp; (try simp (disch := omega) only [IntWalk.i64_in]); refine hK _ ?_; clear hK K)
                | (refine can_guard rfl (fun A B hA hB => ?_); go_simp; first | (refine hA ⟨?_, fun w' hC => ?_, fun K hK => ?_⟩; rotate_left; (focus (go_simp; (try simp (disch := omega) only [IntWalk.i64_in]); first | done | exact rfl)); go_simp; (try simp (disch := omega) only [IntWalk.i64_in]); refine hK _ ?_; clear hK K hA hB A B) | (refine hB (fun K hK => ?_); go_simp; (try simp (disch := omega) only [IntWalk.i64_in]); refine hK _ ?_; clear hK K hA hB A B))
                | (refine can_guard_go rfl (fun A B hA hB => ?_); go_simp; refine hB (fun K hK => ?_); go_simp; (try simp (disch := omega) only [IntWalk.i64_in]); refine hK _ ?_; clear hK K hA hB A B))
              refine can_go rfl rfl (fun KK hK => ?_)
              go_simp
              refine (HBF.out _).mono ?_
              rintro e w5 ⟨rfl, rfl⟩
              refine ⟨_, rfl, later_refl _, hK _ _ ?_⟩
              clear hK KK qx0 qx1 qm2 qy0 qy1 HBF
              go_simp
              by_cases hlt : plt y.pl x.pl
              · have hd : decide (plt (y.key, y.dev) (x.key, x.dev)) = true := decide_eq_true hlt
                rw [hd]
                have Hlt := Lib.hid hlt
                clear hd hlt
                repeat (first
                  | (refine can_yes (v := ?_) rfl (wanted_none rfl) (fun w' hC => ?_) (fun K hK => ?_); rotate_left; (focus (go_simp; (try simp (disch := omega) only [IntWalk.i64_in]); first | done | exact rfl)); go_simp; (try simp (disch := omega) only [IntWalk.i64_in]); refine hK _ ?_; clear hK K)
                  | (refine can_guard rfl (fun A B hA hB => ?_); go_simp; first | (refine hA ⟨?_, fun w' hC => ?_, fun K hK => ?_⟩; rotate_left; (focus (go_simp; (try simp (disch := omega) only [IntWalk.i64_in]); first | done | exact rfl)); go_simp; (try simp (disch := omega) only [IntWalk.i64_in]); refine hK _ ?_; clear hK K hA hB A B) | (refine hB (fun K hK => ?_); go_simp; (try simp (disch := omega) only [IntWalk.i64_in]); refine hK _ ?_; clear hK K hA hB A B))
                  | (refine can_guard_go rfl (fun A B hA hB => ?_); go_simp; refine hB (fun K hK => ?_); go_simp; (try simp (disch := omega) only [IntWalk.i64_in]); refine hK _ ?_; clear hK K hA hB A B))
                refine can_nil ?_
                go_wp2_with fail
                go_roundw
                case rel => exact ⟨q + 1 + 1, by omega, by go_num, Hb4.out, fun j hj hjk => by
                  rcases Nat.lt_succ_iff_lt_or_eq.1 hjk with h | h
                  · exact Hall.out j hj h
                  · subst h; rw [Hx.out]; exact Hgok.out, fun j hj hjk => by
                  rcases Nat.lt_succ_iff_lt_or_eq.1 hjk with h | h
                  · exact Hst.out j hj h
                  · obtain rfl : j = q := by omega
                    rw [Hx.out, Hy.out]; exact Hlt.out⟩
                case measure => simp [intOf]; omega
              · have hd : decide (plt (y.key, y.dev) (x.key, x.dev)) = false := decide_eq_false hlt
                rw [hd]
                obtain rfl : ok = false := by
                  rw [← Hok.out]
                  refine formed_no fun hv => ?_
                  have hf := (formed_iff m).1 hv
                  have h1 := step_of_asc RGo.pl hf.gone q hkl; rw [Hx.out, Hy.out] at h1; exact hlt h1
                clear hd hlt
                repeat (first
                  | (refine can_yes (v := ?_) rfl (wanted_none rfl) (fun w' hC => ?_) (fun K hK => ?_); rotate_left; (focus (go_simp; (try simp (disch := omega) only [IntWalk.i64_in]); first | done | exact rfl)); go_simp; (try simp (disch := omega) only [IntWalk.i64_in]); refine hK _ ?_; clear hK K)
                  | (refine can_guard rfl (fun A B hA hB => ?_); go_simp; first | (refine hA ⟨?_, fun w' hC => ?_, fun K hK => ?_⟩; rotate_left; (focus (go_simp; (try simp (disch := omega) only [IntWalk.i64_in]); first | done | exact rfl)); go_simp; (try simp (disch := omega) only [IntWalk.i64_in]); refine hK _ ?_; clear hK K hA hB A B) | (refine hB (fun K hK => ?_); go_simp; (try simp (disch := omega) only [IntWalk.i64_in]); refine hK _ ?_; clear hK K hA hB A B))
                  | (refine can_guard_go rfl (fun A B hA hB => ?_); go_simp; refine hB (fun K hK => ?_); go_simp; (try simp (disch := omega) only [IntWalk.i64_in]); refine hK _ ?_; clear hK K hA hB A B))
                refine can_nil ?_
                go_wp2_with fail
                go_ret
                exact ⟨rfl, HE.out _ Hb4.out⟩
        · have hkI : ¬ (k : Int) < (n3 : Int) := by omega
          have Hgone := Lib.hid (show (∀ g ∈ m.gone, goneOk m g = true) ∧ Asc RGo.pl m.gone by
            refine ⟨fun x hx => ?_, asc_of_step _ _ fun j hj => Hst.out j hj (by rw [Hn3.out] at hj; omega)⟩
            obtain ⟨j, hj, rfl⟩ := List.mem_iff_getElem.1 hx
            exact Hall.out j hj (by rw [Hn3.out] at hj; omega))
          clear hmp Hall hkn hk Hst
          go_wp2_with fail
          clear d0 d1 d2 hkI
          go_loopw [6] (fun i wu => ∃ k : Nat, k ≤ n2 ∧ i = .int .i64 (k : Int) ∧ Below (w.heap.size + 1) wr wu ∧ (∀ j (hj : j < m.items.length), j < k → itemOk m m.items[j] = true) ∧ ∀ j (hj : j + 1 < m.items.length), j + 1 < k → plt m.items[j].pl m.items[j + 1].pl) (fun i _ => n2 - (intOf i).toNat)
          case atStart => exact ⟨0, by omega, rfl, Hbq.out, fun j _ hj => by omega, fun j _ hj => by omega⟩
          case round =>
            rename World => wu
            obtain ⟨k, hk, rfl, hbu, hall, hst⟩ := hrel
            have Hall := Lib.hid hall; have Hbu := Lib.hid hbu; have Hst := Lib.hid hst
            clear hall hbu Hbq hst
            obtain ⟨⟨d0, d1, d2⟩, hmp⟩ := HM.out _ Hbu.out
            by_cases hkn : k < n2
            · have hkI : (k : Int) < (n2 : Int) := by omega
              have hkl : k < m.items.length := by rw [Hn2.out]; exact hkn
              obtain ⟨b, off, rfl, hblt, -, hc⟩ := it_cell hmp.items (by omega)
              obtain ⟨e0, e1, e2, e3⟩ := hc k hkl
              obtain ⟨x, hx⟩ : ∃ x, m.items[k] = x := ⟨_, rfl⟩
              rw [hx] at e0 e1 e2 e3
              have Hx := Lib.hid hx
              obtain ⟨wb, hwb⟩ : ∃ wb, wb = wu.alloc (.cells #[.string ⟨x.key.toArray⟩, .int .i64 x.dev, .int .i64 x.seq, .int .i64 x.val] 44) := ⟨_, rfl⟩
              have hbb : Below (w.heap.size + 1) wr wb := by rw [hwb]; exact Hbu.out.alloc (by have := Hbu.out.size; have := Hzs.out; omega) _
              have hXB : Blk wb wu.heap.size [.string ⟨x.key.toArray⟩, .int .i64 x.dev, .int .i64 x.seq, .int .i64 x.val] 44 := by rw [hwb]; exact Blk.new _ _ _
              have hxm : x ∈ m.items := by rw [← hx]; exact List.getElem_mem hkl
              have HXL := Lib.hid (show ∀ w', Later wb w' → Blk w' wu.heap.size [.string ⟨x.key.toArray⟩, .int .i64 x.dev, .int .i64 x.seq, .int .i64 x.val] 44 from fun w' hh => hXB.keep (hh.block _ hXB.lt))
              have x0 := hXB.cell 0
              have x1 := hXB.cell 1
              have x2 := hXB.cell 2
              have x3 := hXB.cell 3
              simp at x0 x1 x2 x3
              obtain ⟨⟨m0, m1, m2⟩, -⟩ := HM.out _ hbb
              have px0 : ∀ w', Later wb.drew w' → w'.cell? _ = _ := fun w' hh => laterC x0 hh
              have px1 : ∀ w', Later wb.drew w' → w'.cell? _ = _ := fun w' hh => laterC x1 hh
              have px2 : ∀ w', Later wb.drew w' → w'.cell? _ = _ := fun w' hh => laterC x2 hh
              have px3 : ∀ w', Later wb.drew w' → w'.cell? _ = _ := fun w' hh => laterC x3 hh
              have pm0 : ∀ w', Later wb.drew w' → w'.cell? _ = _ := fun w' hh => laterC m0 hh
              have pm1 : ∀ w', Later wb.drew w' → w'.cell? _ = _ := fun w' hh => laterC m1 hh
              have pm2 : ∀ w', Later wb.drew w' → w'.cell? _ = _ := fun w' hh => laterC m2 hh
              have HPL := Lib.hid (placed_any wb.drew _ (.agg #[.slice a1 8 p1, .slice (some ⟨b, off, none⟩) n2 p2, .slice a3 n3 p3]) m ⟨_, _, _, rfl, ((HM.out _ hbb).2.keep (w' := wb.drew) fun _ _ _ => rfl)⟩ x.key x.dev x.seq (Hki.out x hxm) (HIB.out x hxm).2.1 (HIB.out x hxm).2.2.1)
              have HC := Lib.hid hc
              have Hwb := Lib.hid hwb; have Hbb := Lib.hid hbb
              have Hzb := Lib.hid (show wu.heap.size < wb.heap.size from hXB.lt)
              have Hbl := Lib.hid hblt
              clear hc hx hwb hbb hXB x0 x1 x2 x3 m0 m1 m2 d0 d2 hmp hxm hblt
              go_wp2_with fail
              rw [← Hwb.out]
              refine wp_region_can Later [(0, true), (1, true), (2, true), (3, true), (4, true), (5, true), (6, true), (7, false), (8, true), (9, true), (10, true), (11, true), (12, true), (13, true), (14, true), (15, true), (16, true), (17, true), (18, true), (19, true), (20, true), (21, true), (22, true), (23, true), (24, true), (25, true), (26, true), (27, false), (28, true), (29, true)] (by kernel_rfl) (by kernel_rfl) later_refl later_trans ?_
              repeat (first
                | (refine can_yes (v := ?_) rfl (wanted_none rfl) (fun w' hC => ?_) (fun K hK => ?_); rotate_left; (focus (go_simp; first | done | exact rfl)); go_simp; refine hK _ ?_; clear hK K)
                | (refine can_guard rfl (fun A B hA hB => ?_); go_simp; first | (refine hA ⟨?_, fun w' hC => ?_, fun K hK => ?_⟩; rotate_left; (focus (go_simp; first | done | exact rfl)); go_simp; refine hK _ ?_; clear hK K hA hB A B) | (refine hB (fun K hK => ?_); go_simp; refine hK _ ?_; clear hK K hA hB A B))
                | (refine can_guard_go rfl (fun A B hA hB => ?_); go_simp; refine hB (fun K hK => ?_); go_simp; refine hK _ ?_; clear hK K hA hB A B))
              refine can_go rfl rfl (fun KK hK => ?_)
              go_simp
              refine HPL.out.mono ?_
              rintro e w4 ⟨rfl, hb4⟩
              refine ⟨_, rfl, hb4, hK _ _ ?_⟩
              clear hK KK HPL
              go_simp
              have hb4' : Below (w.heap.size + 1) wr w4 := Hbb.out.drew.trans (hb4.mono (by have := Hbb.out.size; have := Hzs.out; show _ ≤ wb.heap.size; omega))
              have Hb4 := Lib.hid hb4'
              have hl4 : Later wb.drew w4 := hb4
              have qx0 : ∀ w', Later w4 w' → w'.cell? _ = _ := fun w' hh => px0 w' (later_trans _ _ _ hl4 hh)
              have qx1 : ∀ w', Later w4 w' → w'.cell? _ = _ := fun w' hh => px1 w' (later_trans _ _ _ hl4 hh)
              have qx2 : ∀ w', Later w4 w' → w'.cell? _ = _ := fun w' hh => px2 w' (later_trans _ _ _ hl4 hh)
              have qx3 : ∀ w', Later w4 w' → w'.cell? _ = _ := fun w' hh => px3 w' (later_trans _ _ _ hl4 hh)
              have qm0 : ∀ w', Later w4 w' → w'.cell? _ = _ := fun w' hh => pm0 w' (later_trans _ _ _ hl4 hh)
              have qm1 : ∀ w', Later w4 w' → w'.cell? _ = _ := fun w' hh => pm1 w' (later_trans _ _ _ hl4 hh)
              have qm2 : ∀ w', Later w4 w' → w'.cell? _ = _ := fun w' hh => pm2 w' (later_trans _ _ _ hl4 hh)
              have hHL4 : ∀ w', Later w4 w' → Below (w.heap.size + 1) wr w' := fun w' hh => hb4'.trans (RowKit.Below.mono hh (by have := hb4'.size; have := Hzs.out; omega))
              have HL4 := Lib.hid hHL4
              have HX4 := Lib.hid (show ∀ w', Later w4 w' → Blk w' wu.heap.size [.string ⟨x.key.toArray⟩, .int .i64 x.dev, .int .i64 x.seq, .int .i64 x.val] 44 from fun w' hh => HXL.out w' (later_trans _ _ _ ((Below.refl _ _).drew) (later_trans _ _ _ hl4 hh)))
              clear hb4 hb4' hl4 px0 px1 px2 px3 pm0 pm1 pm2 hHL4 HXL
              obtain ⟨kn, hkn'⟩ : ∃ kn, knownR m (x.key, x.dev) x.seq = kn := ⟨_, rfl⟩
              rw [hkn']
              have Hkn := Lib.hid (show knownR m x.pl x.seq = kn from hkn')
              clear hkn'
              cases kn with
              | false =>
                clear qx0 qx1 qx2 qx3 qm0 qm1 qm2
                repeat (first
                  | (refine can_yes (v := ?_) rfl (wanted_none rfl) (fun w' hC => ?_) (fun K hK => ?_); rotate_left; (focus (go_simp; (try simp (disch := omega) only [IntWalk.i64_in]); first | done | exact rfl)); go_simp; (try simp (disch := omega) only [IntWalk.i64_in]); refine hK _ ?_; clear hK K)
                  | (refine can_guard rfl (fun A B hA hB => ?_); go_simp; first | (refine hA ⟨?_, fun w' hC => ?_, fun K hK => ?_⟩; rotate_left; (focus (go_simp; (try simp (disch := omega) only [IntWalk.i64_in]); first | done | exact rfl)); go_simp; (try simp (disch := omega) only [IntWalk.i64_in]); refine hK _ ?_; clear hK K hA hB A B) | (refine hB (fun K hK => ?_); go_simp; (try simp (disch := omega) only [IntWalk.i64_in]); refine hK _ ?_; clear hK K hA hB A B))
                  | (refine can_guard_go rfl (fun A B hA hB => ?_); go_simp; refine hB (fun K hK => ?_); go_simp; (try simp (disch := omega) only [IntWalk.i64_in]); refine hK _ ?_; clear hK K hA hB A B))
                obtain rfl : ok = false := by
                  rw [← Hok.out]
                  refine formed_no fun hv => ?_
                  have hf := (formed_iff m).1 hv
                  have h1 := hf.iknown x (by rw [← Hx.out]; exact List.getElem_mem hkl); rw [Hkn.out] at h1; cases h1
                refine can_nil ?_
                go_wp2_with fail
                go_ret
                exact ⟨rfl, HE.out _ Hb4.out⟩
              | true =>
                by_cases v1 : x.val < 1
                · have v1d : decide (x.val < 1) = true := by simpa using v1
                  obtain rfl : ok = false := by
                    rw [← Hok.out]
                    refine formed_no fun hv => ?_
                    have hf := (formed_iff m).1 hv
                    have h1 := hf.val x (by rw [← Hx.out]; exact List.getElem_mem hkl); omega
                  repeat (first
                    | (refine can_yes (v := ?_) rfl (wanted_none rfl) (fun w' hC => ?_) (fun K hK => ?_); rotate_left; (focus (go_simp; (try simp (disch := omega) only [IntWalk.i64_in]); first | done | exact rfl)); go_simp; (try simp (disch := omega) only [IntWalk.i64_in]); refine hK _ ?_; clear hK K)
                    | (refine can_guard rfl (fun A B hA hB => ?_); go_simp; first | (refine hA ⟨?_, fun w' hC => ?_, fun K hK => ?_⟩; rotate_left; (focus (go_simp; (try simp (disch := omega) only [IntWalk.i64_in]); first | done | exact rfl)); go_simp; (try simp (disch := omega) only [IntWalk.i64_in]); refine hK _ ?_; clear hK K hA hB A B) | (refine hB (fun K hK => ?_); go_simp; (try simp (disch := omega) only [IntWalk.i64_in]); refine hK _ ?_; clear hK K hA hB A B))
                    | (refine can_guard_go rfl (fun A B hA hB => ?_); go_simp; refine hB (fun K hK => ?_); go_simp; (try simp (disch := omega) only [IntWalk.i64_in]); refine hK _ ?_; clear hK K hA hB A B))
                  refine can_nil ?_
                  go_wp2_with fail
                  go_ret
                  exact ⟨rfl, HE.out _ Hb4.out⟩
                · by_cases v2 : x.val > 16777216
                  · have v1d : decide (x.val < 1) = false := by simpa using v1
                    have v2d : decide (x.val > 16777216) = true := by simpa using v2
                    obtain rfl : ok = false := by
                      rw [← Hok.out]
                      refine formed_no fun hv => ?_
                      have hf := (formed_iff m).1 hv
                      have h1 := hf.val x (by rw [← Hx.out]; exact List.getElem_mem hkl); omega
                    repeat (first
                      | (refine can_yes (v := ?_) rfl (wanted_none rfl) (fun w' hC => ?_) (fun K hK => ?_); rotate_left; (focus (go_simp; (try simp (disch := omega) only [IntWalk.i64_in]); first | done | exact rfl)); go_simp; (try simp (disch := omega) only [IntWalk.i64_in]); refine hK _ ?_; clear hK K)
                      | (refine can_guard rfl (fun A B hA hB => ?_); go_simp; first | (refine hA ⟨?_, fun w' hC => ?_, fun K hK => ?_⟩; rotate_left; (focus (go_simp; (try simp (disch := omega) only [IntWalk.i64_in]); first | done | exact rfl)); go_simp; (try simp (disch := omega) only [IntWalk.i64_in]); refine hK _ ?_; clear hK K hA hB A B) | (refine hB (fun K hK => ?_); go_simp; (try simp (disch := omega) only [IntWalk.i64_in]); refine hK _ ?_; clear hK K hA hB A B))
                      | (refine can_guard_go rfl (fun A B hA hB => ?_); go_simp; refine hB (fun K hK => ?_); go_simp; (try simp (disch := omega) only [IntWalk.i64_in]); refine hK _ ?_; clear hK K hA hB A B))
                    refine can_nil ?_
                    go_wp2_with fail
                    go_ret
                    exact ⟨rfl, HE.out _ Hb4.out⟩
                  · have v1d : decide (x.val < 1) = false := by simpa using v1
                    have v2d : decide (x.val > 16777216) = false := by simpa using v2
                    have Hv := Lib.hid (show 1 ≤ x.val ∧ x.val ≤ 16777216 by omega)
                    have HGN := Lib.hid (gone_any w4 _ (.agg #[.slice a1 8 p1, .slice (some ⟨b, off, none⟩) n2 p2, .slice a3 n3 p3]) m ⟨_, _, _, rfl, (HM.out _ Hb4.out).2⟩ x.key x.dev)
                    repeat (first
                      | (refine can_yes (v := ?_) rfl (wanted_none rfl) (fun w' hC => ?_) (fun K hK => ?_); rotate_left; (focus (go_simp; (try simp (disch := omega) only [IntWalk.i64_in]); first | done | exact rfl)); go_simp; (try simp (disch := omega) only [IntWalk.i64_in]); refine hK _ ?_; clear hK K)
                      | (refine can_guard rfl (fun A B hA hB => ?_); go_simp; first | (refine hA ⟨?_, fun w' hC => ?_, fun K hK => ?_⟩; rotate_left; (focus (go_simp; (try simp (disch := omega) only [IntWalk.i64_in]); first | done | exact rfl)); go_simp; (try simp (disch := omega) only [IntWalk.i64_in]); refine hK _ ?_; clear hK K hA hB A B) | (refine hB (fun K hK => ?_); go_simp; (try simp (disch := omega) only [IntWalk.i64_in]); refine hK _ ?_; clear hK K hA hB A B))
                      | (refine can_guard_go rfl (fun A B hA hB => ?_); go_simp; refine hB (fun K hK => ?_); go_simp; (try simp (disch := omega) only [IntWalk.i64_in]); refine hK _ ?_; clear hK K hA hB A B))
                    refine can_go rfl rfl (fun KK hK => ?_)
                    go_simp
                    refine HGN.out.mono ?_
                    rintro e w7 ⟨rfl, hb7⟩
                    refine ⟨_, rfl, hb7, hK _ _ ?_⟩
                    clear hK KK HGN qx0 qx1 qx2 qx3 qm0 qm1 qm2 v1 v2 v1d v2d
                    go_simp
                    have hl7 : Later w4 w7 := hb7
                    have Hb7 := Lib.hid (HL4.out _ hl7)
                    have HX7 := Lib.hid (HX4.out _ hl7)
                    clear hb7 hl7
                    obtain ⟨bu, hbu'⟩ : ∃ bu, m.buried (x.key, x.dev) = bu := ⟨_, rfl⟩
                    rw [hbu']
                    have Hbu' := Lib.hid (show m.buried x.pl = bu from hbu')
                    clear hbu'
                    by_cases v3 : x.seq ≤ bu
                    · have v3d : decide (x.seq ≤ bu) = true := by simpa using v3
                      obtain rfl : ok = false := by
                        rw [← Hok.out]
                        refine formed_no fun hv => ?_
                        have hf := (formed_iff m).1 hv
                        have h1 := hf.above x (by rw [← Hx.out]; exact List.getElem_mem hkl); rw [Hbu'.out] at h1; omega
                      repeat (first
                        | (refine can_yes (v := ?_) rfl (wanted_none rfl) (fun w' hC => ?_) (fun K hK => ?_); rotate_left; (focus (go_simp; first | done | exact rfl)); go_simp; refine hK _ ?_; clear hK K)
                        | (refine can_guard rfl (fun A B hA hB => ?_); go_simp; first | (refine hA ⟨?_, fun w' hC => ?_, fun K hK => ?_⟩; rotate_left; (focus (go_simp; first | done | exact rfl)); go_simp; refine hK _ ?_; clear hK K hA hB A B) | (refine hB (fun K hK => ?_); go_simp; refine hK _ ?_; clear hK K hA hB A B))
                        | (refine can_guard_go rfl (fun A B hA hB => ?_); go_simp; refine hB (fun K hK => ?_); go_simp; refine hK _ ?_; clear hK K hA hB A B))
                      refine can_nil ?_
                      go_wp2_with fail
                      go_ret
                      exact ⟨rfl, HE.out _ Hb7.out⟩
                    · have v3d : decide (x.seq ≤ bu) = false := by simpa using v3
                      have Hiok := Lib.hid (show itemOk m x = true by
                        unfold itemOk
                        rw [Hkn.out, Hbu'.out]
                        have := Hv.out
                        simp
                        omega)
                      clear v3
                      repeat (first
                        | (refine can_yes (v := ?_) rfl (wanted_none rfl) (fun w' hC => ?_) (fun K hK => ?_); rotate_left; (focus (go_simp; first | done | exact rfl)); go_simp; refine hK _ ?_; clear hK K)
                        | (refine can_guard rfl (fun A B hA hB => ?_); go_simp; first | (refine hA ⟨?_, fun w' hC => ?_, fun K hK => ?_⟩; rotate_left; (focus (go_simp; first | done | exact rfl)); go_simp; refine hK _ ?_; clear hK K hA hB A B) | (refine hB (fun K hK => ?_); go_simp; refine hK _ ?_; clear hK K hA hB A B))
                        | (refine can_guard_go rfl (fun A B hA hB => ?_); go_simp; refine hB (fun K hK => ?_); go_simp; refine hK _ ?_; clear hK K hA hB A B))
                      refine can_nil ?_
                      obtain ⟨⟨d0, d1, d2⟩, hmp⟩ := HM.out _ Hb7.out
                      have x0 := HX7.out.cell 0
                      have x1 := HX7.out.cell 1
                      simp at x0 x1
                      rcases Nat.eq_zero_or_pos k with rfl | hk0
                      · clear d0 d1 d2 hmp x0 x1
                        go_wp2_with fail
                        refine wp_region_can Later [(0, true), (1, true), (2, true), (3, true), (4, true), (5, true), (6, true), (7, true), (8, true), (9, true), (10, true), (11, true), (12, true), (13, true), (14, true), (15, true), (16, true), (17, true), (18, true), (19, true), (20, true), (21, false), (22, true), (23, true)] (by kernel_rfl) (by kernel_rfl) later_refl later_trans ?_
                        repeat (first
                          | (refine can_yes (v := ?_) rfl (wanted_none rfl) (fun w' hC => ?_) (fun K hK => ?_); rotate_left; (focus (go_simp; (try simp (disch := omega) only [IntWalk.i64_in]); first | done | exact rfl)); go_simp; (try simp (disch := omega) only [IntWalk.i64_in]); refine hK _ ?_; clear hK K)
                          | (refine can_guard rfl (fun A B hA hB => ?_); go_simp; first | (refine hA ⟨?_, fun w' hC => ?_, fun K hK => ?_⟩; rotate_left; (focus (go_simp; (try simp (disch := omega) only [IntWalk.i64_in]); first | done | exact rfl)); go_simp; (try simp (disch := omega) only [IntWalk.i64_in]); refine hK _ ?_; clear hK K hA hB A B) | (refine hB (fun K hK => ?_); go_simp; (try simp (disch := omega) only [IntWalk.i64_in]); refine hK _ ?_; clear hK K hA hB A B))
                          | (refine can_guard_go rfl (fun A B hA hB => ?_); go_simp; refine hB (fun K hK => ?_); go_simp; (try simp (disch := omega) only [IntWalk.i64_in]); refine hK _ ?_; clear hK K hA hB A B))
                        refine can_nil ?_
                        go_wp2_with fail
                        go_roundw
                        case rel => exact ⟨1, by omega, by go_num, Hb7.out.drew, fun j hj hjk => by
                          obtain rfl : j = 0 := by omega
                          rw [Hx.out]; exact Hiok.out, fun j hj hjk => by omega⟩
                        case measure => simp [intOf]; omega
                      · obtain ⟨q, rfl⟩ : ∃ q, k = q + 1 := ⟨k - 1, by omega⟩
                        have hql : q < m.items.length := by omega
                        obtain ⟨f0, f1, f2, f3⟩ := HC.out q hql
                        obtain ⟨y, hy⟩ : ∃ y, m.items[q] = y := ⟨_, rfl⟩
                        rw [hy] at f0 f1 f2 f3
                        have Hy := Lib.hid hy
                        have g0 := cell_same Hbu.out Hb7.out (a := ⟨b, off + q * 4, none⟩) (by show b < _; have := Hbl.out; omega) f0
                        have g1 := cell_same Hbu.out Hb7.out (a := ⟨b, off + q * 4 + 1, none⟩) (by show b < _; have := Hbl.out; omega) f1
                        have px0 : ∀ w', Later w7.drew w' → w'.cell? _ = _ := fun w' hh => laterC x0 hh
                        have px1 : ∀ w', Later w7.drew w' → w'.cell? _ = _ := fun w' hh => laterC x1 hh
                        have pm1 : ∀ w', Later w7.drew w' → w'.cell? _ = _ := fun w' hh => laterC d1 hh
                        have qy0 : ∀ w', Later w7.drew w' → w'.cell? _ = _ := fun w' hh => laterC g0 hh
                        have qy1 : ∀ w', Later w7.drew w' → w'.cell? _ = _ := fun w' hh => laterC g1 hh
                        have hs1 : IntKind.i64.wrap (((q + 1 : Nat) : Int) - 1) = (q : Int) := by rw [IntWalk.i64_in _ (by omega)]; omega
                        have hs0 : IntKind.i64.wrap (q : Int) = (q : Int) := IntWalk.i64_in _ (by omega)
                        have hqI : (q : Int) < (n2 : Int) := by omega
                        have hpos : ((q + 1 : Nat) : Int) > 0 := by omega
                        have HBF := Lib.hid (fun W => before_any W y.key x.key y.dev x.dev)
                        clear f0 f1 f2 f3 hy g0 g1 d0 d1 d2 x0 x1 hmp e0 e1 e2 e3
                        go_wp2_with fail
                        refine wp_region_can Later [(0, true), (1, true), (2, true), (3, true), (4, true), (5, true), (6, true), (7, true), (8, true), (9, true), (10, true), (11, true), (12, true), (13, true), (14, true), (15, true), (16, true), (17, true), (18, true), (19, true), (20, true), (21, false), (22, true), (23, true)] (by kernel_rfl) (by kernel_rfl) later_refl later_trans ?_
                        repeat (first
                          | (refine can_yes (v := ?_) rfl (wanted_none rfl) (fun w' hC => ?_) (fun K hK => ?_); rotate_left; (focus (go_simp; (try simp (disch := omega) only [IntWalk.i64_in]); first | done | exact rfl)); go_simp; (try simp (disch := omega) only [IntWalk.i64_in]); refine hK _ ?_; clear hK K)
                          | (refine can_guard rfl (fun A B hA hB => ?_); go_simp; first | (refine hA ⟨?_, fun w' hC => ?_, fun K hK => ?_⟩; rotate_left; (focus (go_simp; (try simp (disch := omega) only [IntWalk.i64_in]); first | done | exact rfl)); go_simp; (try simp (disch := omega) only [IntWalk.i64_in]); refine hK _ ?_; clear hK K hA hB A B) | (refine hB (fun K hK => ?_); go_simp; (try simp (disch := omega) only [IntWalk.i64_in]); refine hK _ ?_; clear hK K hA hB A B))
                          | (refine can_guard_go rfl (fun A B hA hB => ?_); go_simp; refine hB (fun K hK => ?_); go_simp; (try simp (disch := omega) only [IntWalk.i64_in]); refine hK _ ?_; clear hK K hA hB A B))
                        refine can_go rfl rfl (fun KK hK => ?_)
                        go_simp
                        refine (HBF.out _).mono ?_
                        rintro e w8 ⟨rfl, rfl⟩
                        refine ⟨_, rfl, later_refl _, hK _ _ ?_⟩
                        clear hK KK px0 px1 pm1 qy0 qy1 HBF
                        go_simp
                        by_cases hlt : plt y.pl x.pl
                        · have hd : decide (plt (y.key, y.dev) (x.key, x.dev)) = true := decide_eq_true hlt
                          rw [hd]
                          have Hlt := Lib.hid hlt
                          clear hd hlt
                          repeat (first
                            | (refine can_yes (v := ?_) rfl (wanted_none rfl) (fun w' hC => ?_) (fun K hK => ?_); rotate_left; (focus (go_simp; (try simp (disch := omega) only [IntWalk.i64_in]); first | done | exact rfl)); go_simp; (try simp (disch := omega) only [IntWalk.i64_in]); refine hK _ ?_; clear hK K)
                            | (refine can_guard rfl (fun A B hA hB => ?_); go_simp; first | (refine hA ⟨?_, fun w' hC => ?_, fun K hK => ?_⟩; rotate_left; (focus (go_simp; (try simp (disch := omega) only [IntWalk.i64_in]); first | done | exact rfl)); go_simp; (try simp (disch := omega) only [IntWalk.i64_in]); refine hK _ ?_; clear hK K hA hB A B) | (refine hB (fun K hK => ?_); go_simp; (try simp (disch := omega) only [IntWalk.i64_in]); refine hK _ ?_; clear hK K hA hB A B))
                            | (refine can_guard_go rfl (fun A B hA hB => ?_); go_simp; refine hB (fun K hK => ?_); go_simp; (try simp (disch := omega) only [IntWalk.i64_in]); refine hK _ ?_; clear hK K hA hB A B))
                          refine can_nil ?_
                          go_wp2_with fail
                          go_roundw
                          case rel => exact ⟨q + 1 + 1, by omega, by go_num, Hb7.out.drew, fun j hj hjk => by
                            rcases Nat.lt_succ_iff_lt_or_eq.1 hjk with h | h
                            · exact Hall.out j hj h
                            · subst h; rw [Hx.out]; exact Hiok.out, fun j hj hjk => by
                            rcases Nat.lt_succ_iff_lt_or_eq.1 hjk with h | h
                            · exact Hst.out j hj h
                            · obtain rfl : j = q := by omega
                              rw [Hx.out, Hy.out]; exact Hlt.out⟩
                          case measure => simp [intOf]; omega
                        · have hd : decide (plt (y.key, y.dev) (x.key, x.dev)) = false := decide_eq_false hlt
                          rw [hd]
                          obtain rfl : ok = false := by
                            rw [← Hok.out]
                            refine formed_no fun hv => ?_
                            have hf := (formed_iff m).1 hv
                            have h1 := step_of_asc RIt.pl hf.items q hkl; rw [Hx.out, Hy.out] at h1; exact hlt h1
                          clear hd hlt
                          repeat (first
                            | (refine can_yes (v := ?_) rfl (wanted_none rfl) (fun w' hC => ?_) (fun K hK => ?_); rotate_left; (focus (go_simp; (try simp (disch := omega) only [IntWalk.i64_in]); first | done | exact rfl)); go_simp; (try simp (disch := omega) only [IntWalk.i64_in]); refine hK _ ?_; clear hK K)
                            | (refine can_guard rfl (fun A B hA hB => ?_); go_simp; first | (refine hA ⟨?_, fun w' hC => ?_, fun K hK => ?_⟩; rotate_left; (focus (go_simp; (try simp (disch := omega) only [IntWalk.i64_in]); first | done | exact rfl)); go_simp; (try simp (disch := omega) only [IntWalk.i64_in]); refine hK _ ?_; clear hK K hA hB A B) | (refine hB (fun K hK => ?_); go_simp; (try simp (disch := omega) only [IntWalk.i64_in]); refine hK _ ?_; clear hK K hA hB A B))
                            | (refine can_guard_go rfl (fun A B hA hB => ?_); go_simp; refine hB (fun K hK => ?_); go_simp; (try simp (disch := omega) only [IntWalk.i64_in]); refine hK _ ?_; clear hK K hA hB A B))
                          refine can_nil ?_
                          go_wp2_with fail
                          go_ret
                          exact ⟨rfl, (HE.out _ Hb7.out).drew⟩
            · have hkI : ¬ (k : Int) < (n2 : Int) := by omega
              obtain rfl : ok = true := by
                rw [← Hok.out]
                unfold formedR
                simp only [Bool.and_eq_true, decide_eq_true_eq]
                refine ⟨⟨⟨⟨⟨Hn1.out, Hseen.out⟩, asc_of_step _ _ fun j hj => Hst.out j hj (by rw [Hn2.out] at hj; omega)⟩, Hgone.out.2⟩, ?_⟩, ?_⟩
                · rw [List.all_eq_true]; exact Hgone.out.1
                · rw [List.all_eq_true]
                  intro x hx
                  obtain ⟨j, hj, rfl⟩ := List.mem_iff_getElem.1 hx
                  exact Hall.out j hj (by rw [Hn2.out] at hj; omega)
              clear hmp
              go_wp2_with fail
              go_ret
              exact ⟨rfl, HE.out _ Hbu.out⟩

set_option maxRecDepth 100000 in
set_option maxHeartbeats 2000000 in
theorem rvalid2_any (w : World) (F : Blks) (v : Value) (m : RMap) (h : MapV F w v m) (hki : ∀ x ∈ m.items, x.key.length ≤ 1000000000) (hkg : ∀ x ∈ m.gone, x.key.length ≤ 1000000000) :
    Calls Tryz.prog 17 #[v] w fun e w' => e = .returned (.bool (validR m)) ∧ Below w.heap.size w w' := by
  replace h := h.mono (G := fun b => b < w.heap.size) fun b _ hlt => hlt
  obtain ⟨ok, hok⟩ : ∃ ok, validR m = ok := ⟨_, rfl⟩
  rw [hok]
  have Hok := Lib.hid hok
  have Hki := Lib.hid hki; have Hkg := Lib.hid hkg
  obtain ⟨s1, s2, s3, rfl, h⟩ := h
  obtain ⟨a1, p1, rfl, -⟩ := h.seen.shape
  obtain ⟨a2, p2, rfl, -⟩ := h.items.shape
  obtain ⟨a3, p3, rfl, -⟩ := h.gone.shape
  have l1 := h.seen.len
  have l2 := h.items.len
  have l3 := h.gone.len
  unfold maxLen at l1 l2 l3
  obtain ⟨n1, hn1⟩ : ∃ n, m.seen.length = n := ⟨_, rfl⟩
  obtain ⟨n2, hn2⟩ : ∃ n, m.items.length = n := ⟨_, rfl⟩
  obtain ⟨n3, hn3⟩ : ∃ n, m.gone.length = n := ⟨_, rfl⟩
  rw [hn1, hn2, hn3] at h
  rw [hn1] at l1 ⊢
  rw [hn2] at l2 ⊢
  rw [hn3] at l3 ⊢
  obtain ⟨wx, hwx⟩ : ∃ wx, wx = w.alloc (.cells #[.slice a1 n1 p1, .slice a2 n2 p2, .slice a3 n3 p3] 26) := ⟨_, rfl⟩
  have hbx : Below w.heap.size w wx := by rw [hwx]; exact kept_alloc _ _
  have hzx : wx.heap.size = w.heap.size + 1 := by rw [hwx]; simp
  have hx := h.keep (w' := wx) fun b _ hlt => hbx.block b hlt
  have hnx : Blk wx w.heap.size [.slice a1 n1 p1, .slice a2 n2 p2, .slice a3 n3 p3] 26 := by rw [hwx]; exact Blk.new _ _ _
  have Hx := Lib.hid hx; have Hn1 := Lib.hid hn1; have Hn2 := Lib.hid hn2; have Hn3 := Lib.hid hn3
  have Hwx := Lib.hid hwx; have Hbx := Lib.hid hbx; have Hzx := Lib.hid hzx
  have c0 := hnx.cell 0
  have c1 := hnx.cell 1
  have c2 := hnx.cell 2
  simp at c0 c1 c2
  have Hnx := Lib.hid hnx
  clear hx hn1 hn2 hn3 hwx hbx hnx hzx
  have Hh := Lib.hid h
  clear h hok hki hkg c0
  by_cases hg2 : n2 ≤ 4096
  case neg =>
    have hI : (n2 : Int) > 4096 := by omega
    obtain rfl : ok = false := by
      rw [← Hok.out]
      cases hv : validR m with
      | false => rfl
      | true => exact absurd (by rw [← Hn2.out]; exact (valid_lens hv).2.1) hg2
    go_enter Tryz.func17, Tryz.ntmps17
    go_wp2_with fail
    rw [← Hwx.out]
    go_ret
    exact ⟨rfl, Hbx.out⟩
  have hI2 : ¬ (n2 : Int) > 4096 := by omega
  by_cases hg3 : n3 ≤ 4096
  case neg =>
    have hI : (n3 : Int) > 4096 := by omega
    obtain rfl : ok = false := by
      rw [← Hok.out]
      cases hv : validR m with
      | false => rfl
      | true => exact absurd (by rw [← Hn3.out]; exact (valid_lens hv).2.2.1) hg3
    go_enter Tryz.func17, Tryz.ntmps17
    go_wp2_with fail
    rw [← Hwx.out]
    go_ret
    exact ⟨rfl, Hbx.out⟩
  have hI3 : ¬ (n3 : Int) > 4096 := by omega
  have HF := Lib.hid (formed_any wx _ (.agg #[.slice a1 n1 p1, .slice a2 n2 p2, .slice a3 n3 p3]) m ⟨_, _, _, rfl, Hx.out⟩ (by rw [Hn2.out]; omega) (by rw [Hn3.out]; omega) Hki.out Hkg.out)
  obtain ⟨fm, hfm⟩ : ∃ fm, formedR m = fm := ⟨_, rfl⟩
  rw [hfm] at HF
  have Hfm := Lib.hid hfm
  clear hfm
  go_enter Tryz.func17, Tryz.ntmps17
  go_wp2_with fail
  rw [← Hwx.out]
  refine HF.out.mono ?_
  rintro e w3 ⟨rfl, hb3⟩
  have hN3 := Hnx.out.keep (hb3.block _ Hnx.out.lt)
  have e0 := hN3.cell 0
  have e1 := hN3.cell 1
  have e2 := hN3.cell 2
  simp at e0 e1 e2
  have Hb3 := Lib.hid (Hbx.out.trans (hb3.mono Hbx.out.size))
  have Hx3 := Lib.hid (Hx.out.keep (w' := w3) fun b _ hlt => hb3.block b hlt)
  clear hb3 HF hN3 c1 c2
  cases fm with
  | false =>
    obtain rfl : ok = false := by rw [← Hok.out]; unfold validR; rw [Hfm.out]; rfl
    go_wp2_with fail
    go_ret
    exact ⟨rfl, Hb3.out⟩
  | true =>
    have HC := Lib.hid (refCode_any w3 _ (.agg #[.slice a1 n1 p1, .slice a2 n2 p2, .slice a3 n3 p3]) m ⟨_, _, _, rfl, Hx3.out⟩ (codable_of_formed ((formed_iff m).1 Hfm.out) (by rw [Hn2.out]; omega) (by rw [Hn3.out]; omega)))
    go_wp2_with fail
    refine HC.out.mono ?_
    rintro e w4 ⟨⟨r, rfl, hr⟩, hb4⟩
    obtain ⟨N, hN⟩ : ∃ N, (codeR m).length = N := ⟨_, rfl⟩
    obtain ⟨ar, cr, rfl, -⟩ := hr
    rw [hN]
    have Hb4 := Lib.hid (Hb3.out.trans (hb4.mono Hb3.out.size))
    have Hend := Lib.hid (show ok = decide (N ≤ 60000) by
      rw [← Hok.out]
      unfold validR
      rw [Hfm.out, Hn2.out, Hn3.out, hN]
      simp [hg2, hg3])
    clear hN HC hb4
    by_cases hN6 : (N : Int) ≤ 60000
    · obtain rfl : ok = true := by rw [Hend.out]; simp; omega
      go_wp2_with fail
      go_ret
      exact ⟨ret_bool (by simp), Hb4.out⟩
    · obtain rfl : ok = false := by rw [Hend.out]; simp; omega
      go_wp2_with fail
      go_ret
      exact ⟨ret_bool (by simpa using hN6), Hb4.out⟩
end Go.Proofs.YtohahloghmanpaaGreatDoor
