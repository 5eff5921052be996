/-
  SSince
-/
import Derived.Test.YtelphnigdancpaaGreatDoorZA23
import Derived.Test.YtelphnigdancpaaGreatDoorZA12
import Derived.Test.YtelphnigdancpaaGreatDoorZA27
namespace Go.Proofs.YtelphnigdancpaaGreatDoor
open Go.RowKit Go.Sort
set_option linter.unusedVariables false
set_option maxRecDepth 20000
attribute [local go_sem] opC upC

theorem own_low {w w' : World} {B base : Nat} {e : TypeId} {k n : Nat} {v : Value} {xs : List Value} (h : w.ownsRow base e k v n xs) (hb : Below B w w') (hl : ∀ b, v.ownBlock = some b → b < B) : w'.ownsRow base e k v n xs := by
  refine ⟨h.1, ?_⟩
  rcases h.2 with h0 | ⟨g, cap, cur, hv, hb', hg, hr⟩
  · exact .inl h0
  · exact .inr ⟨g, cap, cur, hv, hb', (hb.block g (hl g (by rw [hv]; rfl))).trans hg, hr⟩
set_option maxRecDepth 100000 in
set_option maxHeartbeats 1500000 in
theorem sinceC_any (w : World) (bs : Nat) (a : Option Addr) (c : Nat) (F : Blks) (s : List Int) (x : RIt) (hc : w.cell? ⟨bs, 0, none⟩ = some (.slice a s.length c)) (hv : Rows F w 1 (.slice a s.length c) s.length (s.map eI)) (hd : 0 ≤ x.dev ∧ x.dev < (s.length : Int)) :
    Calls Tryz.prog 40 #[itV x, .pointer (some ⟨bs, 0, none⟩)] w fun e w' => e = .returned (.bool (seqIn s x)) ∧ Below w.heap.size w w' := by
  obtain ⟨q, hq⟩ := Int.eq_ofNat_of_zero_le hd.1
  have hqs : q < s.length := by omega
  obtain ⟨b, off, rfl, -, hlt, hcc⟩ := int_cell hv (by omega)
  have e0 := hcc q hqs
  obtain ⟨y, hy⟩ : ∃ y, s[q] = y := ⟨_, rfl⟩
  rw [hy] at e0
  obtain ⟨xk, xd, xs, xv⟩ := x
  obtain rfl : xd = (q : Int) := hq
  have hr : seqIn s ⟨xk, q, xs, xv⟩ = decide (xs ≤ y) := by
    unfold seqIn
    dsimp only
    rw [Int.toNat_natCast, List.getD_eq_getElem?_getD, List.getElem?_eq_getElem hqs, hy]
    rfl
  obtain ⟨w1, hw1⟩ : ∃ w1, w1 = w.alloc (.cells #[.string ⟨xk.toArray⟩, .int .i64 (q : Int), .int .i64 xs, .int .i64 xv] 50) := ⟨_, rfl⟩
  have hb1 : Below w.heap.size w w1 := by rw [hw1]; exact kept_alloc _ _
  have kx : Blk w1 w.heap.size [.string ⟨xk.toArray⟩, .int .i64 (q : Int), .int .i64 xs, .int .i64 xv] 50 := by rw [hw1]; exact Blk.new _ _ _
  obtain ⟨x0, x1, x2, x3⟩ := cell4 kx
  have e1 : w1.cell? ⟨b, off + q, none⟩ = some (.int .i64 y) := (hb1.cell (p := ⟨b, off + q, none⟩) hlt).trans e0
  have s1 : w1.cell? ⟨bs, 0, none⟩ = some (.slice (some ⟨b, off, none⟩) s.length c) := (hb1.cell (p := ⟨bs, 0, none⟩) (cellLt hc)).trans hc
  obtain ⟨n, hn⟩ : ∃ n, s.length = n := ⟨_, rfl⟩
  rw [hn] at s1
  have hqI : (q : Int) < (n : Int) := by omega
  have Hr := Lib.hid hr; have Hw1 := Lib.hid hw1; have Hb1 := Lib.hid hb1
  clear hr hw1 hb1 kx e0 hc hcc hv hd hy hn
  unfold itV
  go_enter Tryz.func40, Tryz.ntmps40
  go_wp2_with fail
  rw [← Hw1.out]
  go_quiet (fail)
  go_wp2_with fail
  go_ret
  exact ⟨by rw [Hr.out]; first | done | rfl, kept_drewN Hb1.out _⟩
set_option maxHeartbeats 1000000 in
theorem delNilS_any (w : World) (bs : Nat) :
    Calls Tryz.prog 42 #[.slice none 0 0, .func (.func 40) #[] #[.pointer (some ⟨bs, 0, none⟩)]] w fun e w' => e = .returned (.slice none 0 0) ∧ w' = w := by
  have hI : Calls Tryz.prog 84 #[.slice none 0 0, .func (.func 40) #[] #[.pointer (some ⟨bs, 0, none⟩)]] w fun e w' => e = .returned (.int .i64 (-1)) ∧ w' = w := by
    go_enter Tryz.func84, Tryz.ntmps84
    go_wp2_with fail
    go_loop [8] (fun i => i = .int .i64 0) (fun _ => 0)
    case atStart => rfl
    case round =>
      subst hrel
      go_wp2_with fail
      go_ret
      exact ⟨rfl, rfl⟩
  have HI := Lib.hid hI
  clear hI
  go_enter Tryz.func42, Tryz.ntmps42
  go_wp2_with fail
  refine HI.out.mono ?_
  rintro e w1 ⟨rfl, rfl⟩
  go_wp2_with fail
  go_ret
  exact ⟨rfl, rfl⟩
set_option maxRecDepth 100000 in
set_option maxHeartbeats 2000000 in
theorem idxSince_any (bs : Nat) (St : List RIt → World → Prop) (pd : RIt → Bool) (B : Nat)
    (Q : RIt → Prop) (hrun : ∀ pre x w, Q x → St pre w → B ≤ w.heap.size → pre.length ≤ 1000000 → Calls Tryz.prog 40 #[itV x, .pointer (some ⟨bs, 0, none⟩)] w fun e w' => e = .returned (.bool (pd x)) ∧ St (pre ++ [x]) w' ∧ KeepG B w w')
    (w : World) (g cap : Nat) (l : List RIt) (hQ : ∀ x ∈ l, Q x) (rest : List Value) (hg : Blk w g (l.flatMap encIt ++ rest) 50) (hl : l.length ≤ 1000000) (hB : B ≤ w.heap.size) (h0 : St [] w) :
    Calls Tryz.prog 84 #[.slice (some ⟨g, 0, none⟩) l.length cap, .func (.func 40) #[] #[.pointer (some ⟨bs, 0, none⟩)]] w fun e w' => IdxPost pd l St e w' ∧ KeepG B w w' := by
  obtain ⟨n, hn⟩ : ∃ n, l.length = n := ⟨_, rfl⟩
  have Hn := Lib.hid hn; have Hg := Lib.hid hg; have HR := Lib.hid hrun; have H0 := Lib.hid h0; have HQ := Lib.hid hQ
  rw [hn] at hl ⊢
  clear hn hg hrun h0 hQ
  go_enter Tryz.func84, Tryz.ntmps84
  go_wp2_with fail
  go_loopw [8] (fun i wr => ∃ k : Nat, k ≤ n ∧ i = .int .i64 (k : Int) ∧ (∀ j (h : j < l.length), j < k → pd l[j] = false) ∧ St (l.take k) wr ∧ KeepG B w wr) (fun i _ => n - (intOf i).toNat)
  case atStart => exact ⟨0, by omega, rfl, fun j _ hj => by omega, H0.out, ⟨Below.refl _ _, fun _ _ _ h _ _ => h⟩⟩
  case round =>
    obtain ⟨k, hk, rfl, hall, hst, hkg⟩ := hrel
    have Hall := Lib.hid hall; have Hst := Lib.hid hst; have Hkg := Lib.hid hkg
    clear hall hst hkg
    by_cases hkn : k < n
    · have hkI : (k : Int) < (n : Int) := by omega
      have hkl : k < l.length := by rw [Hn.out]; exact hkn
      have hgr := Hkg.out.blk _ _ _ Hg.out (by decide) (by decide)
      obtain ⟨x, hx⟩ : ∃ x, l[k] = x := ⟨_, rfl⟩
      have hc : ∀ j, j < 4 → wr.cell? ⟨g, k * 4 + j, none⟩ = (encIt x)[j]? := fun j hj => by
        rw [hgr.cell, List.getElem?_append_left (by rw [flat_length encIt 4 encIt_len]; omega), flat_get encIt 4 encIt_len l k j hkl hj, hx]
      have x0 : wr.cell? ⟨g, k * 4, none⟩ = some (.string ⟨x.key.toArray⟩) := hc 0 (by omega)
      have x1 : wr.cell? ⟨g, k * 4 + 1, none⟩ = some (.int .i64 x.dev) := hc 1 (by omega)
      have x2 : wr.cell? ⟨g, k * 4 + 2, none⟩ = some (.int .i64 x.seq) := hc 2 (by omega)
      have x3 : wr.cell? ⟨g, k * 4 + 3, none⟩ = some (.int .i64 x.val) := hc 3 (by omega)
      have hC := HR.out (l.take k) x wr (HQ.out x (by rw [← hx]; exact List.getElem_mem _)) Hst.out (Nat.le_trans hB Hkg.out.bel.size) (by simp; omega)
      unfold itV at hC
      have HC := Lib.hid hC
      have Htk := Lib.hid (show l.take k ++ [x] = l.take (k + 1) by rw [List.take_succ_eq_append_getElem hkl, hx])
      have Hx := Lib.hid hx
      generalize hpd : pd x = b at HC
      clear hC hgr hc hx
      have Hpd := Lib.hid hpd
      clear hpd
      go_wp2_with fail
      refine HC.out.mono ?_
      rintro e w2 ⟨rfl, hst2, hkg2⟩
      rw [Htk.out] at hst2
      have Hst2 := Lib.hid hst2; have Hkg2 := Lib.hid (Hkg.out.trans hkg2)
      clear HC hst2 hkg2 x0 x1 x2 x3
      cases b with
      | true =>
        go_wp2_with fail
        go_ret
        exact ⟨.inl ⟨k, x, by rw [List.getElem?_eq_getElem hkl, Hx.out], rfl, Hpd.out, take_all pd l k Hall.out, Hst2.out⟩, Hkg2.out⟩
      | false =>
        go_wp2_with fail
        go_roundw
        case rel => exact ⟨k + 1, by omega, by go_num, fun j hj hjk => by
          rcases Nat.lt_succ_iff_lt_or_eq.1 hjk with h | h
          · exact Hall.out j hj h
          · subst h; rw [Hx.out]; exact Hpd.out, Hst2.out, Hkg2.out⟩
        case measure => simp [intOf]; omega
    · have hkI : ¬ (k : Int) < (n : Int) := by omega
      obtain rfl : k = n := by omega
      have Hfin := Lib.hid (show (∀ x ∈ l, pd x = false) ∧ St l wr from ⟨fun x hx => by
        obtain ⟨j, hj, rfl⟩ := List.getElem_of_mem hx
        exact Hall.out j hj (by rw [Hn.out] at hj; exact hj), by
        have := Hst.out
        rw [← Hn.out, List.take_length] at this
        exact this⟩)
      go_wp2_with fail
      go_ret
      exact ⟨.inr ⟨rfl, Hfin.out.1, Hfin.out.2⟩, Hkg.out⟩
set_option maxRecDepth 100000 in
set_option maxHeartbeats 4000000 in
theorem delSince0_any (bs : Nat) (St : List RIt → World → Prop) (pd : RIt → Bool) (B B2 : Nat) (hBB : B ≤ B2)
    (Q : RIt → Prop) (hrun : ∀ pre x w, Q x → St pre w → B2 ≤ w.heap.size → pre.length ≤ 1000000 → Calls Tryz.prog 40 #[itV x, .pointer (some ⟨bs, 0, none⟩)] w fun e w' => e = .returned (.bool (pd x)) ∧ St (pre ++ [x]) w' ∧ KeepG B2 w w')
    (hkeep : ∀ pre w w', St pre w → KeepI B w w' → St pre w')
    (w : World) (g cap m : Nat) (l : List RIt) (hQ : ∀ x ∈ l, Q x) (rest : List Value) (hg : Blk w g (l.flatMap encIt ++ rest) 50) (hm : (l.flatMap encIt ++ rest).length = m) (hgB : B ≤ g) (hl : l.length ≤ 1000000) (hcap : l.length ≤ cap) (hB2 : B2 ≤ w.heap.size) (h0 : St [] w) :
    Calls Tryz.prog 42 #[.slice (some ⟨g, 0, none⟩) l.length cap, .func (.func 40) #[] #[.pointer (some ⟨bs, 0, none⟩)]] w fun e w' =>
      (e = .returned (.slice (some ⟨g, 0, none⟩) (l.filter fun x => !pd x).length cap) ∧ RowKept g m (l.filter fun x => !pd x) w' ∧ St l w') ∧ KeepGI B B2 w w' := by
  have HI := Lib.hid (idxSince_any bs St pd B2 Q hrun w g cap l hQ rest hg hl hB2 h0)
  obtain ⟨n, hn⟩ : ∃ n, l.length = n := ⟨_, rfl⟩
  have Hn := Lib.hid hn; have Hg := Lib.hid hg; have HR := Lib.hid hrun; have HK := Lib.hid hkeep; have Hm := Lib.hid hm; have HQ := Lib.hid hQ
  rw [hn] at hl hcap HI ⊢
  clear hn hg hrun h0 hkeep hm hQ
  go_enter Tryz.func42, Tryz.ntmps42
  go_wp2_with fail
  refine HI.out.mono ?_
  rintro e w1 ⟨hpost, hkg⟩
  have Hkg := Lib.hid hkg
  clear HI hkg
  rcases hpost with ⟨k, x, hkx, rfl, hpx, hall, hst⟩ | ⟨rfl, hall, hst⟩
  · have hkl : k < l.length := (List.getElem?_eq_some_iff.1 hkx).1
    have hlx : l[k] = x := (List.getElem?_eq_some_iff.1 hkx).2
    have hf0 : (l.take k).filter (fun x => !pd x) = l.take k := List.filter_eq_self.2 fun y hy => by rw [hall y hy]; rfl
    have hf1 : (l.take (k + 1)).filter (fun x => !pd x) = l.take k := by rw [take_filter2 _ l k hkl, hf0, hlx, hpx]; simp
    have hkn : k < n := by rw [← Hn.out]; exact hkl
    have H0 := Lib.hid (show DelSt St pd B B2 g w w1 l rest l k (k + 1) from ⟨Hkg.out.blk _ _ _ Hg.out (by decide) (by decide), rfl, rfl, hf1.symm, by omega, by rw [hf1]; simp; omega, hst, (Hkg.out.gi hBB)⟩)
    have hk1 : ((k : Int) == -1) = false := by simp
    have hk2 : ¬ (k : Int) = -1 := by omega
    clear hall hst hpx hlx hf0 hf1 hkx hkl Hkg
    go_wp2_with fail
    go_loopw [5, 6] (fun si sj wr => ∃ i j cl, j ≤ n ∧ si = .int .i64 ((i : Nat) : Int) ∧ sj = .int .i64 ((j : Nat) : Int) ∧ DelSt St pd B B2 g w wr l rest cl i j) (fun _ sj _ => n - (intOf sj).toNat)
    case atStart => exact ⟨k, k + 1, l, by omega, rfl, by go_num, H0.out⟩
    case round =>
      obtain ⟨i, j, cl, hj, rfl, rfl, st⟩ := hrel
      have St0 := Lib.hid st
      clear st H0
      by_cases hjn : j < n
      · have hjI : (j : Int) < (n : Int) := by omega
        have hjl : j < l.length := by rw [Hn.out]; exact hjn
        have hjc : j < cl.length := by rw [St0.out.len]; exact hjl
        obtain ⟨x, hx⟩ : ∃ x, l[j] = x := ⟨_, rfl⟩
        have hcx : cl[j] = x := by
          have h1 := congrArg (fun z : List RIt => z[0]?) St0.out.drop
          simp only [List.getElem?_drop, Nat.add_zero, List.getElem?_eq_getElem hjc, List.getElem?_eq_getElem hjl] at h1
          rw [← hx]; exact Option.some.inj h1
        have hc : ∀ q, q < 4 → wr.cell? ⟨g, j * 4 + q, none⟩ = (encIt x)[q]? := fun q hq => by
          rw [St0.out.blk.cell, List.getElem?_append_left (by rw [flat_length encIt 4 encIt_len]; omega), flat_get encIt 4 encIt_len cl j q hjc hq, hcx]
        have x0 : wr.cell? ⟨g, j * 4, none⟩ = some (.string ⟨x.key.toArray⟩) := hc 0 (by omega)
        have x1 : wr.cell? ⟨g, j * 4 + 1, none⟩ = some (.int .i64 x.dev) := hc 1 (by omega)
        have x2 : wr.cell? ⟨g, j * 4 + 2, none⟩ = some (.int .i64 x.seq) := hc 2 (by omega)
        have x3 : wr.cell? ⟨g, j * 4 + 3, none⟩ = some (.int .i64 x.val) := hc 3 (by omega)
        obtain ⟨wX, hwX⟩ : ∃ wX, wX = wr.alloc (.cells #[.string ⟨x.key.toArray⟩, .int .i64 x.dev, .int .i64 x.seq, .int .i64 x.val] 50) := ⟨_, rfl⟩
        have hBr2 : B2 ≤ wr.heap.size := Nat.le_trans hB2 St0.out.keep.bel.size
        have hBr : B ≤ wr.heap.size := Nat.le_trans hBB hBr2
        have kiX : KeepI B wr wX := by rw [hwX]; exact KeepI.alloc hBr _
        have kX : Blk wX wr.heap.size [.string ⟨x.key.toArray⟩, .int .i64 x.dev, .int .i64 x.seq, .int .i64 x.val] 50 := by rw [hwX]; exact Blk.new _ _ _
        have kg : Blk wX g (cl.flatMap encIt ++ rest) 50 := by rw [hwX]; exact St0.out.blk.alloc _
        have hC := HR.out (l.take j) x wX (HQ.out x (by rw [← hx]; exact List.getElem_mem _)) (HK.out _ _ _ St0.out.st kiX) (Nat.le_trans hBr2 kiX.bel.size) (by simp; omega)
        unfold itV at hC
        have Htk := Lib.hid (show l.take j ++ [x] = l.take (j + 1) by rw [List.take_succ_eq_append_getElem hjl, hx])
        generalize hpd : pd x = b at hC
        have HC := Lib.hid hC; have Hpd := Lib.hid hpd; have HwX := Lib.hid hwX; have KiX := Lib.hid kiX; have KX := Lib.hid kX; have Kg := Lib.hid kg; have Hx := Lib.hid hx
        obtain ⟨q0, q1, q2, q3⟩ := cell4 kX
        rw [hwX] at q0 q1 q2 q3
        clear hC hpd hwX kiX kX kg hc hx hcx
        go_wp2_with fail
        rw [← HwX.out]
        refine HC.out.mono ?_
        rintro e w2 ⟨rfl, hst2, hkg2⟩
        rw [Htk.out] at hst2
        have hx2 := hkg2.blk _ _ _ KX.out (by decide) (by decide)
        have hg2 := hkg2.blk _ _ _ Kg.out (by decide) (by decide)
        have hki2 : KeepGI B B2 w w2 := St0.out.keep.trans (KiX.out.gi.trans (hkg2.gi hBB))
        have hile := St0.out.ile
        have hdj : cl.drop (j + 1) = l.drop (j + 1) := by
          have := congrArg (List.drop 1) St0.out.drop
          simpa [List.drop_drop, Nat.add_comm] using this
        have hfj := take_filter2 (fun x => !pd x) l j hjl
        rw [Hx.out, Hpd.out] at hfj
        clear x0 x1 x2 x3 q0 q1 q2 q3 HC
        cases b with
        | true =>
          have Hst := Lib.hid (show DelSt St pd B B2 g w w2 l rest cl i (j + 1) from by
            have hf : (l.take (j + 1)).filter (fun x => !pd x) = (l.take j).filter fun x => !pd x := by rw [hfj]; simp
            exact ⟨hg2, St0.out.len, hdj, by rw [hf]; exact St0.out.take, by omega, by rw [hf]; exact St0.out.ilen, hst2, hki2⟩)
          clear hx2 hg2 hki2 hdj hfj hst2 hkg2
          go_wp2_with fail
          go_roundw
          case rel => exact ⟨i, j + 1, cl, by omega, rfl, by go_num, Hst.out⟩
          case measure => simp [intOf]; omega
        | false =>
          obtain ⟨q0, q1, q2, q3⟩ := cell4 hx2
          have hic : i < cl.length := by omega
          have hLl : (cl.flatMap encIt ++ rest).length = cl.length * 4 + rest.length := by rw [List.length_append, flat_length encIt 4 encIt_len]
          obtain ⟨z0, y0⟩ : ∃ z, w2.cell? ⟨g, i * 4, none⟩ = some z := ⟨_, (hg2.cell (i * 4)).trans (List.getElem?_eq_getElem (by omega))⟩
          obtain ⟨z1, y1⟩ : ∃ z, w2.cell? ⟨g, i * 4 + 1, none⟩ = some z := ⟨_, (hg2.cell (i * 4 + 1)).trans (List.getElem?_eq_getElem (by omega))⟩
          obtain ⟨z2, y2⟩ : ∃ z, w2.cell? ⟨g, i * 4 + 2, none⟩ = some z := ⟨_, (hg2.cell (i * 4 + 2)).trans (List.getElem?_eq_getElem (by omega))⟩
          obtain ⟨z3, y3⟩ : ∃ z, w2.cell? ⟨g, i * 4 + 3, none⟩ = some z := ⟨_, (hg2.cell (i * 4 + 3)).trans (List.getElem?_eq_getElem (by omega))⟩
          have f0 := hg2.free (i * 4)
          have f1 := hg2.free (i * 4 + 1)
          have f2 := hg2.free (i * 4 + 2)
          have f3 := hg2.free (i * 4 + 3)
          obtain ⟨w3, hw3⟩ : ∃ w3, w3 = (((w2.setCell ⟨g, i * 4, none⟩ (.string ⟨x.key.toArray⟩)).setCell ⟨g, i * 4 + 1, none⟩ (.int .i64 x.dev)).setCell ⟨g, i * 4 + 2, none⟩ (.int .i64 x.seq)).setCell ⟨g, i * 4 + 3, none⟩ (.int .i64 x.val) := ⟨_, rfl⟩
          have s1 := hg2.set (i * 4) (.string ⟨x.key.toArray⟩)
          have s2 := s1.set (i * 4 + 1) (.int .i64 x.dev)
          have s3 := s2.set (i * 4 + 2) (.int .i64 x.seq)
          have s4 := s3.set (i * 4 + 3) (.int .i64 x.val)
          rw [flat_set4 x rest cl i hic, ← hw3] at s4
          have ki3 : KeepI B w2 w3 := by
            rw [hw3]
            exact (((KeepI.set hg2 hgB _).trans (KeepI.set s1 hgB _)).trans (KeepI.set s2 hgB _)).trans (KeepI.set s3 hgB _)
          have Hst := Lib.hid (show DelSt St pd B B2 g w w3 l rest (cl.set i x) (i + 1) (j + 1) from by
            have hf : (l.take (j + 1)).filter (fun x => !pd x) = ((l.take j).filter fun x => !pd x) ++ [x] := by rw [hfj]; rfl
            refine ⟨s4, by rw [List.length_set]; exact St0.out.len, by rw [List.drop_set_of_lt (by omega)]; exact hdj, ?_, by omega, by rw [hf, List.length_append, ← St0.out.ilen]; rfl, HK.out _ _ _ hst2 ki3, hki2.trans ki3.gi⟩
            rw [hf, ← St0.out.take, List.take_succ_eq_append_getElem (by simpa using hic)]
            simp [List.take_set_of_le (Nat.le_refl i)])
          have Hw3 := Lib.hid hw3
          clear hx2 hg2 hki2 hdj hfj hst2 hkg2 hw3 s1 s2 s3 s4 ki3 hLl
          go_wp2_with fail
          rw [← Hw3.out]
          clear q0 q1 q2 q3 y0 y1 y2 y3 f0 f1 f2 f3
          go_roundw
          case rel => exact ⟨i + 1, j + 1, cl.set i x, by omega, by go_num, by go_num, Hst.out⟩
          case measure => simp [intOf]; omega
      · have hjI : ¬ (j : Int) < (n : Int) := by omega
        obtain rfl : j = n := by omega
        have hfin : l.take j = l := by rw [← Hn.out, List.take_length]
        have ht := St0.out.take
        have hi := St0.out.ilen
        have hst := St0.out.st
        rw [hfin] at ht hi hst
        have hile := St0.out.ile
        have Hst := Lib.hid hst; have Ht := Lib.hid ht; have Hi := Lib.hid hi
        clear hfin ht hi hst
        have hLl : (cl.flatMap encIt ++ rest).length = cl.length * 4 + rest.length := by rw [List.length_append, flat_length encIt 4 encIt_len]
        have hcl := St0.out.len
        rw [Hn.out] at hcl
        by_cases hci : cap = i
        · obtain ⟨wf, L', hrc, hb', hl', ht', hk'⟩ := run_clear_items wr 0 g 0 (j - i) 0 _ St0.out.blk hgB (by omega)
          have Hfin := Lib.hid (show RowKept g m (l.filter fun x => !pd x) wf ∧ St l wf ∧ KeepGI B B2 w wf from by
            refine ⟨⟨L', hb', ?_, ?_⟩, HK.out _ _ _ Hst.out hk', St0.out.keep.trans hk'.gi⟩
            · rw [hl', hLl, ← Hm.out, List.length_append, flat_length encIt 4 encIt_len, St0.out.len]
            · rw [← Hi.out, ht' (i * 4) (.inr (by omega)), ← Ht.out, List.take_append_of_le_length (by rw [flat_length encIt 4 encIt_len]; omega)]
              exact flat_takes cl i)
          have Hrc := Lib.hid hrc
          clear hb' hl' ht' hk' hLl hcl
          go_wp2_with fail
          go_ret
          exact ⟨⟨by rw [← Hi.out]; rfl, Hfin.out.1, Hfin.out.2.1⟩, Hfin.out.2.2⟩
        · obtain ⟨wf, L', hrc, hb', hl', ht', hk'⟩ := run_clear_items wr 0 g (i * 4) (j - i) (cap - i) _ St0.out.blk hgB (by omega)
          have Hfin := Lib.hid (show RowKept g m (l.filter fun x => !pd x) wf ∧ St l wf ∧ KeepGI B B2 w wf from by
            refine ⟨⟨L', hb', ?_, ?_⟩, HK.out _ _ _ Hst.out hk', St0.out.keep.trans hk'.gi⟩
            · rw [hl', hLl, ← Hm.out, List.length_append, flat_length encIt 4 encIt_len, St0.out.len]
            · rw [← Hi.out, ht' (i * 4) (.inl (Nat.le_refl _)), ← Ht.out, List.take_append_of_le_length (by rw [flat_length encIt 4 encIt_len]; omega)]
              exact flat_takes cl i)
          have Hrc := Lib.hid hrc
          clear hb' hl' ht' hk' hLl hcl
          go_wp2_with fail
          go_ret
          exact ⟨⟨by rw [← Hi.out]; rfl, Hfin.out.1, Hfin.out.2.1⟩, Hfin.out.2.2⟩
  · have hf : l.filter (fun x => !pd x) = l := List.filter_eq_self.2 fun y hy => by rw [hall y hy]; rfl
    have Hf := Lib.hid hf; have Hst := Lib.hid hst
    clear hf hall hst
    go_wp2_with fail
    go_ret
    refine ⟨⟨?_, ⟨_, Hkg.out.blk _ _ _ Hg.out (by decide) (by decide), Hm.out, by rw [Hf.out, List.take_append_of_le_length (by rw [flat_length encIt 4 encIt_len]; exact Nat.le_refl _), List.take_of_length_le (by rw [flat_length encIt 4 encIt_len]; exact Nat.le_refl _)]⟩, Hst.out⟩, (Hkg.out.gi hBB)⟩
    rw [Hf.out, Hn.out]
    rfl
theorem delSince_any (w : World) (B bs : Nat) (a : Option Addr) (c : Nat) (F : Blks) (s : List Int) (v : Value) (l : List RIt) (ho : w.ownsRow B 50 4 v l.length (l.flatMap encIt)) (hl : l.length ≤ 1000000) (hB : B ≤ w.heap.size)
    (hd : ∀ x ∈ l, 0 ≤ x.dev ∧ x.dev < (s.length : Int)) (hc : w.cell? ⟨bs, 0, none⟩ = some (.slice a s.length c)) (hv : Rows F w 1 (.slice a s.length c) s.length (s.map eI)) (hF : ∀ b, F b → b < B) (hbs : bs < B) :
    Calls Tryz.prog 42 #[v, .func (.func 40) #[] #[.pointer (some ⟨bs, 0, none⟩)]] w fun e w' =>
      ∃ v', e = .returned v' ∧ w'.ownsRow B 50 4 v' (l.filter fun x => !seqIn s x).length ((l.filter fun x => !seqIn s x).flatMap encIt) ∧ Below B w w' := by
  rcases ho.2 with ⟨rfl, hz⟩ | ⟨g, cap, cur, rfl, hbase, hg, hcp, hm, hsz, htk⟩
  · obtain rfl := List.length_eq_zero_iff.1 hz
    refine (delNilS_any w bs).mono ?_
    rintro e w' ⟨rfl, rfl⟩
    exact ⟨_, rfl, World.ownsRow_nil _ _ _ _, Below.refl _ _⟩
  · have hcur : cur.toList = l.flatMap encIt ++ cur.toList.drop (l.length * 4) := by
      rw [← htk, List.take_append_drop]
    have hb : Blk w g (l.flatMap encIt ++ cur.toList.drop (l.length * 4)) 50 := by
      rw [← hcur]; exact hg
    have hrun : ∀ (pre : List RIt) x W, (0 ≤ x.dev ∧ x.dev < (s.length : Int)) → Below B w W → B ≤ W.heap.size → pre.length ≤ 1000000 → Calls Tryz.prog 40 #[itV x, .pointer (some ⟨bs, 0, none⟩)] W fun e w' => e = .returned (.bool (seqIn s x)) ∧ Below B w w' ∧ KeepG B W w' := fun pre x W hx hst hBW hpre => by
      refine (sinceC_any W bs a c F s x ((hst.cell (p := ⟨bs, 0, none⟩) hbs).trans hc) (hv.keep fun b hb _ => hst.block b (hF b hb)) hx).mono ?_
      rintro e w' ⟨rfl, h1⟩
      exact ⟨rfl, hst.trans (h1.mono hBW), h1.mono hBW, fun b L t hk _ _ => hk.keep (h1.block b hk.lt)⟩
    refine (delSince0_any bs (fun _ W => Below B w W) (seqIn s) B B (Nat.le_refl _) (fun x => 0 ≤ x.dev ∧ x.dev < (s.length : Int)) hrun (fun pre W W' h hk => h.trans hk.bel) w g cap _ l hd _ hb rfl hbase hl hcp hB (Below.refl _ _)).mono ?_
    rintro e w' ⟨⟨rfl, ⟨L', hL1, hL2, hL3⟩, hst⟩, hkp⟩
    refine ⟨_, rfl, ⟨by rw [flat_length encIt 4 encIt_len], .inr ⟨g, cap, L'.toArray, rfl, hbase, hL1, Nat.le_trans (List.length_filter_le _ _) hcp, hm, ?_, hL3⟩⟩, hkp.bel⟩
    rw [List.size_toArray, hL2, ← hcur]
    exact hsz
theorem bnd_since {m : RMap} (h : Bnd m) (s : List Int) : Bnd (sinceF m s) := ⟨h.seenB, fun x hx => h.itemsB x (List.mem_filter.1 hx).1, h.goneB⟩
set_option maxRecDepth 100000 in
set_option maxHeartbeats 4000000 in
theorem since_any (w : World) (hT : Tabs w) (h3 : 3 ≤ w.heap.size) (F G : Blks) (v : Value) (m : RMap) (h : MapV F w v m) (hki : ∀ x ∈ m.items, x.key.length ≤ 1000000) (hkg : ∀ x ∈ m.gone, x.key.length ≤ 1000000) (sv : Value) (s : List Int) (hs : Rows G w 1 sv s.length (s.map eI)) :
    Calls Tryz.prog 14 #[v, sv] w (UPost w (sinceR m s)) := by
  replace h := h.mono (G := fun q => q < w.heap.size) fun q _ hlt => hlt
  replace hs := hs.mono (G := fun q => q < w.heap.size) fun q _ hlt => hlt
  obtain ⟨s1, s2, s3, rfl, h⟩ := h
  obtain ⟨a1, p1, rfl, -⟩ := h.seen.shape
  obtain ⟨a2, p2, rfl, -⟩ := h.items.shape
  obtain ⟨a3, p3, rfl, -⟩ := h.gone.shape
  obtain ⟨wx, hwx⟩ : ∃ wx, wx = w.alloc (.cells #[.slice a1 m.seen.length p1, .slice a2 m.items.length p2, .slice a3 m.gone.length p3] 31) := ⟨_, rfl⟩
  have hbx : Below w.heap.size w wx := by rw [hwx]; exact kept_alloc _ _
  have hzx : wx.heap.size = w.heap.size + 1 := by rw [hwx]; simp
  have hx := h.keep (w' := wx) fun b _ hlt => hbx.block b hlt
  have hnx : Blk wx w.heap.size [.slice a1 m.seen.length p1, .slice a2 m.items.length p2, .slice a3 m.gone.length p3] 31 := by rw [hwx]; exact Blk.new _ _ _
  have Hx := Lib.hid hx
  have Hwx := Lib.hid hwx; have Hbx := Lib.hid hbx; have Hzx := Lib.hid hzx
  have Hnx := Lib.hid hnx
  clear hx hwx hbx hnx hzx h
  obtain ⟨al, cl, rfl, -⟩ := hs.shape
  obtain ⟨wl, hwl⟩ : ∃ wl, wl = wx.alloc (.cells #[.slice al s.length cl] 22) := ⟨_, rfl⟩
  obtain ⟨w2, hw2⟩ : ∃ w2, w2 = wl.alloc (.cells #[.slice none 0 0, .slice none 0 0, .slice none 0 0] 31) := ⟨_, rfl⟩
  have hzl : wl.heap.size = w.heap.size + 2 := by rw [hwl]; simp [Hzx.out]
  have hz2 : w2.heap.size = w.heap.size + 3 := by rw [hw2]; simp [hzl]
  have hbl : Below w.heap.size w wl := by rw [hwl]; exact Hbx.out.alloc Hbx.out.size _
  have hb2 : Below w.heap.size w w2 := by rw [hw2]; exact hbl.alloc hbl.size _
  have km : Blk w2 w.heap.size [.slice a1 m.seen.length p1, .slice a2 m.items.length p2, .slice a3 m.gone.length p3] 31 := by rw [hw2, hwl]; exact (Hnx.out.alloc _).alloc _
  have k1 : Blk w2 (w.heap.size + 1) [.slice al s.length cl] 22 := by
    have := Blk.new wx #[.slice al s.length cl] 22
    rw [← hwl, Hzx.out] at this
    rw [hw2]; exact this.alloc _
  have k2 : Blk w2 (w.heap.size + 1 + 1) [.slice none 0 0, .slice none 0 0, .slice none 0 0] 31 := by
    have := Blk.new wl #[.slice none 0 0, .slice none 0 0, .slice none 0 0] 31
    rw [← hw2, hzl] at this
    exact this
  have hMx := Hx.out
  have HR := Lib.hid (show ∀ W, Below w2.heap.size w2 W → Below w.heap.size w W ∧ Blk W w.heap.size [.slice a1 m.seen.length p1, .slice a2 m.items.length p2, .slice a3 m.gone.length p3] 31 ∧ Blk W (w.heap.size + 1) [.slice al s.length cl] 22 ∧ Blk W (w.heap.size + 1 + 1) [.slice none 0 0, .slice none 0 0, .slice none 0 0] 31 ∧ MapIn (fun q => q < w.heap.size) W (.slice a1 m.seen.length p1) (.slice a2 m.items.length p2) (.slice a3 m.gone.length p3) m ∧ Rows (fun q => q < w.heap.size) W 1 (.slice al s.length cl) s.length (s.map eI) from fun W hW => by
    have hB : Below w.heap.size w W := hb2.trans (hW.mono (by omega))
    exact ⟨hB, km.keep (hW.block _ km.lt), k1.keep (hW.block _ k1.lt), k2.keep (hW.block _ k2.lt), hMx.keep (w' := W) fun q hq _ => (hB.block q hq).trans (Hbx.out.block q hq).symm, hs.keep (w' := W) fun q hq _ => hB.block q hq⟩)
  have HTb := Lib.hid (show ∀ W, Below w.heap.size w W → Tabs W ∧ 3 ≤ W.heap.size from fun W hW => ⟨tabs_below hT h3 hW, Nat.le_trans h3 hW.size⟩)
  have HC := Lib.hid (check_any w2 (HTb.out w2 hb2).1 (HTb.out w2 hb2).2 _ (.agg #[.slice a1 m.seen.length p1, .slice a2 m.items.length p2, .slice a3 m.gone.length p3]) m ⟨_, _, _, rfl, (HR.out w2 (Below.refl _ _)).2.2.2.2.1⟩ hki hkg)
  have Hw2 := Lib.hid (show w2 = (wx.alloc (.cells #[.slice al s.length cl] 22)).alloc (.cells #[.slice none 0 0, .slice none 0 0, .slice none 0 0] 31) by rw [hw2, hwl])
  have Hz2 := Lib.hid hz2
  have Hbn := Lib.hid hMx.bnd
  obtain ⟨c0, c1, c2⟩ := cell3 km
  obtain ⟨ok, hok⟩ : ∃ ok, validR m = ok := ⟨_, rfl⟩
  rw [hok] at HC
  have Hok := Lib.hid hok
  clear hw2 hwl hzl hz2 hbl hb2 km k1 k2 hT hs hki hkg hok hMx
  go_enter Tryz.func14, Tryz.ntmps14
  go_wp2_with fail
  rw [← Hwx.out, ← Hw2.out]
  refine HC.out.mono ?_
  rintro e w3 ⟨rfl, hb3⟩
  clear HC c0 c1 c2
  cases ok with
  | false =>
    have Hu := Lib.hid (show sinceR m s = (.empty, 5) by unfold sinceR; rw [Hok.out]; rfl)
    obtain ⟨hbel, -, -, kr, -⟩ := HR.out w3 hb3
    clear hb3
    obtain ⟨wf, hwf, hblk, hbf⟩ := fin3 kr hbel (by omega) (.slice none 0 0) (.slice none 0 0) (.slice none 0 0)
    obtain ⟨y0, y1, y2⟩ := cell3 kr
    have z0 := kr.free 0
    have z1 := kr.free 1
    have z2 := kr.free 2
    have Q := Lib.hid (cell3 hblk)
    have Hbf := Lib.hid hbf; have Hwf := Lib.hid hwf
    clear hwf hblk hbf
    go_wp2_with fail
    rw [← Hwf.out]
    obtain ⟨q0, q1, q2⟩ := Q.out
    exact bodyPost_ret (v := .tuple #[nilV, .int .i64 5]) (by simp [results, Tryz.results14, go_sem, q0, q1, q2, nilV]) rfl ⟨⟨_, by rw [Hu.out], by rw [Hu.out]; exact own_nil _ _, by rw [Hu.out]; exact bnd_empty⟩, Hbf.out⟩
  | true =>
    obtain ⟨-, -, kl, -, -, hsr⟩ := HR.out w3 hb3
    have HK := Lib.hid (knows_any w3 _ (.slice al s.length cl) s hsr)
    obtain ⟨kv, hkv⟩ : ∃ kv, knowsR s = kv := ⟨_, rfl⟩
    rw [hkv] at HK
    have Hkv := Lib.hid hkv; have Hb3 := Lib.hid hb3
    have l0 : w3.cell? ⟨w.heap.size + 1, 0, none⟩ = some (.slice al s.length cl) := kl.cell 0
    clear kl hsr hkv hb3
    go_wp2_with fail
    refine HK.out.mono ?_
    rintro e w4 ⟨rfl, hb4⟩
    have hL4 : Below w2.heap.size w2 w4 := Hb3.out.trans (hb4.mono Hb3.out.size)
    clear HK l0 hb4
    cases kv with
    | false =>
      have Hu := Lib.hid (show sinceR m s = (.empty, 5) by unfold sinceR; rw [Hkv.out, Bool.and_false]; rfl)
      obtain ⟨hbel, -, -, kr, -⟩ := HR.out w4 hL4
      clear hL4
      obtain ⟨wf, hwf, hblk, hbf⟩ := fin3 kr hbel (by omega) (.slice none 0 0) (.slice none 0 0) (.slice none 0 0)
      obtain ⟨y0, y1, y2⟩ := cell3 kr
      have z0 := kr.free 0
      have z1 := kr.free 1
      have z2 := kr.free 2
      have Q := Lib.hid (cell3 hblk)
      have Hbf := Lib.hid hbf; have Hwf := Lib.hid hwf
      clear hwf hblk hbf
      go_wp2_with fail
      rw [← Hwf.out]
      obtain ⟨q0, q1, q2⟩ := Q.out
      exact bodyPost_ret (v := .tuple #[nilV, .int .i64 5]) (by simp [results, Tryz.results14, go_sem, q0, q1, q2, nilV]) rfl ⟨⟨_, by rw [Hu.out], by rw [Hu.out]; exact own_nil _ _, by rw [Hu.out]; exact bnd_empty⟩, Hbf.out⟩
    | true =>
      have Hu := Lib.hid (show sinceR m s = (sinceF m s, 0) by unfold sinceR; rw [Hok.out, Hkv.out]; rfl)
      have f := valid_formed Hok.out
      have hvl := valid_lens Hok.out
      have hkn := (knows_iff s).1 Hkv.out
      have hdev : ∀ x ∈ m.items, 0 ≤ x.dev ∧ x.dev < (s.length : Int) := fun x hx => by
        have := known_seq (f.iknown x hx)
        have h1 : x.pl.2 = x.dev := rfl
        rw [h1, f.len] at this
        rw [hkn.len]
        exact ⟨this.1, this.2.1⟩
      have hLd : Below w2.heap.size w2 w4.drew := hL4.drew
      have p0 : ∀ W, Below w2.heap.size w4.drew W → W.cell? ⟨w.heap.size, 0, none⟩ = some (.slice a1 m.seen.length p1) := fun W hh => (cell3 (HR.out W (hLd.trans hh)).2.1).1
      have p1' : ∀ W, Below w2.heap.size w4.drew W → W.cell? ⟨w.heap.size, 1, none⟩ = some (.slice a2 m.items.length p2) := fun W hh => (cell3 (HR.out W (hLd.trans hh)).2.1).2.1
      have p2' : ∀ W, Below w2.heap.size w4.drew W → W.cell? ⟨w.heap.size, 2, none⟩ = some (.slice a3 m.gone.length p3) := fun W hh => (cell3 (HR.out W (hLd.trans hh)).2.1).2.2
      have H1 := Lib.hid (cloneI_any w4.drew _ (.slice a1 m.seen.length p1) m.seen (HR.out _ hLd).2.2.2.2.1.seen (by omega))
      have Hdev := Lib.hid hdev; have Hvl := Lib.hid hvl; have HLd := Lib.hid hLd
      clear f hvl hkn hdev hLd hL4
      go_wp2_with fail
      refine wp_region_canL (Below w2.heap.size) 12 [(0, true), (1, true), (3, true), (4, true), (6, true), (8, true), (9, true), (2, false), (5, false), (7, false), (10, false), (11, true), (12, false), (13, true)] (by kernel_rfl) (by kernel_rfl) (by kernel_rfl) (Below.refl _) (fun a b c h k => h.trans k) ?_
      repeat (refine canL_yes (v := ?_) rfl (wanted_none rfl) (fun w' hC => ?_) (fun K hK => ?_); rotate_left; (focus (go_simp; first | done | exact rfl)); go_simp; refine hK _ ?_; clear hK K)
      refine canL_go rfl rfl (fun KK hK => ?_)
      go_simp
      refine H1.out.mono ?_
      rintro e w5 ⟨r1, rfl, ho1, hb5⟩
      obtain ⟨b5, d5, rfl⟩ := own_shape ho1
      have hs4 : w2.heap.size ≤ w4.drew.heap.size := HLd.out.size
      refine ⟨_, rfl, hb5.mono hs4, hK _ _ ?_⟩
      clear hK KK H1
      go_simp
      have HL5 := Lib.hid (HLd.out.trans (hb5.mono hs4))
      have H2 := Lib.hid (cloneIt_any w5 _ (.slice a2 m.items.length p2) m.items (HR.out w5 HL5.out).2.2.2.2.1.items (by have := Hvl.out; omega))
      have Ho1 := Lib.hid ho1; have Hs4 := Lib.hid hs4
      clear hb5 ho1 hs4
      repeat (refine canL_yes (v := ?_) rfl (wanted_none rfl) (fun w' hC => ?_) (fun K hK => ?_); rotate_left; (focus (go_simp; first | done | exact rfl)); go_simp; refine hK _ ?_; clear hK K)
      refine canL_go rfl rfl (fun KK hK => ?_)
      go_simp
      refine H2.out.mono ?_
      rintro e w6 ⟨r2, rfl, ho2, hb6⟩
      obtain ⟨b6, d6, rfl⟩ := own_shape ho2
      have hs5 : w2.heap.size ≤ w5.heap.size := HL5.out.size
      refine ⟨_, rfl, hb6.mono hs5, hK _ _ ?_⟩
      clear hK KK H2
      go_simp
      have hL6 := HL5.out.trans (hb6.mono hs5)
      have hz2' := Hz2.out
      have H3 := Lib.hid (delSince_any w6 w5.heap.size (w.heap.size + 1) al cl _ s (.slice b6 m.items.length d6) m.items ho2 (by have := Hvl.out; omega) hb6.size Hdev.out ((HR.out w6 hL6).2.2.1.cell 0) (HR.out w6 hL6).2.2.2.2.2 (fun q hq => by omega) (by omega))
      have HL6 := Lib.hid hL6; have Hb6 := Lib.hid hb6; have Hs5 := Lib.hid hs5
      clear hb6 ho2 hs5 hL6 hz2'
      repeat (refine canL_yes (v := ?_) rfl (wanted_none rfl) (fun w' hC => ?_) (fun K hK => ?_); rotate_left; (focus (go_simp; first | done | exact rfl)); go_simp; refine hK _ ?_; clear hK K)
      refine canL_go rfl rfl (fun KK hK => ?_)
      go_simp
      refine H3.out.mono ?_
      rintro e w7 ⟨r3, rfl, ho3, hb7⟩
      obtain ⟨b7, d7, rfl⟩ := own_shape ho3
      refine ⟨_, rfl, hb7.mono Hs5.out, hK _ _ ?_⟩
      clear hK KK H3
      go_simp
      have HL7 := Lib.hid (HL6.out.trans (hb7.mono Hs5.out))
      have H4 := Lib.hid (cloneGo_any w7 _ (.slice a3 m.gone.length p3) m.gone (HR.out w7 HL7.out).2.2.2.2.1.gone (by have := Hvl.out; omega))
      have Ho1' := Lib.hid (own_low (own_below Ho1.out Hb6.out) hb7 fun b hb => (Ho1.out.lt b hb).2)
      have Ho3 := Lib.hid ho3
      clear hb7 ho3
      repeat (refine canL_yes (v := ?_) rfl (wanted_none rfl) (fun w' hC => ?_) (fun K hK => ?_); rotate_left; (focus (go_simp; first | done | exact rfl)); go_simp; refine hK _ ?_; clear hK K)
      refine canL_go rfl rfl (fun KK hK => ?_)
      go_simp
      refine H4.out.mono ?_
      rintro e w8 ⟨r4, rfl, ho4, hb8⟩
      obtain ⟨b8, d8, rfl⟩ := own_shape ho4
      have hs7 : w2.heap.size ≤ w7.heap.size := HL7.out.size
      refine ⟨_, rfl, hb8.mono hs7, hK _ _ ?_⟩
      clear hK KK H4
      go_simp
      have hL8 := HL7.out.trans (hb8.mono hs7)
      obtain ⟨hbel, -, -, kr, -⟩ := HR.out w8 hL8
      have hs2 : w.heap.size ≤ w2.heap.size := by have := Hz2.out; omega
      have ho : OwnIn w8 w.heap.size (.slice b5 m.seen.length d5) (.slice b7 (m.items.filter fun x => !seqIn s x).length d7) (.slice b8 m.gone.length d8) (sinceF m s) := ⟨own_base (own_below Ho1'.out hb8) (Nat.le_trans hs2 Hs4.out), own_base (own_below Ho3.out hb8) (Nat.le_trans hs2 Hs5.out), own_base ho4 (Nat.le_trans hs2 hs7)⟩
      obtain ⟨ni, hni⟩ : ∃ ni, (m.items.filter fun x => !seqIn s x).length = ni := ⟨_, rfl⟩
      rw [hni] at ho ⊢
      obtain ⟨wf, hwf, hblk, hbf⟩ := fin3 kr hbel (by omega) (.slice b5 m.seen.length d5) (.slice b7 ni d7) (.slice b8 m.gone.length d8)
      obtain ⟨y0, y1, y2⟩ := cell3 kr
      have z0 := kr.free 0
      have z1 := kr.free 1
      have z2 := kr.free 2
      have Q := Lib.hid (cell3 hblk)
      have Hof := Lib.hid (show OwnIn wf w.heap.size (.slice b5 m.seen.length d5) (.slice b7 ni d7) (.slice b8 m.gone.length d8) (sinceF m s) by
        rw [hwf]
        exact ((ho.setCell kr _).setCell (kr.set 0 _) _).setCell ((kr.set 0 _).set 1 _) _)
      have Hbf := Lib.hid hbf; have Hwf := Lib.hid hwf
      clear hwf hblk hbf kr hbel ho ho4 hb8 hL8 hs7 hs2 hni p0 p1' p2'
      repeat (refine canL_yes (v := ?_) rfl (wanted_none rfl) (fun w' hC => ?_) (fun K hK => ?_); rotate_left; (focus (go_simp; first | done | exact rfl)); go_simp; refine hK _ ?_; clear hK K)
      refine canL_last rfl rfl rfl (fun KK hK => ?_)
      go_simp
      rw [← Hwf.out]
      refine hK _ _ ?_
      clear hK KK y0 y1 y2 z0 z1 z2
      go_simp
      repeat (refine canL_yes (v := ?_) rfl (wanted_none rfl) (fun w' hC => ?_) (fun K hK => ?_); rotate_left; (focus (go_simp; first | done | exact rfl)); go_simp; refine hK _ ?_; clear hK K)
      refine canL_nil ?_
      go_wp2_with fail
      obtain ⟨q0, q1, q2⟩ := Q.out
      exact bodyPost_ret (v := .tuple #[.agg #[.slice b5 m.seen.length d5, .slice b7 ni d7, .slice b8 m.gone.length d8], .int .i64 0]) (by simp [results, Tryz.results14, go_sem, q0, q1, q2]) rfl ⟨⟨_, by rw [Hu.out], by rw [Hu.out]; exact ⟨_, _, _, rfl, Hof.out⟩, by rw [Hu.out]; exact bnd_since Hbn.out s⟩, Hbf.out⟩
end Go.Proofs.YtelphnigdancpaaGreatDoor
