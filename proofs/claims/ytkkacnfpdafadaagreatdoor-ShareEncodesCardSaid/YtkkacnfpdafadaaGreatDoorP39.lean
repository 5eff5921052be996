/-
  SRef1
-/
import Derived.Test.YtkkacnfpdafadaaGreatDoorP20
import Derived.Test.YtkkacnfpdafadaaGreatDoorP38
namespace Go.Proofs.YtkkacnfpdafadaaGreatDoor
open Go.RowKit
set_option linter.unusedVariables false
set_option maxRecDepth 20000
attribute [local go_sem ↓] seal_append
attribute [local go_sem] opC upC

set_option maxHeartbeats 1500000 in
theorem rknow_any (w : World) (F : Blks) (v : Value) (l : List Int) (hv : Rows F w 1 v l.length (l.map eI)) :
    Calls Tryz.prog 46 #[v] w fun e w' => e = .returned (.bool (knowsR l)) ∧ w' = w := by
  obtain ⟨n, hn⟩ : ∃ n, l.length = n := ⟨_, rfl⟩
  obtain ⟨a, cap, rfl, -⟩ := hv.shape
  have hl := hv.len
  unfold maxLen at hl
  have Hv := Lib.hid hv
  rw [hn] at hl ⊢
  have Hn := Lib.hid hn
  clear hv hn
  go_enter Tryz.func46, Tryz.ntmps46
  go_wp2_with fail
  go_loop [3] (fun i => ∃ k : Nat, k ≤ n ∧ i = .int .i64 (k : Int) ∧ ∀ j (hj : j < l.length), j < k → seenOk l[j] = true) (fun i => n - (intOf i).toNat)
  case atStart => exact ⟨0, by omega, rfl, fun j _ hj => by omega⟩
  case round =>
    obtain ⟨k, hk, rfl, hall⟩ := hrel
    have Hall := Lib.hid hall
    clear hall
    by_cases hkn : k < n
    · have hkI : (k : Int) < (n : Int) := by omega
      have hkl : k < l.length := by rw [Hn.out]; exact hkn
      obtain ⟨b, off, rfl, -, -, hc⟩ := int_cell Hv.out (by omega)
      have e0 := hc k hkl
      obtain ⟨x, hx⟩ : ∃ x, l[k] = x := ⟨_, rfl⟩
      rw [hx] at e0
      have Hx := Lib.hid hx
      clear hc hx
      by_cases h0 : x < 0
      · have d0 : decide (x < 0) = true := by simpa using h0
        have Hr := Lib.hid (show knowsR l = false by
          unfold knowsR
          rw [List.all_eq_false.2 ⟨x, by rw [← Hx.out]; exact List.getElem_mem _, by unfold seenOk; simp; omega⟩, Bool.and_false])
        go_wp2_with fail
        go_ret
        exact ⟨by rw [Hr.out]; first | done | rfl, rfl⟩
      have d0 : decide (x < 0) = false := by simpa using h0
      by_cases h1 : x > 1099511627776
      · have d1 : decide (x > 1099511627776) = true := by simpa using h1
        have Hr := Lib.hid (show knowsR l = false by
          unfold knowsR
          rw [List.all_eq_false.2 ⟨x, by rw [← Hx.out]; exact List.getElem_mem _, by unfold seenOk; simp; omega⟩, Bool.and_false])
        go_wp2_with fail
        go_ret
        exact ⟨by rw [Hr.out]; first | done | rfl, rfl⟩
      · have d1 : decide (x > 1099511627776) = false := by simpa using h1
        have Hr := Lib.hid (show seenOk x = true by unfold seenOk; simp; omega)
        go_wp2_with fail
        go_round
        case rel => exact ⟨k + 1, by omega, by go_num, fun j hj hjk => by
          rcases Nat.lt_succ_iff_lt_or_eq.1 hjk with h | h
          · exact Hall.out j hj h
          · subst h; rw [Hx.out]; exact Hr.out⟩
        case measure => simp [intOf]; omega
    · have hkI : ¬ (k : Int) < (n : Int) := by omega
      have hall : l.all seenOk = true := by
        rw [List.all_eq_true]
        intro x hx
        obtain ⟨j, hj, rfl⟩ := List.mem_iff_getElem.1 hx
        exact Hall.out j hj (by rw [Hn.out] at hj; omega)
      by_cases h8 : n = 8
      · have Hr := Lib.hid (show knowsR l = true by unfold knowsR; rw [hall, Hn.out, h8]; rfl)
        have hI : (n : Int) = 8 := by omega
        have hB : ((n : Int) == 8) = true := by simpa using hI
        clear hall
        go_wp2_with fail
        go_ret
        exact ⟨by rw [Hr.out]; first | done | rfl | simp, rfl⟩
      · have Hr := Lib.hid (show knowsR l = false by unfold knowsR; rw [Hn.out]; simp [h8])
        have hI : ¬ (n : Int) = 8 := by omega
        have hB : ((n : Int) == 8) = false := by simpa using hI
        clear hall
        go_wp2_with fail
        go_ret
        exact ⟨by rw [Hr.out]; first | done | rfl | simp, rfl⟩
theorem bnd_sinceR {m : RMap} (h : Bnd m) (s : List Int) : Bnd (sinceF m s) := ⟨h.seenB, fun x hx => h.itemsB x (List.mem_filter.1 hx).1, h.goneB⟩
theorem take_filterS (p : RIt → Bool) (l : List RIt) (k : Nat) (h : k < l.length) : (l.take (k + 1)).filter p = (l.take k).filter p ++ (if p l[k] then [l[k]] else []) := by
  rw [List.take_succ_eq_append_getElem h, List.filter_append]
  congr 1
  by_cases hp : p l[k] = true
  · rw [if_pos hp, List.filter_cons, if_pos hp]; rfl
  · rw [if_neg hp, List.filter_cons, if_neg hp]; rfl
theorem flat_snocS (kp : List RIt) (x : RIt) : (kp ++ [x]).flatMap encIt = kp.flatMap encIt ++ encIt x := by simp
structure RSt (w2 W : World) (O : Nat) (s1 s2 s3 : Value) (m : RMap) (kp : List RIt) : Prop where
  box : Blk W O [s1, s2, s3] 26
  seen : W.ownsRow w2.heap.size 3 1 s1 m.seen.length (m.seen.map eI)
  items : W.ownsRow (O + 1) 92 4 s2 kp.length (kp.flatMap encIt)
  gone : W.ownsRow w2.heap.size 94 3 s3 m.gone.length (m.gone.flatMap encGo)
  bel : Below w2.heap.size w2 W
  low : w2.heap.size ≤ O
theorem RSt.below {w2 W W' : World} {O : Nat} {s1 s2 s3 : Value} {m : RMap} {kp : List RIt} (h : RSt w2 W O s1 s2 s3 m kp) (hb : Below W.heap.size W W') : RSt w2 W' O s1 s2 s3 m kp :=
  ⟨h.box.keep (hb.block _ h.box.lt), own_below h.seen hb, own_below h.items hb, own_below h.gone hb, h.bel.trans (hb.mono h.bel.size), h.low⟩
set_option maxRecDepth 100000 in
set_option maxHeartbeats 6000000 in
theorem rsince_any (w : World) (F G : Blks) (v : Value) (m : RMap) (h : MapV F w v m) (hki : ∀ x ∈ m.items, x.key.length ≤ 1000000000) (hkg : ∀ x ∈ m.gone, x.key.length ≤ 1000000000) (sv : Value) (s : List Int) (hs : Rows G w 1 sv s.length (s.map eI)) :
    Calls Tryz.prog 15 #[v, sv] w (RPost w (sinceR m s)) := by
  replace h := h.mono (G := fun q => q < w.heap.size) fun q _ hlt => hlt
  replace hs := hs.mono (G := fun q => q < w.heap.size) fun q _ hlt => hlt
  obtain ⟨s1, s2, s3, rfl, h⟩ := h
  obtain ⟨a1, p1, rfl, -⟩ := h.seen.shape
  obtain ⟨a2, p2, rfl, -⟩ := h.items.shape
  obtain ⟨a3, p3, rfl, -⟩ := h.gone.shape
  obtain ⟨wx, hwx⟩ : ∃ wx, wx = w.alloc (.cells #[.slice a1 m.seen.length p1, .slice a2 m.items.length p2, .slice a3 m.gone.length p3] 26) := ⟨_, rfl⟩
  have hbx : Below w.heap.size w wx := by rw [hwx]; exact kept_alloc _ _
  have hzx : wx.heap.size = w.heap.size + 1 := by rw [hwx]; simp
  have hx := h.keep (w' := wx) fun b _ hlt => hbx.block b hlt
  have hnx : Blk wx w.heap.size [.slice a1 m.seen.length p1, .slice a2 m.items.length p2, .slice a3 m.gone.length p3] 26 := by rw [hwx]; exact Blk.new _ _ _
  have Hx := Lib.hid hx
  have Hwx := Lib.hid hwx; have Hbx := Lib.hid hbx; have Hzx := Lib.hid hzx
  have Hnx := Lib.hid hnx
  clear hx hwx hbx hnx hzx h
  obtain ⟨al, cl, rfl, -⟩ := hs.shape
  obtain ⟨w2, hw2⟩ : ∃ w2, w2 = wx.alloc (.cells #[.slice none 0 0, .slice none 0 0, .slice none 0 0] 26) := ⟨_, rfl⟩
  have hb2 : Below w.heap.size w w2 := by rw [hw2]; exact Hbx.out.alloc Hbx.out.size _
  have hz2 : w2.heap.size = w.heap.size + 2 := by rw [hw2]; simp [Hzx.out]
  have k1 : Blk w2 w.heap.size [.slice a1 m.seen.length p1, .slice a2 m.items.length p2, .slice a3 m.gone.length p3] 26 := by rw [hw2]; exact Hnx.out.alloc _
  have k2 : Blk w2 (w.heap.size + 1) [.slice none 0 0, .slice none 0 0, .slice none 0 0] 26 := by
    have := Blk.new wx #[.slice none 0 0, .slice none 0 0, .slice none 0 0] 26
    rw [hw2, ← Hzx.out]; exact this
  have hMx := Hx.out
  have HR := Lib.hid (show ∀ W, Below w2.heap.size w2 W → Below w.heap.size w W ∧ Blk W w.heap.size [.slice a1 m.seen.length p1, .slice a2 m.items.length p2, .slice a3 m.gone.length p3] 26 ∧ Blk W (w.heap.size + 1) [.slice none 0 0, .slice none 0 0, .slice none 0 0] 26 ∧ MapIn (fun b => b < w.heap.size) W (.slice a1 m.seen.length p1) (.slice a2 m.items.length p2) (.slice a3 m.gone.length p3) m ∧ Rows (fun b => b < w.heap.size) W 1 (.slice al s.length cl) s.length (s.map eI) from fun W hb => by
    have hB : Below w.heap.size w W := hb2.trans (hb.mono (by omega))
    exact ⟨hB, k1.keep (hb.block _ k1.lt), k2.keep (hb.block _ k2.lt), hMx.keep (w' := W) fun b hlt _ => (hB.block b hlt).trans (Hbx.out.block b hlt).symm, hs.keep (w' := W) fun b hlt _ => hB.block b hlt⟩)
  have HV := Lib.hid (rvalid2_any w2 _ (.agg #[.slice a1 m.seen.length p1, .slice a2 m.items.length p2, .slice a3 m.gone.length p3]) m ⟨_, _, _, rfl, (HR.out w2 (Below.refl _ _)).2.2.2.1⟩ hki hkg)
  obtain ⟨ok, hok⟩ : ∃ ok, validR m = ok := ⟨_, rfl⟩
  rw [hok] at HV
  obtain ⟨c0, c1, c2⟩ := cell3 k1
  have Hw2 := Lib.hid hw2; have Hz2 := Lib.hid hz2; have Hok := Lib.hid hok; have Hbn := Lib.hid hMx.bnd
  clear hw2 hb2 hz2 k1 k2 hs hok hMx hki hkg
  go_enter Tryz.func15, Tryz.ntmps15
  go_wp2_with fail
  rw [← Hwx.out, ← Hw2.out]
  refine HV.out.mono ?_
  rintro e w3 ⟨rfl, hb3⟩
  clear HV c0 c1 c2
  cases ok with
  | false =>
    have Hu := Lib.hid (show sinceR m s = (.empty, 5) by unfold sinceR; rw [Hok.out]; rfl)
    have kr := (HR.out w3 hb3).2.2.1
    have hbel := (HR.out w3 hb3).1
    clear hb3
    obtain ⟨wf, hwf, hblk, hbf⟩ := fin3 kr hbel (by omega) (.slice none 0 0) (.slice none 0 0) (.slice none 0 0)
    obtain ⟨y0, y1, y2⟩ := cell3 kr
    have z0 := kr.free 0
    have z1 := kr.free 1
    have z2 := kr.free 2
    have Q := Lib.hid (cell3 hblk)
    have Hbf := Lib.hid hbf; have Hwf := Lib.hid hwf
    clear hwf hblk hbf
    go_wp2_with fail
    rw [← Hwf.out]
    obtain ⟨q0, q1, q2⟩ := Q.out
    exact bodyPost_ret (v := .tuple #[.agg #[.slice none 0 0, .slice none 0 0, .slice none 0 0], .int .i64 5]) (by simp [results, Tryz.results15, go_sem, q0, q1, q2]) rfl ⟨_, by rw [Hu.out], by rw [Hu.out]; exact mapV_empty _ _, Hbf.out⟩
  | true =>
    have HK := Lib.hid (rknow_any w3 _ _ s (HR.out w3 hb3).2.2.2.2)
    obtain ⟨kv, hkv⟩ : ∃ kv, knowsR s = kv := ⟨_, rfl⟩
    rw [hkv] at HK
    have Hkv := Lib.hid hkv
    have HL3 := Lib.hid hb3
    clear hkv hb3
    go_wp2_with fail
    refine HK.out.mono ?_
    rintro e w4 ⟨rfl, rfl⟩
    clear HK
    cases kv with
    | false =>
      have Hu := Lib.hid (show sinceR m s = (.empty, 5) by unfold sinceR; rw [Hkv.out, Bool.and_false]; rfl)
      have kr := (HR.out w4 HL3.out).2.2.1
      have hbel := (HR.out w4 HL3.out).1
      obtain ⟨wf, hwf, hblk, hbf⟩ := fin3 kr hbel (by omega) (.slice none 0 0) (.slice none 0 0) (.slice none 0 0)
      obtain ⟨y0, y1, y2⟩ := cell3 kr
      have z0 := kr.free 0
      have z1 := kr.free 1
      have z2 := kr.free 2
      have Q := Lib.hid (cell3 hblk)
      have Hbf := Lib.hid hbf; have Hwf := Lib.hid hwf
      clear hwf hblk hbf
      go_wp2_with fail
      rw [← Hwf.out]
      obtain ⟨q0, q1, q2⟩ := Q.out
      exact bodyPost_ret (v := .tuple #[.agg #[.slice none 0 0, .slice none 0 0, .slice none 0 0], .int .i64 5]) (by simp [results, Tryz.results15, go_sem, q0, q1, q2]) rfl ⟨_, by rw [Hu.out], by rw [Hu.out]; exact mapV_empty _ _, Hbf.out⟩
    | true =>
      have Hu := Lib.hid (show sinceR m s = (sinceF m s, 0) by unfold sinceR; rw [Hok.out, Hkv.out]; rfl)
      have f := valid_formed Hok.out
      have hkn := (knows_iff s).1 Hkv.out
      have Hvl := Lib.hid (valid_lens Hok.out)
      have hlen : m.items.length ≤ 4096 := Hvl.out.2.1
      have hdev : ∀ x ∈ m.items, 0 ≤ x.dev ∧ x.dev < (s.length : Int) := fun x hx => by
        have := known_seq (f.iknown x hx)
        have h1 : x.pl.2 = x.dev := rfl
        rw [h1, f.len] at this
        rw [hkn.len]
        exact ⟨this.1, this.2.1⟩
      obtain ⟨c0, c1, c2⟩ := cell3 (HR.out w4 HL3.out).2.1
      have HC := Lib.hid (rcopy_any w4 _ (.agg #[.slice a1 m.seen.length p1, .slice a2 m.items.length p2, .slice a3 m.gone.length p3]) m ⟨_, _, _, rfl, (HR.out w4 HL3.out).2.2.2.1⟩ (by have := Hvl.out; omega) (by have := Hvl.out; omega) (by have := Hvl.out; omega))
      have Hdev := Lib.hid hdev
      clear hdev f hkn
      go_wp2_with fail
      refine HC.out.mono ?_
      rintro e w5 ⟨⟨s1, s2, s3, rfl, ho⟩, hb5⟩
      obtain ⟨b1, e1, rfl⟩ := own_shape ho.seen
      obtain ⟨b2, e2, rfl⟩ := own_shape ho.items
      obtain ⟨b3, e3, rfl⟩ := own_shape ho.gone
      have hL5 : Below w2.heap.size w2 w5 := HL3.out.trans (hb5.mono HL3.out.size)
      obtain ⟨O, hO⟩ : ∃ O, w5.heap.size = O := ⟨_, rfl⟩
      obtain ⟨w6, hw6⟩ : ∃ w6, w6 = w5.alloc (.cells #[.slice b1 m.seen.length e1, .slice none 0 0, .slice b3 m.gone.length e3] 26) := ⟨_, rfl⟩
      have hk6 : Below w5.heap.size w5 w6 := by rw [hw6]; exact kept_alloc _ _
      have hs4 : w2.heap.size ≤ w4.heap.size := HL3.out.size
      have hst : RSt w2 w6 O (.slice b1 m.seen.length e1) (.slice none 0 0) (.slice b3 m.gone.length e3) m [] := ⟨by rw [hw6, ← hO]; exact Blk.new _ _ _, own_base (own_below ho.seen hk6) hs4, World.ownsRow_nil _ _ _ _, own_base (own_below ho.gone hk6) hs4, hL5.trans (hk6.mono hL5.size), by rw [← hO]; exact hL5.size⟩
      have Hst := Lib.hid hst; have Hw6 := Lib.hid hw6
      clear hst hw6 hk6 hs4 hL5 ho hb5 HC c0 c1 c2
      go_wp2_with fail
      try rw [hO]
      rw [← Hw6.out]
      clear hO Hw6
      go_loopw [7] (fun i wr => ∃ k : Nat, k ≤ m.items.length ∧ i = .int .i64 (k : Int) ∧ ∃ ai ci, RSt w2 wr O (.slice b1 m.seen.length e1) (.slice ai ((m.items.take k).filter fun x => !seqIn s x).length ci) (.slice b3 m.gone.length e3) m ((m.items.take k).filter fun x => !seqIn s x)) (fun i _ => m.items.length - (intOf i).toNat)
      case atStart => exact ⟨0, by omega, rfl, none, 0, Hst.out⟩
      case round =>
        obtain ⟨k, hk, rfl, ai, ci, hst⟩ := hrel
        obtain ⟨kp, hkp⟩ : ∃ kp, ((m.items.take k).filter fun x => !seqIn s x) = kp := ⟨_, rfl⟩
        rw [hkp] at hst
        obtain ⟨hbel, kA, kr, hMm, hSs⟩ := HR.out wr hst.bel
        obtain ⟨c0, c1, c2⟩ := cell3 kA
        by_cases hkn : k < m.items.length
        · have hkI : (k : Int) < (m.items.length : Int) := by omega
          obtain ⟨bi, oi, rfl, hbi, hbil, hic⟩ := it_cell hMm.items (by omega)
          obtain ⟨x0, x1, x2, x3⟩ := hic k hkn
          have hf := take_filterS (fun x => !seqIn s x) m.items k hkn
          rw [hkp] at hf
          have hkl : kp.length ≤ k := by
            rw [← hkp]
            exact Nat.le_trans (List.length_filter_le _ _) (by simp; omega)
          have hxm := Hdev.out m.items[k] (List.getElem_mem hkn)
          obtain ⟨it, hit⟩ : ∃ it, m.items[k] = it := ⟨_, rfl⟩
          rw [hit] at x0 x1 x2 x3 hf hxm
          obtain ⟨xk, xd, xs, xv⟩ := it
          dsimp only at x0 x1 x2 x3 hxm
          obtain ⟨q, rfl⟩ := Int.eq_ofNat_of_zero_le hxm.1
          have hqs : q < s.length := by omega
          have hqI : (q : Int) < (s.length : Int) := by omega
          obtain ⟨bs, os, rfl, -, -, hsc⟩ := int_cell hSs (by omega)
          have e0 := hsc q hqs
          obtain ⟨y, hy⟩ : ∃ y, s[q] = y := ⟨_, rfl⟩
          rw [hy] at e0
          have hsq : seqIn s ⟨xk, (q : Int), xs, xv⟩ = decide (xs ≤ y) := by
            unfold seqIn
            dsimp only
            rw [Int.toNat_natCast, List.getD_eq_getElem?_getD, List.getElem?_eq_getElem hqs, hy]
            rfl
          rw [hsq] at hf
          have Hf := Lib.hid hf; have Hkp := Lib.hid hkp; have Hkl := Lib.hid hkl
          by_cases hgt : xs > y
          · have hgt' : y < xs := hgt
            have hle : ¬ xs ≤ y := by omega
            have hf2 := Hf.out
            rw [decide_eq_false hle] at hf2
            have Hf2 := Lib.hid (show ((m.items.take (k + 1)).filter fun x => !seqIn s x) = kp ++ [⟨xk, (q : Int), xs, xv⟩] from hf2)
            have Hst := Lib.hid hst
            have hOw : O < wr.heap.size := hst.box.lt
            have hOl : w.heap.size + 2 ≤ O := by have := hst.low; have := Hz2.out; omega
            clear hsc hy hsq hic hit hf hkp hkl hMm hSs kA kr hxm hf2 hle hst
            go_wp2_with fail
            go_quiet (fail)
            -- the item is kept
            obtain ⟨wd, hwd⟩ : ∃ wd, wd = wr.drewN nq := ⟨_, rfl⟩
            rw [← hwd]
            have hsd := Hst.out.below (W' := wd) (by rw [hwd]; exact kept_drewN (Below.refl _ _) _)
            have hzd : wd.heap.size = wr.heap.size := by rw [hwd]; rfl
            have hcd : ∀ a u, wr.cell? a = some u → wd.cell? a = some u := fun a u h => by rw [hwd]; exact h
            replace x0 := hcd _ _ x0
            replace x1 := hcd _ _ x1
            replace x2 := hcd _ _ x2
            replace x3 := hcd _ _ x3
            replace c1 := hcd _ _ c1
            clear hcd c0 c2 e0
            obtain ⟨i0, t1, t2, t3, t4⟩ := info_parts infoItR
            obtain ⟨v5, w9, hr5, hown5, hg5⟩ := run_append_one (P := Tryz.prog) wd.drew (O + 1) 23 92 Tryz.underlying23 t1 t2 t3 t4 rfl (by decide) (.slice ai kp.length ci) kp.length _ (own_below hsd.items ((Below.refl wd.heap.size wd).drew)) #[.string ⟨xk.toArray⟩, .int .i64 (q : Int), .int .i64 xs, .int .i64 xv] rfl (by simp [Value.oneCell']) (by have := Hvl.out; have := Hkl.out; unfold maxLen; omega) (by have := Hvl.out; have := Hkl.out; omega) (by show O + 1 ≤ wd.heap.size; omega)
            obtain ⟨a9, c9, rfl⟩ := own_shape hown5
            obtain ⟨wz, hwz⟩ : ∃ wz, wz = wd.drew.alloc (.cells #[.string ⟨xk.toArray⟩, .int .i64 (q : Int), .int .i64 xs, .int .i64 xv] 92) := ⟨_, rfl⟩
            have hbz : Below wd.heap.size wd wz := by rw [hwz]; exact (Below.refl wd.heap.size wd).drew.trans (kept_alloc wd.drew _)
            have stA := hsd.below hbz
            rw [← hwz] at hr5 hg5
            have k1 : LaterF (fun q => O + 1 ≤ q) wd.drew wz := by rw [hwz]; exact LaterF.of_below (kept_alloc _ _)
            have k2 : LaterF (fun q => O + 1 ≤ q) wz w9 := ⟨hg5.os, hg5.tape, hg5.output, hg5.size, fun q hq hn => hg5.block q hq (fun e => hn (stA.items.lt q e.symm).1)⟩
            have kO9 := stA.box.grownNe stA.items (by decide) hg5
            have hb9 : Below w2.heap.size w2 w9 := stA.bel.trans (Below.grownOwn stA.items hg5 stA.bel.size (by have := stA.low; omega))
            obtain ⟨w10, hw10⟩ : ∃ w10, w10 = w9.setCell ⟨O, 1, none⟩ (.slice a9 (kp.length + 1) c9) := ⟨_, rfl⟩
            have hst10 : RSt w2 w10 O (.slice b1 m.seen.length e1) (.slice a9 ((m.items.take (k + 1)).filter fun x => !seqIn s x).length c9) (.slice b3 m.gone.length e3) m ((m.items.take (k + 1)).filter fun x => !seqIn s x) := by
              rw [Hf2.out, hw10]
              refine ⟨?_, own_setCell (own_grownNe stA.seen stA.items (by decide) hg5) kO9 (by decide) _, ?_, own_setCell (own_grownNe stA.gone stA.items (by decide) hg5) kO9 (by decide) _, hb9.setCell (p := ⟨O, 1, none⟩) stA.low _, stA.low⟩
              · rw [List.length_append]; exact kO9.set 1 _
              · rw [List.length_append, flat_snocS]
                exact own_setCell hown5 kO9 (by decide) _
            have pz : ∀ a u, wd.cell? a = some u → a.block < O + 1 → ∀ w', LaterF (fun q => O + 1 ≤ q) wd.drew w' → w'.cell? a = some u := fun a u h hlt w' hh => by
              have hb : w'.heap[a.block]? = wd.heap[a.block]? := hh.block a.block (by show a.block < wd.heap.size; omega) (by show ¬ O + 1 ≤ a.block; omega)
              unfold World.cell? at *
              rw [hb]; exact h
            have hbiO : bi < O + 1 := by have : bi < w.heap.size := hbi; omega
            have px0 := pz _ _ x0 hbiO
            have px1 := pz _ _ x1 hbiO
            have px2 := pz _ _ x2 hbiO
            have px3 := pz _ _ x3 hbiO
            have pm1 := pz _ _ c1 (by show w.heap.size < O + 1; omega)
            have po1 := pz ⟨O, 1, none⟩ _ (cell3 hsd.box).2.1 (by show O < O + 1; omega)
            have hr5' : (AP #[23, 23] 23 #[.slice ai kp.length ci, .slice (some ⟨wd.heap.size, 0, none⟩) 1 1]).run Tryz.prog wz = .ok (.slice a9 (kp.length + 1) c9) w9 := hr5
            obtain ⟨o0, o1, o2⟩ := cell3 kO9
            have fo1 := kO9.free 1
            have Hwz := Lib.hid hwz; have Hw10 := Lib.hid hw10; have Hst10 := Lib.hid hst10
            clear t1 t2 t3 t4 hown5 hg5 hsd hbz stA kO9 hb9 hw10 hst10 pz hwz hr5 hwd hzd x0 x1 x2 x3 c1 hgt hgt' hOw hOl hbiO
            go_wp2_with fail
            refine wp_region_canL (LaterF (fun q => O + 1 ≤ q)) 10 [(0, true), (1, true), (2, true), (3, true), (4, true), (5, true), (6, true), (7, false), (8, false), (9, true), (10, false)] (by kernel_rfl) (by kernel_rfl) (by kernel_rfl) (laterF_refl _) (laterF_trans _) ?_
            repeat (refine canL_yes (v := ?_) rfl (wanted_none rfl) (fun w' hC => ?_) (fun K hK => ?_); rotate_left; (focus (go_simp; (try simp (disch := omega) only [IntWalk.i64_in]); (try simp (disch := omega) only [IntWalk.u32_in]); (try simp (disch := omega) only [IntWalk.u8_in]); (try simp (disch := omega) only [IntWalk.i64_quo]); (try simp (disch := omega) only [IntWalk.rem_in]); first | done | exact rfl)); go_simp; (try simp (disch := omega) only [IntWalk.i64_in]); (try simp (disch := omega) only [IntWalk.u32_in]); (try simp (disch := omega) only [IntWalk.u8_in]); (try simp (disch := omega) only [IntWalk.i64_quo]); (try simp (disch := omega) only [IntWalk.rem_in]); refine hK _ ?_; clear hK K)
            refine canL_go rfl rfl (fun KK hK => ?_)
            go_simp
            rw [show (wd.alloc (.cells #[.string ⟨xk.toArray⟩, .int .i64 (q : Int), .int .i64 xs, .int .i64 xv] 92)).drew = wz from Hwz.out.symm]
            first | refine ⟨k1, hK _ _ ?_⟩ | refine hK _ _ ?_
            clear hK KK
            go_simp
            refine canL_go rfl rfl (fun KK hK => ?_)
            go_simp
            first | refine ⟨k2, hK _ _ ?_⟩ | refine hK _ _ ?_
            clear hK KK px0 px1 px2 px3 pm1 po1 k1 k2 hr5'
            go_simp
            repeat (refine canL_yes (v := ?_) rfl (wanted_none rfl) (fun w' hC => ?_) (fun K hK => ?_); rotate_left; (focus (go_simp; (try simp (disch := omega) only [IntWalk.i64_in]); (try simp (disch := omega) only [IntWalk.u32_in]); (try simp (disch := omega) only [IntWalk.u8_in]); (try simp (disch := omega) only [IntWalk.i64_quo]); (try simp (disch := omega) only [IntWalk.rem_in]); first | done | exact rfl)); go_simp; (try simp (disch := omega) only [IntWalk.i64_in]); (try simp (disch := omega) only [IntWalk.u32_in]); (try simp (disch := omega) only [IntWalk.u8_in]); (try simp (disch := omega) only [IntWalk.i64_quo]); (try simp (disch := omega) only [IntWalk.rem_in]); refine hK _ ?_; clear hK K)
            refine canL_last rfl rfl rfl (fun KK hK => ?_)
            go_simp
            refine hK _ _ ?_
            clear hK KK
            go_simp
            refine canL_nil ?_
            rw [← Hw10.out]
            clear o0 o1 o2 fo1
            go_wp2_with fail
            go_roundw
            case rel => exact ⟨k + 1, by omega, by go_num, _, _, Hst10.out⟩
            case measure => simp [intOf]; omega
          · have hle : xs ≤ y := by omega
            have hgt' : ¬ y < xs := hgt
            have hf2 := Hf.out
            rw [decide_eq_true hle] at hf2
            have Hst10 := Lib.hid (show ∀ nn, RSt w2 (wr.drewN nn) O (.slice b1 m.seen.length e1) (.slice ai ((m.items.take (k + 1)).filter fun x => !seqIn s x).length ci) (.slice b3 m.gone.length e3) m ((m.items.take (k + 1)).filter fun x => !seqIn s x) from fun nn => by
              have e : ((m.items.take (k + 1)).filter fun x => !seqIn s x) = kp := by rw [hf2]; simp
              rw [e]
              exact hst.below (kept_drewN (Below.refl _ _) _))
            clear hsc hy hsq hic hit hf hkp hkl hMm hSs kA kr hxm hf2 hle hst
            go_wp2_with fail
            go_quiet (fail)
            go_wp2_with fail
            go_roundw
            case rel => exact ⟨k + 1, by omega, by go_num, _, _, Hst10.out _⟩
            case measure => simp [intOf]; omega
        · have hkI : ¬ (k : Int) < (m.items.length : Int) := by omega
          have hke : kp = m.items.filter fun x => !seqIn s x := by rw [← hkp, show k = m.items.length by omega, List.take_length]
          try rw [hkp]
          obtain ⟨o0, o1, o2⟩ := cell3 hst.box
          have hin : RefIn wr w.heap.size (.slice b1 m.seen.length e1) (.slice ai kp.length ci) (.slice b3 m.gone.length e3) (sinceF m s) := by
            have hz := Hz2.out
            have hlow := hst.low
            refine ⟨own_base hst.seen (by omega), ?_, own_base hst.gone (by omega)⟩
            show wr.ownsRow w.heap.size _ 4 _ (m.items.filter fun x => !seqIn s x).length ((m.items.filter fun x => !seqIn s x).flatMap encIt)
            rw [← hke]
            exact own_base hst.items (by omega)
          obtain ⟨wf, hwf, hblk, hbf⟩ := fin3 kr hbel (by omega) (.slice b1 m.seen.length e1) (.slice ai kp.length ci) (.slice b3 m.gone.length e3)
          obtain ⟨y0, y1, y2⟩ := cell3 kr
          have z0 := kr.free 0
          have z1 := kr.free 1
          have z2 := kr.free 2
          have Q := Lib.hid (cell3 hblk)
          have Hof := Lib.hid (show RefIn wf w.heap.size (.slice b1 m.seen.length e1) (.slice ai kp.length ci) (.slice b3 m.gone.length e3) (sinceF m s) by
            rw [hwf]
            exact ((hin.setCell kr _).setCell (kr.set 0 _) _).setCell ((kr.set 0 _).set 1 _) _)
          have Hbf := Lib.hid hbf; have Hwf := Lib.hid hwf
          clear hwf hblk hbf kr hbel hin hst hke hkp kA hMm hSs
          go_wp2_with fail
          rw [← Hwf.out]
          obtain ⟨q0, q1, q2⟩ := Q.out
          exact bodyPost_ret (v := .tuple #[.agg #[.slice b1 m.seen.length e1, .slice ai kp.length ci, .slice b3 m.gone.length e3], .int .i64 0]) (by simp [results, Tryz.results15, go_sem, q0, q1, q2]) rfl ⟨_, by rw [Hu.out], by rw [Hu.out]; exact ⟨_, _, _, rfl, Hof.out.map (bnd_sinceR Hbn.out s)⟩, Hbf.out⟩
end Go.Proofs.YtkkacnfpdafadaaGreatDoor
