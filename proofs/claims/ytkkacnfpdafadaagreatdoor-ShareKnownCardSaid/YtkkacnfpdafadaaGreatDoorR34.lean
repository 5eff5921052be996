/-
  SDecode
-/
import Derived.Test.YtkkacnfpdafadaaGreatDoorR29
import Derived.Test.YtkkacnfpdafadaaGreatDoorR33
namespace Go.Proofs.YtkkacnfpdafadaaGreatDoor
open Go.RowKit Go.Lib
set_option linter.unusedVariables false
set_option maxRecDepth 20000
attribute [local go_sem] opC upC

theorem seenL_pre : ∀ (n : Nat) (l l' : List Int) (s : RdSt), seenL n (l ++ l', s) = (l ++ (seenL n (l', s)).1, (seenL n (l', s)).2)
  | 0, l, l', s => rfl
  | n + 1, l, l', s => by
    rw [seenL, seenL]
    dsimp only
    rw [List.append_assoc, seenL_pre n l]
theorem sdecN_eq (b : List UInt8) : sdecN b = ((numS (some b)).1 :: (seenL 8 ([], (numS (some b)).2)).1, (seenL 8 ([], (numS (some b)).2)).2) := by
  unfold sdecN
  rw [seenL]
  dsimp only
  have := seenL_pre 8 [(numS (some b)).1] [] (numS (some b)).2
  rw [List.append_nil] at this
  rw [List.nil_append, this]
  rfl
def SDPost (w : World) (b : List UInt8) (e : Ending) (w' : World) : Prop := ∃ r, e = .returned (.tuple #[r, .int .i64 (sdecR b).2]) ∧ MsgV (fun q => w.heap.size ≤ q) w' r (sdecR b).1 ∧ Below w.heap.size w w'
theorem decR_keys (b : List UInt8) : (∀ x ∈ (decR b).1.items, x.key.length ≤ 1000000) ∧ ∀ x ∈ (decR b).1.gone, x.key.length ≤ 1000000 := by
  rcases decR_or b with h | h
  · have hv := valid_nums (decR_ok h).1
    exact ⟨fun x hx => by have := (hv.2.1 x hx).1; omega, fun x hx => by have := (hv.2.2 x hx).1; omega⟩
  · rw [h]; exact ⟨nofun, nofun⟩
theorem Bytes.inside {F : Blks} {w : World} {v : Value} {l : List UInt8} (h : Bytes F w v l) : Bytes (fun q => q < w.heap.size) w v l := by
  obtain ⟨a, c, e, h1, h2, h3, h4⟩ := h
  refine ⟨a, c, e, h1, h2, h3, ?_⟩
  rcases h4 with h4 | ⟨b, off, L, t, fz, e2, -, hb, h5⟩
  · exact .inl h4
  · exact .inr ⟨b, off, L, t, fz, e2, lt_of_block hb, hb, h5⟩
set_option maxRecDepth 100000 in
set_option maxHeartbeats 8000000 in
theorem sdecode_any (w : World) (hT : Tabs w) (h3 : 3 ≤ w.heap.size) (F : Blks) (av : Option Addr) (cap : Nat) (b : List UInt8) (hB : Bytes F w (.slice av b.length cap) b) (hl : b.length ≤ 400000) :
    Calls Tryz.prog 32 #[.slice av b.length cap] w (SDPost w b) := by
  replace hB := hB.inside
  have HTb := Lib.hid (show ∀ w', Below w.heap.size w w' → Tabs w' ∧ 3 ≤ w'.heap.size from fun w' hb => ⟨tabs_below hT h3 hb, Nat.le_trans h3 hb.size⟩)
  obtain ⟨w2, hw2⟩ : ∃ w2, w2 = (w.alloc (.cells #[.int .i64 0, .slice none 0 0, .slice none 0 0, .slice none 0 0, .slice none 0 0] 39)).alloc (.cells #[.slice av b.length cap, .bool true] 127) := ⟨_, rfl⟩
  have hz2 : w2.heap.size = w.heap.size + 1 + 1 := by rw [hw2]; simp
  have hb2 : Below w.heap.size w w2 := by rw [hw2]; exact ((Below.refl w.heap.size w).alloc (Nat.le_refl _) _).alloc (by simp) _
  have kr2 : Blk w2 w.heap.size [.int .i64 0, .slice none 0 0, .slice none 0 0, .slice none 0 0, .slice none 0 0] 39 := by rw [hw2]; exact (Blk.new w #[.int .i64 0, .slice none 0 0, .slice none 0 0, .slice none 0 0, .slice none 0 0] _).alloc _
  have hRd2 : SRdAt w2 (w.heap.size + 1) (fun q => q < w.heap.size) b.length (some b) := by
    have k : Blk w2 (w.heap.size + 1) [.slice av b.length cap, .bool true] 127 := by
      have := Blk.new (w.alloc (.cells #[.int .i64 0, .slice none 0 0, .slice none 0 0, .slice none 0 0, .slice none 0 0] 39)) #[.slice av b.length cap, .bool true] 127
      rw [← hw2] at this
      simpa using this
    exact ⟨true, b, av, cap, k, hB.keep fun q hq _ => hb2.block q hq, Nat.le_refl _, rfl⟩
  have HF := Lib.hid (show ∀ W : World, w2.heap.size ≤ W.heap.size → ∀ q, q < w.heap.size → q < W.heap.size ∧ q ≠ w.heap.size + 1 from fun W hW q hq => by omega)
  have HN := Lib.hid (snext_any w2 (w.heap.size + 1) _ b.length (some b) hRd2 (HF.out w2 (Nat.le_refl _)))
  obtain ⟨x0, hx0⟩ : ∃ x, (numS (some b)).1 = x := ⟨_, rfl⟩
  obtain ⟨s1, hs1⟩ : ∃ x, (numS (some b)).2 = x := ⟨_, rfl⟩
  rw [hx0, hs1] at HN
  have Hw2 := Lib.hid hw2; have Hz2 := Lib.hid hz2; have Hl := Lib.hid hl; have Hb2 := Lib.hid hb2; have Kr2 := Lib.hid kr2
  have Hx0 := Lib.hid hx0; have Hs1 := Lib.hid hs1
  clear hw2 hB hT hz2 hl hb2 kr2 hRd2 hx0 hs1
  go_enter Tryz.func32, Tryz.ntmps32
  go_wp2_with fail
  rw [← Hw2.out]
  refine HN.out.mono ?_
  rintro e w3 ⟨rfl, hR3, ho3⟩
  have HTm := Lib.hid (stimes_any w3 (w.heap.size + 1) _ b.length s1 hR3 (by have := ho3.size; have := Hz2.out; omega) (HF.out w3 ho3.size))
  have Ho3 := Lib.hid ho3
  clear HN hR3 ho3
  go_wp2_with fail
  refine HTm.out.mono ?_
  rintro e w4 ⟨a4, c4, rfl, hown4, hR4, ho4⟩
  obtain ⟨L, hL⟩ : ∃ L, (seenL 8 ([], s1)).1 = L := ⟨_, rfl⟩
  obtain ⟨s9, hs9⟩ : ∃ L, (seenL 8 ([], s1)).2 = L := ⟨_, rfl⟩
  rw [hL] at hown4
  rw [hs9] at hR4
  obtain ⟨ok, r, av', cap', kR4, hB4, hrl, hst⟩ := hR4
  obtain ⟨D, hD⟩ : ∃ D, decR r = D := ⟨_, rfl⟩
  have hown4' := Ho3.out.size
  have hz3 := Hz2.out
  obtain ⟨w5, hw5⟩ : ∃ w5, w5 = w4.alloc (.cells #[.int .i64 x0, .slice a4 8 c4, .slice none 0 0, .slice none 0 0, .slice none 0 0] 39) := ⟨_, rfl⟩
  have hb5 : Below w4.heap.size w4 w5 := by rw [hw5]; exact kept_alloc _ _
  have kX5 : Blk w5 w4.heap.size [.int .i64 x0, .slice a4 8 c4, .slice none 0 0, .slice none 0 0, .slice none 0 0] 39 := by rw [hw5]; exact Blk.new _ _ _
  have hb4 : Below w.heap.size w w4 := (Hb2.out.trans ((Ho3.out.below (B := w.heap.size) (fun q hq => by have hq' : q = w.heap.size + 1 := hq; omega) (by omega)))).trans (ho4.below (B := w.heap.size) (fun q hq => by have hq' : q = w.heap.size + 1 := hq; omega) (by omega))
  have kR5 := kR4.keep (hb5.block _ kR4.lt)
  have hB5 := hB4.keep (w' := w5) fun q _ hlt => hb5.block q hlt
  have HDc := Lib.hid (pdecode_any w5 (HTb.out w5 (hb4.trans (hb5.mono hb4.size))).1 (HTb.out w5 (hb4.trans (hb5.mono hb4.size))).2 _ av' cap' r hB5 (fun q hq => Nat.lt_of_lt_of_le hq (Nat.le_trans hb4.size hb5.size)) (by have := Hl.out; omega))
  unfold DPost at HDc
  rw [hD] at HDc
  have c0 := kR5.cell 0
  have c1 := kR5.cell 1
  simp only [List.getElem?_cons_zero, List.getElem?_cons_succ] at c0 c1
  rw [hw5] at c0 c1
  have Hw5 := Lib.hid hw5
  have Hb4 := Lib.hid hb4; have Hb5 := Lib.hid hb5; have KX5 := Lib.hid kX5; have KR5 := Lib.hid kR5; have Hst := Lib.hid hst; have HDe := Lib.hid hD; have HLe := Lib.hid hL; have Hs9 := Lib.hid hs9; have Hown4 := Lib.hid hown4; have Ho4 := Lib.hid ho4
  clear hw5 hb4 hb5 kX5 kR5 hst hD hL hs9 hown4 ho4 kR4 hB4 hB5 HTm hown4' hz3
  go_wp2_with fail
  rw [← Hw5.out]
  refine HDc.out.mono ?_
  rintro e w6 ⟨tv, rfl, ⟨t1, t2, t3, rfl, hmi⟩, hb6⟩
  clear c0 c1
  obtain ⟨w7, hw7⟩ : ∃ w7, w7 = w6.alloc (.cells #[t1, t2, t3] 31) := ⟨_, rfl⟩
  obtain ⟨n1, m1, rfl, -⟩ := hmi.seen.shape
  obtain ⟨n2, m2, rfl, -⟩ := hmi.items.shape
  obtain ⟨n3, m3, rfl, -⟩ := hmi.gone.shape
  have hb7 : Below w6.heap.size w6 w7 := by rw [hw7]; exact kept_alloc _ _
  have hb57 : Below w5.heap.size w5 w7 := hb6.trans (hb7.mono hb6.size)
  have kX7 := KX5.out.keep (hb57.block _ KX5.out.lt)
  obtain ⟨w8, hw8⟩ : ∃ w8, w8 = ((w7.setCell ⟨w4.heap.size, 2, none⟩ (.slice n1 D.1.seen.length m1)).setCell ⟨w4.heap.size, 3, none⟩ (.slice n2 D.1.items.length m2)).setCell ⟨w4.heap.size, 4, none⟩ (.slice n3 D.1.gone.length m3) := ⟨_, rfl⟩
  have hz5 : w5.heap.size = w4.heap.size + 1 := by rw [Hw5.out]; simp
  have kX8 : Blk w8 w4.heap.size [.int .i64 x0, .slice a4 8 c4, .slice n1 D.1.seen.length m1, .slice n2 D.1.items.length m2, .slice n3 D.1.gone.length m3] 39 := by
    rw [hw8]; exact ((kX7.set 2 _).set 3 _).set 4 _
  have hb8 : Below w4.heap.size w4 w8 := by
    rw [hw8]
    exact (((Hb5.out.trans (hb57.mono Hb5.out.size)).setCell (p := ⟨w4.heap.size, 2, none⟩) (Nat.le_refl _) _).setCell (p := ⟨w4.heap.size, 3, none⟩) (Nat.le_refl _) _).setCell (p := ⟨w4.heap.size, 4, none⟩) (Nat.le_refl _) _
  have hB8 : Below w.heap.size w w8 := Hb4.out.trans (hb8.mono Hb4.out.size)
  have hs4 : w.heap.size + 1 + 1 ≤ w3.heap.size := by have := Ho3.out.size; have := Hz2.out; omega
  have hs4' : w3.heap.size ≤ w4.heap.size := Ho4.out.size
  have kR8 : Blk w8 (w.heap.size + 1) [.slice av' r.length cap', .bool ok] 127 := by
    have k7 := KR5.out.keep (hb57.block _ KR5.out.lt)
    rw [hw8]
    exact ((k7.set_other _ (by show w.heap.size + 1 ≠ w4.heap.size; omega)).set_other _ (by show w.heap.size + 1 ≠ w4.heap.size; omega)).set_other _ (by show w.heap.size + 1 ≠ w4.heap.size; omega)
  have kr8 : Blk w8 w.heap.size [.int .i64 0, .slice none 0 0, .slice none 0 0, .slice none 0 0, .slice none 0 0] 39 := by
    have k3 := Kr2.out.keep (Ho3.out.block _ Kr2.out.lt (by show ¬ w.heap.size = w.heap.size + 1; omega))
    have k4 := k3.keep (Ho4.out.block _ k3.lt (by show ¬ w.heap.size = w.heap.size + 1; omega))
    exact k4.keep (hb8.block _ k4.lt)
  have hms : MsgIn (fun q => w.heap.size < q) w8 (.slice a4 8 c4) (.slice n1 D.1.seen.length m1) (.slice n2 D.1.items.length m2) (.slice n3 D.1.gone.length m3) ⟨x0, L, D.1⟩ := by
    have hLl : L.length = 8 := by rw [← HLe.out, seenL_len]; rfl
    refine ⟨?_, ?_, ?_, ?_⟩
    · have k := (Rows.of_owns Hown4.out).keep (w' := w8) fun q hq hlt => hb8.block q hlt
      show Rows _ _ _ _ L.length _
      rw [hLl]
      exact k.mono fun q hq _ => by have := hq.1; omega
    · have k7 := hmi.keep (w' := w7) fun q _ hlt => hb7.block q hlt
      refine MapIn.mono (k7.keep (w' := w8) fun q hq _ => ?_) fun q hq _ => by have hq' : w5.heap.size ≤ q := hq; have := Hb4.out.size; omega
      have hq' : w5.heap.size ≤ q := hq
      rw [hw8]
      have hne : q ≠ w4.heap.size := by omega
      exact (Below.heap_setCell _ _ _ _ hne).trans ((Below.heap_setCell _ _ _ _ hne).trans (Below.heap_setCell _ _ _ _ hne))
    · have := numS_bnd (some b); rw [Hx0.out] at this; unfold i64ok; dsimp only; omega
    · intro n hn
      have := seenL_bnd 8 ([], s1) nofun n (by rw [HLe.out]; exact hn)
      unfold i64ok; omega
  have hkeys := decR_keys r
  rw [HDe.out] at hkeys
  have HV := Lib.hid (svalid_any w8 (HTb.out w8 hB8).1 (HTb.out w8 hB8).2 _ (.agg #[.int .i64 x0, .slice a4 8 c4, .slice n1 D.1.seen.length m1, .slice n2 D.1.items.length m2, .slice n3 D.1.gone.length m3]) ⟨x0, L, D.1⟩ ⟨_, _, _, _, rfl, hms⟩ hkeys.1 hkeys.2)
  have hsN : sdecN b = (x0 :: L, s9) := by rw [sdecN_eq, Hx0.out, Hs1.out, HLe.out, Hs9.out]
  have hor := decR_or r
  rw [HDe.out] at hor
  have HsN := Lib.hid hsN; have Hor := Lib.hid hor; have Hms := Lib.hid hms; have HB8 := Lib.hid hB8
  have HS4 := Lib.hid (show w.heap.size < w4.heap.size by omega)
  clear hkeys hsN hor hms hB8 hb8 hs4 hs4' hz5
  have y2 := kX7.cell 2
  have y3 := kX7.cell 3
  have y4 := kX7.cell 4
  have z2 := kX7.free 2
  have z3 := kX7.free 3
  have z4 := kX7.free 4
  have c1 := kR8.cell 1
  simp only [List.getElem?_cons_zero, List.getElem?_cons_succ] at c1 y2 y3 y4
  rw [hw7] at y2 y3 y4 z2 z3 z4
  rw [hw8, hw7] at c1
  have Hw7 := Lib.hid hw7; have Hw8 := Lib.hid hw8
  have KX8 := Lib.hid kX8; have Kr8 := Lib.hid kr8
  clear hb6 hb7 hb57 kX7 kX8 kR8 kr8 hw7 hw8 hmi HDc Kr2 Ho3 Ho4 Hown4 KR5 KX5
  cases ok with
  | false =>
    have Hu := Lib.hid (show sdecR b = (.empty, 5) by unfold sdecR; rw [HsN.out, Hst.out]; rfl)
    obtain ⟨wf, hwf, hblk, hbf⟩ := fin5 Kr8.out HB8.out (Nat.le_refl _) (.int .i64 0) (.slice none 0 0) (.slice none 0 0) (.slice none 0 0) (.slice none 0 0)
    obtain ⟨q0, q1, q2, q3, q4⟩ := cell5 Kr8.out
    have f0 := Kr8.out.free 0
    have f1 := Kr8.out.free 1
    have f2 := Kr8.out.free 2
    have f3 := Kr8.out.free 3
    have f4 := Kr8.out.free 4
    try rw [Hw8.out, Hw7.out] at hwf q0 q1 q2 q3 q4 f0 f1 f2 f3 f4
    have Q := Lib.hid (cell5 hblk)
    have Hbf := Lib.hid hbf; have Hwf := Lib.hid hwf
    clear hwf hblk hbf
    go_wp2_with fail
    rw [← Hwf.out]
    obtain ⟨q0, q1, q2, q3, q4⟩ := Q.out
    exact bodyPost_ret (v := .tuple #[nilM, .int .i64 5]) (by simp [results, Tryz.results32, go_sem, q0, q1, q2, q3, q4, nilM]) rfl ⟨_, by rw [Hu.out], by rw [Hu.out]; exact (ownM_nil _ _).msg bndS_empty, Hbf.out⟩
  | true =>
    have hs9 : s9 = some r := Hst.out
    rcases Hor.out with h0 | h5
    · obtain ⟨sv, hsv⟩ : ∃ sv, svalid ⟨x0, L, D.1⟩ = sv := ⟨_, rfl⟩
      rw [hsv] at HV
      have hM : sdecM b r = ⟨x0, L, D.1⟩ := by unfold sdecM; rw [HsN.out, HDe.out]; rfl
      have Hu := Lib.hid (show sdecR b = if sv = true then (⟨x0, L, D.1⟩, 0) else (.empty, 5) by
        unfold sdecR; rw [HsN.out, hs9]; dsimp only; rw [hM, HDe.out, h0, hsv]
        cases sv
        · rw [if_neg (by simp), if_neg (by simp)]
        · rw [if_pos ⟨rfl, rfl⟩, if_pos rfl])
      obtain ⟨x0c, x1c, x2c, x3c, x4c⟩ := cell5 KX8.out
      rw [Hw8.out, Hw7.out] at x0c x1c x2c x3c x4c
      clear hM hsv hs9
      go_wp2_with fail
      rw [← Hw7.out, ← Hw8.out]
      refine HV.out.mono ?_
      rintro e w9 ⟨rfl, hb9⟩
      have HB9 := Lib.hid (HB8.out.trans (hb9.mono HB8.out.size))
      have Kr9 := Lib.hid (Kr8.out.keep (hb9.block _ Kr8.out.lt))
      have KX9 := Lib.hid (KX8.out.keep (hb9.block _ KX8.out.lt))
      have Hm9 := Lib.hid (Hms.out.keep (w' := w9) fun q _ hlt => hb9.block q hlt)
      clear hb9 HV Hms Kr8 KX8 x0c x1c x2c x3c x4c y2 y3 y4 z2 z3 z4 c1
      cases sv with
      | false =>
        have Hu := Lib.hid (show sdecR b = (.empty, 5) by rw [Hu.out]; rfl)
        obtain ⟨wf, hwf, hblk, hbf⟩ := fin5 Kr9.out HB9.out (Nat.le_refl _) (.int .i64 0) (.slice none 0 0) (.slice none 0 0) (.slice none 0 0) (.slice none 0 0)
        obtain ⟨q0, q1, q2, q3, q4⟩ := cell5 Kr9.out
        have f0 := Kr9.out.free 0
        have f1 := Kr9.out.free 1
        have f2 := Kr9.out.free 2
        have f3 := Kr9.out.free 3
        have f4 := Kr9.out.free 4
        try rw [Hw8.out, Hw7.out] at hwf q0 q1 q2 q3 q4 f0 f1 f2 f3 f4
        have Q := Lib.hid (cell5 hblk)
        have Hbf := Lib.hid hbf; have Hwf := Lib.hid hwf
        clear hwf hblk hbf
        go_wp2_with fail
        rw [← Hwf.out]
        obtain ⟨q0, q1, q2, q3, q4⟩ := Q.out
        exact bodyPost_ret (v := .tuple #[nilM, .int .i64 5]) (by simp [results, Tryz.results32, go_sem, q0, q1, q2, q3, q4, nilM]) rfl ⟨_, by rw [Hu.out], by rw [Hu.out]; exact (ownM_nil _ _).msg bndS_empty, Hbf.out⟩
      | true =>
        have Hu := Lib.hid (show sdecR b = (⟨x0, L, D.1⟩, 0) by rw [Hu.out]; rfl)
        obtain ⟨x0c, x1c, x2c, x3c, x4c⟩ := cell5 KX9.out
        obtain ⟨wf, hwf, hblk, hbf⟩ := fin5 Kr9.out HB9.out (Nat.le_refl _) (.int .i64 x0) (.slice a4 8 c4) (.slice n1 D.1.seen.length m1) (.slice n2 D.1.items.length m2) (.slice n3 D.1.gone.length m3)
        obtain ⟨q0, q1, q2, q3, q4⟩ := cell5 Kr9.out
        have f0 := Kr9.out.free 0
        have f1 := Kr9.out.free 1
        have f2 := Kr9.out.free 2
        have f3 := Kr9.out.free 3
        have f4 := Kr9.out.free 4
        have Q := Lib.hid (cell5 hblk)
        have Hbf := Lib.hid hbf; have Hwf := Lib.hid hwf
        clear hwf hblk hbf
        go_wp2_with fail
        rw [← Hwf.out]
        obtain ⟨q0, q1, q2, q3, q4⟩ := Q.out
        have hmf : MsgIn (fun q => w.heap.size ≤ q) wf (.slice a4 8 c4) (.slice n1 D.1.seen.length m1) (.slice n2 D.1.items.length m2) (.slice n3 D.1.gone.length m3) ⟨x0, L, D.1⟩ := by
          refine (Hm9.out.keep (w' := wf) fun q hq _ => ?_).mono fun q hq _ => Nat.le_of_lt hq
          have hne : q ≠ w.heap.size := by have hq' : w.heap.size < q := hq; omega
          rw [Hwf.out]
          exact (Below.heap_setCell _ _ _ _ hne).trans ((Below.heap_setCell _ _ _ _ hne).trans ((Below.heap_setCell _ _ _ _ hne).trans ((Below.heap_setCell _ _ _ _ hne).trans (Below.heap_setCell _ _ _ _ hne))))
        exact bodyPost_ret (v := .tuple #[.agg #[.int .i64 x0, .slice a4 8 c4, .slice n1 D.1.seen.length m1, .slice n2 D.1.items.length m2, .slice n3 D.1.gone.length m3], .int .i64 0]) (by simp [results, Tryz.results32, go_sem, q0, q1, q2, q3, q4]) rfl ⟨_, by rw [Hu.out]; rfl, by rw [Hu.out]; exact ⟨_, _, _, _, rfl, hmf⟩, Hbf.out⟩
    · have Hu := Lib.hid (show sdecR b = (.empty, 5) by unfold sdecR; rw [HsN.out, hs9]; dsimp only; rw [HDe.out, h5]; rfl)
      have h52 : D.2 = 5 := by rw [h5]
      clear h5 hs9
      obtain ⟨wf, hwf, hblk, hbf⟩ := fin5 Kr8.out HB8.out (Nat.le_refl _) (.int .i64 0) (.slice none 0 0) (.slice none 0 0) (.slice none 0 0) (.slice none 0 0)
      obtain ⟨q0, q1, q2, q3, q4⟩ := cell5 Kr8.out
      have f0 := Kr8.out.free 0
      have f1 := Kr8.out.free 1
      have f2 := Kr8.out.free 2
      have f3 := Kr8.out.free 3
      have f4 := Kr8.out.free 4
      try rw [Hw8.out, Hw7.out] at hwf q0 q1 q2 q3 q4 f0 f1 f2 f3 f4
      have Q := Lib.hid (cell5 hblk)
      have Hbf := Lib.hid hbf; have Hwf := Lib.hid hwf
      clear hwf hblk hbf
      go_wp2_with fail
      rw [← Hwf.out]
      obtain ⟨q0, q1, q2, q3, q4⟩ := Q.out
      exact bodyPost_ret (v := .tuple #[nilM, .int .i64 5]) (by simp [results, Tryz.results32, go_sem, q0, q1, q2, q3, q4, nilM]) rfl ⟨_, by rw [Hu.out], by rw [Hu.out]; exact (ownM_nil _ _).msg bndS_empty, Hbf.out⟩
end Go.Proofs.YtkkacnfpdafadaaGreatDoor
