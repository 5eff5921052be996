/-
  SRDec
-/
import Derived.Test.YtkkacnfpdafadaaGreatDoorQ31
import Derived.Test.YtkkacnfpdafadaaGreatDoorQ40
import Derived.Test.YtkkacnfpdafadaaGreatDoorQ43
namespace Go.Proofs.YtkkacnfpdafadaaGreatDoor
open Go.RowKit Go.Lib
set_option linter.unusedVariables false
set_option maxRecDepth 20000
attribute [local go_sem ↓] seal_append
attribute [local go_sem] opC upC

theorem seenL_add : ∀ (k m : Nat) (p : List Int × RdSt), seenL (k + m) p = seenL m (seenL k p)
  | 0, m, p => by rw [Nat.zero_add]; rfl
  | k + 1, m, p => by
    rw [show k + 1 + m = (k + m) + 1 by omega, seenL, seenL]
    exact seenL_add k m _
theorem sdecR_bad {b : List UInt8} {k : Nat} (hk : k < 9) {L : List Int} {s : RdSt} (h : seenL k ([], some b) = (L, s)) (hn : (numS s).2 = none) : sdecR b = (.empty, 5) := by
  have e : sdecN b = seenL (8 - k) (L ++ [(numS s).1], none) := by
    unfold sdecN
    rw [show 9 = k + ((8 - k) + 1) by omega, seenL_add, h, seenL]
    dsimp only
    rw [hn]
  have : (sdecN b).2 = none := by rw [e]; exact seenL_none _ _
  unfold sdecR
  rw [this]
abbrev IsBytes (w : World) (v : Value) : Prop := ∃ l : List UInt8, Bytes (fun b => b < w.heap.size) w v l
structure SF (w : World) (W : World) (L : List Int) (a : Option Addr) (c : Nat) : Prop where
  bel : Below w.heap.size w W
  res : Blk W w.heap.size [.int .i64 0, .slice none 0 0, .slice none 0 0, .slice none 0 0, .slice none 0 0] 43
  x : Blk W (w.heap.size + 1) [.int .i64 (L.headD 0), .slice a (L.length - 1) c, .slice none 0 0, .slice none 0 0, .slice none 0 0] 43
  seen : W.ownsRow (w.heap.size + 2) 3 1 (.slice a (L.length - 1) c) (L.length - 1) (L.tail.map eI)
theorem SF.keep {w W W' : World} {L : List Int} {a : Option Addr} {c : Nat} (h : SF w W L a c) (hb : Below W.heap.size W W') : SF w W' L a c :=
  ⟨h.bel.trans (hb.mono h.bel.size), h.res.keep (hb.block _ h.res.lt), h.x.keep (hb.block _ h.x.lt), own_below h.seen hb⟩
set_option maxRecDepth 100000 in
set_option maxHeartbeats 8000000 in
theorem rsdecode_any (w : World) (F : Blks) (av : Option Addr) (cap : Nat) (b : List UInt8) (hB : Bytes F w (.slice av b.length cap) b) (hl : b.length ≤ 60000) :
    Calls Tryz.prog 33 #[.slice av b.length cap] w (SDPost w b) := by
  replace hB := hB.inside
  have HB := Lib.hid (show ∀ w', Below w.heap.size w w' → Bytes (fun q => q < w.heap.size) w' (.slice av b.length cap) b from fun w' hb => hB.keep (w' := w') fun q hq _ => hb.block q hq)
  obtain ⟨w2, hw2⟩ : ∃ w2, w2 = (w.alloc (.cells #[.int .i64 0, .slice none 0 0, .slice none 0 0, .slice none 0 0, .slice none 0 0] 43)).alloc (.cells #[.int .i64 0, .slice none 0 0, .slice none 0 0, .slice none 0 0, .slice none 0 0] 43) := ⟨_, rfl⟩
  have hS2 : SF w w2 [] none 0 := by
    have k2 := Blk.new (w.alloc (.cells #[.int .i64 0, .slice none 0 0, .slice none 0 0, .slice none 0 0, .slice none 0 0] 43)) #[.int .i64 0, .slice none 0 0, .slice none 0 0, .slice none 0 0, .slice none 0 0] 43
    rw [← hw2, World.size_alloc] at k2
    refine ⟨?_, ?_, k2, World.ownsRow_nil _ _ _ _⟩
    · rw [hw2]; exact ((Below.refl w.heap.size w).alloc (Nat.le_refl _) _).alloc (by simp) _
    · rw [hw2]; exact (Blk.new w #[.int .i64 0, .slice none 0 0, .slice none 0 0, .slice none 0 0, .slice none 0 0] _).alloc _
  obtain ⟨nb, hnb⟩ : ∃ nb, b.length = nb := ⟨_, rfl⟩
  have HS2 := Lib.hid hS2; have Hw2 := Lib.hid hw2; have Hl := Lib.hid hl; have Hnb := Lib.hid hnb
  have hcl := hB.cells
  have hnc : nb ≤ cap := by rw [← hnb]; exact hcl.2.1
  have hcm : cap ≤ 9223372036854775807 := by have := hcl.2.2.1; unfold maxLen at this; omega
  clear hw2 hB hl hS2 hcl
  rw [hnb]
  clear hnb
  go_enter Tryz.func33, Tryz.ntmps33
  go_wp2_with fail
  rw [← Hw2.out]
  go_loopw [5, 6] (fun at' i wr => ∃ k m : Nat, k ≤ 9 ∧ m ≤ nb ∧ i = .int .i64 (k : Int) ∧ at' = .int .i64 (m : Int) ∧ ∃ L a c, seenL k ([], some b) = (L, some (b.drop m)) ∧ L.length = k ∧ SF w wr L a c) (fun _ i _ => 9 - (intOf i).toNat)
  case atStart => exact ⟨0, 0, by omega, by omega, rfl, rfl, [], none, 0, rfl, rfl, HS2.out⟩
  case round =>
    obtain ⟨k, m, hk, hm, rfl, rfl, L, a, c, hsl, hL, hS⟩ := hrel
    by_cases hk9 : k < 9
    · have hkI : (k : Int) ≤ 8 := by omega
      have HU := Lib.hid (refRead_any wr _ av cap b m (HB.out _ hS.bel) (by rw [Hnb.out]; exact hm))
      unfold uintV at HU
      rw [Hnb.out] at HU
      have HS := Lib.hid hS; have Hsl := Lib.hid hsl; have HL := Lib.hid hL
      clear hS hsl hL
      cases ho : rdF (b.drop m) 9 with
      | none =>
        rw [ho] at HU
        have Hu := Lib.hid (sdecR_bad hk9 Hsl.out (by unfold numS; dsimp only; rw [ho]))
        clear ho
        unfold uintVo at HU
        dsimp only at HU
        go_wp2_with fail
        refine HU.out.mono ?_
        rintro e w3 ⟨rfl, hb3⟩
        have HS3 := Lib.hid (HS.out.keep hb3)
        clear HU hb3 HS
        obtain ⟨wf, hwf, hblk, hbf⟩ := fin5 HS3.out.res HS3.out.bel (Nat.le_refl _) (.int .i64 0) (.slice none 0 0) (.slice none 0 0) (.slice none 0 0) (.slice none 0 0)
        obtain ⟨q0, q1, q2, q3, q4⟩ := cell5 HS3.out.res
        have f0 := HS3.out.res.free 0
        have f1 := HS3.out.res.free 1
        have f2 := HS3.out.res.free 2
        have f3 := HS3.out.res.free 3
        have f4 := HS3.out.res.free 4
        try rw [Hw2.out] at hwf q0 q1 q2 q3 q4 f0 f1 f2 f3 f4
        have Q := Lib.hid (cell5 hblk)
        have Hbf := Lib.hid hbf; have Hwf := Lib.hid hwf
        clear hwf hblk hbf
        go_wp2_with fail
        rw [← Hwf.out]
        obtain ⟨q0, q1, q2, q3, q4⟩ := Q.out
        exact bodyPost_ret (v := .tuple #[nilM, .int .i64 5]) (by simp [results, Tryz.results33, go_sem, q0, q1, q2, q3, q4, nilM]) rfl ⟨_, by rw [Hu.out], by rw [Hu.out]; exact (ownM_nil _ _).msg bndS_empty, Hbf.out⟩
      | some p =>
        obtain ⟨n, q⟩ := p
        rw [ho] at HU
        obtain ⟨h1, h2⟩ := rdF_drop ho
        have hrl := rd_len ho
        rw [List.length_drop, Hnb.out] at h1 h2 hrl
        obtain ⟨nx, hnx⟩ : ∃ nx, nb - q.length = nx := ⟨_, rfl⟩
        by_cases hn : n ≤ 1099511627776
        · have hnI : ¬ (1099511627776 : Int) < (n : Int) := by omega
          have hnum : numS (some (b.drop m)) = ((n : Int), some q) := by unfold numS; dsimp only; rw [ho]; dsimp only; rw [if_pos hn]
          have hq : b.drop nx = q := by
            conv => rhs; rw [h2]
            rw [List.drop_drop]
            congr 1
            omega
          have Hnext := Lib.hid (show seenL (k + 1) ([], some b) = (L ++ [(n : Int)], some (b.drop nx)) by rw [seenL_succ, Hsl.out]; dsimp only; rw [hnum, hq])
          have hnxb : nx ≤ nb := by omega
          unfold uintVo at HU
          dsimp only at HU
          rw [hnx] at HU
          clear ho h1 h2 hrl hnx hnum hq
          by_cases hk0 : k = 0
          · subst hk0
            obtain rfl : L = [] := List.length_eq_zero_iff.1 HL.out
            go_wp2_with fail
            refine HU.out.mono ?_
            rintro e w3 ⟨rfl, hb3⟩
            have hS3 := HS.out.keep hb3
            obtain ⟨c0, c1, c2, c3, c4⟩ := cell5 hS3.x
            have f0 := hS3.x.free 0
            obtain ⟨w4, hw4⟩ : ∃ w4, w4 = w3.setCell ⟨w.heap.size + 1, 0, none⟩ (.int .i64 (n : Int)) := ⟨_, rfl⟩
            have hS4 : SF w w4 [(n : Int)] a c := by
              rw [hw4]
              exact ⟨hS3.bel.setCell (p := ⟨w.heap.size + 1, 0, none⟩) (by show w.heap.size ≤ w.heap.size + 1; omega) _, hS3.res.set_other _ (by show w.heap.size ≠ w.heap.size + 1; omega), hS3.x.set 0 _, own_setCell hS3.seen hS3.x (by decide) _⟩
            have HS4 := Lib.hid hS4; have Hw4 := Lib.hid hw4
            clear HU hb3 HS hS3 hS4 hw4
            go_wp2_with fail
            rw [← Hw4.out]
            go_roundw
            case rel => exact ⟨1, nx, by omega, hnxb, rfl, rfl, [(n : Int)], a, c, Hnext.out, rfl, HS4.out⟩
            case measure => first | (simp [intOf]; done) | (simp [intOf]; omega)
          · have hkz : ¬ (k : Int) = 0 := by omega
            obtain ⟨x0, t, rfl⟩ : ∃ x0 t, L = x0 :: t := by cases L with
              | nil => have := HL.out; exact absurd this.symm hk0
              | cons x0 t => exact ⟨x0, t, rfl⟩
            obtain ⟨tl, htl⟩ : ∃ tl, t.length = tl := ⟨_, rfl⟩
            have hkt : k = tl + 1 := by rw [← htl]; exact HL.out.symm
            go_wp2_with fail
            refine HU.out.mono ?_
            rintro e w3 ⟨rfl, hb3⟩
            have hS3 := HS.out.keep hb3
            obtain ⟨c0, c1, c2, c3, c4⟩ := cell5 hS3.x
            have hown : w3.ownsRow (w.heap.size + 2) 3 1 (.slice a tl c) tl (t.map eI) := by have := hS3.seen; simpa [htl] using this
            rw [show (x0 :: t).length - 1 = tl from htl] at c1
            obtain ⟨i0, t1, t2, t3, t4⟩ := info_parts infoI
            obtain ⟨va, w9, hr, hown9, hgr⟩ := run_append_one (P := Tryz.prog) w3 (w.heap.size + 2) 22 3 Tryz.underlying22 t1 t2 t3 t4 rfl (by decide) (.slice a tl c) tl _ hown #[.int .i64 (n : Int)] rfl (by simp [Value.oneCell']) (by unfold maxLen; omega) (by omega) (by have := hS3.x.lt; omega)
            obtain ⟨a5, c5, rfl⟩ := own_shape hown9
            have hSa := hS3.keep (kept_alloc w3 (.cells #[.int .i64 (n : Int)] 3))
            have howna := hown.alloc (.cells #[.int .i64 (n : Int)] 3)
            have hx9 := hSa.x.grownNe howna (by decide) hgr
            have hr9 := hSa.res.grownNe howna (by decide) hgr
            obtain ⟨d0, d1, d2, d3, d4⟩ := cell5 hx9
            have g1 := hx9.free 1
            rw [show (x0 :: t).length - 1 = tl from htl] at d1
            obtain ⟨w10, hw10⟩ : ∃ w10, w10 = w9.setCell ⟨w.heap.size + 1, 1, none⟩ (.slice a5 (tl + 1) c5) := ⟨_, rfl⟩
            have hb9 : Below w.heap.size w w9 := hSa.bel.trans ((Below.refl w.heap.size _).grown hgr hSa.bel.size fun q hq => by have := (howna.lt q hq).1; omega)
            have hS10 : SF w w10 ((x0 :: t) ++ [(n : Int)]) a5 c5 := by
              have e1 : ((x0 :: t) ++ [(n : Int)]).length - 1 = tl + 1 := by simp [htl]
              refine ⟨?_, ?_, ?_, ?_⟩
              · rw [hw10]; exact hb9.setCell (p := ⟨w.heap.size + 1, 1, none⟩) (by show w.heap.size ≤ w.heap.size + 1; omega) _
              · rw [hw10]; exact hr9.set_other _ (by show w.heap.size ≠ w.heap.size + 1; omega)
              · rw [e1, hw10]; exact hx9.set 1 _
              · rw [e1, hw10]
                refine own_setCell ?_ hx9 (by decide) _
                show w9.ownsRow _ _ _ _ _ ((t ++ [(n : Int)]).map eI)
                rw [List.map_append]
                exact hown9
            have HS10 := Lib.hid hS10; have Hw10 := Lib.hid hw10; have Htl := Lib.hid htl
            clear HU hb3 HS hS3 hown hown9 hgr hSa howna hx9 hr9 hb9 hS10 hw10 t1 t2 t3 t4
            go_wp2_with fail
            rw [← Hw10.out]
            go_roundw
            case rel => exact ⟨k + 1, nx, by omega, hnxb, by go_num, rfl, _, a5, c5, Hnext.out, by rw [List.length_append, HL.out]; rfl, HS10.out⟩
            case measure => first | (simp [intOf]; done) | (simp [intOf]; omega)
        · have hnI : (1099511627776 : Int) < (n : Int) := by omega
          have Hu := Lib.hid (sdecR_bad hk9 Hsl.out (by unfold numS; dsimp only; rw [ho]; dsimp only; rw [if_neg hn]))
          unfold uintVo at HU
          dsimp only at HU
          rw [hnx] at HU
          clear ho h1 h2 hrl hnx
          go_wp2_with fail
          refine HU.out.mono ?_
          rintro e w3 ⟨rfl, hb3⟩
          have HS3 := Lib.hid (HS.out.keep hb3)
          clear HU hb3 HS
          obtain ⟨wf, hwf, hblk, hbf⟩ := fin5 HS3.out.res HS3.out.bel (Nat.le_refl _) (.int .i64 0) (.slice none 0 0) (.slice none 0 0) (.slice none 0 0) (.slice none 0 0)
          obtain ⟨q0, q1, q2, q3, q4⟩ := cell5 HS3.out.res
          have f0 := HS3.out.res.free 0
          have f1 := HS3.out.res.free 1
          have f2 := HS3.out.res.free 2
          have f3 := HS3.out.res.free 3
          have f4 := HS3.out.res.free 4
          try rw [Hw2.out] at hwf q0 q1 q2 q3 q4 f0 f1 f2 f3 f4
          have Q := Lib.hid (cell5 hblk)
          have Hbf := Lib.hid hbf; have Hwf := Lib.hid hwf
          clear hwf hblk hbf
          go_wp2_with fail
          rw [← Hwf.out]
          obtain ⟨q0, q1, q2, q3, q4⟩ := Q.out
          exact bodyPost_ret (v := .tuple #[nilM, .int .i64 5]) (by simp [results, Tryz.results33, go_sem, q0, q1, q2, q3, q4, nilM]) rfl ⟨_, by rw [Hu.out], by rw [Hu.out]; exact (ownM_nil _ _).msg bndS_empty, Hbf.out⟩
    · have hkI : ¬ (k : Int) ≤ 8 := by omega
      obtain rfl : k = 9 := by omega
      obtain ⟨x0, t, rfl⟩ : ∃ x0 t, L = x0 :: t := by cases L with
        | nil => exact absurd hL (by simp)
        | cons x0 t => exact ⟨x0, t, rfl⟩
      have htl : t.length = 8 := by simpa using hL
      have hsN : sdecN b = (x0 :: t, some (b.drop m)) := hsl
      obtain ⟨r, hr⟩ : ∃ r, b.drop m = r := ⟨_, rfl⟩
      have hrl : r.length = nb - m := by rw [← hr, List.length_drop, Hnb.out]
      rw [hr] at hsN
      have hnums : ∀ x ∈ x0 :: t, 0 ≤ x ∧ x ≤ 1099511627776 := by
        have := seenL_bnd 9 ([], some b) nofun
        rw [show seenL 9 ([], some b) = _ from hsN] at this
        exact this
      have hBm := (HB.out wr hS.bel).drop m (by rw [Hnb.out]; exact hm)
      rw [hr, Hnb.out, ← hrl] at hBm
      obtain ⟨D, hD⟩ : ∃ D, decR r = D := ⟨_, rfl⟩
      have hor := decR_or r
      have hkeys := decR_keys r
      rw [hD] at hor hkeys
      have hs := hS.seen
      rw [show (x0 :: t).length - 1 = 8 from htl] at hs
      have hx := hS.x
      rw [show (x0 :: t).length - 1 = 8 from htl] at hx
      have HS := Lib.hid hS; have HsN := Lib.hid hsN; have Hor := Lib.hid hor; have Hkeys := Lib.hid hkeys; have HDe := Lib.hid hD; have Hrl := Lib.hid hrl; have Hnums := Lib.hid hnums; have Hs := Lib.hid hs; have Htl := Lib.hid htl; have Hx := Lib.hid hx
      have hlr : r.length ≤ 60000 := by have := Hl.out; have := Hnb.out; omega
      clear hL hsl hr hS hD hsN hor hkeys hrl hnums hs htl hx
      by_cases hcap : cap = m
      · have e0 : cap - m = 0 := by omega
        rw [if_pos hcap, e0] at hBm
        have HDc := Lib.hid (rdecode_any wr _ av 0 r hBm (fun q hq => Nat.lt_of_lt_of_le hq HS.out.bel.size) hlr)
        unfold DPost at HDc
        rw [HDe.out, Hrl.out] at HDc
        clear hBm
        go_wp2_with fail
        refine HDc.out.mono ?_
        rintro e w6 ⟨tv, rfl, ⟨t1, t2, t3, rfl, hmi⟩, hb6⟩
        obtain ⟨w7, hw7⟩ : ∃ w7, w7 = w6.alloc (.cells #[t1, t2, t3] 26) := ⟨_, rfl⟩
        obtain ⟨n1, m1, rfl, -⟩ := hmi.seen.shape
        obtain ⟨n2, m2, rfl, -⟩ := hmi.items.shape
        obtain ⟨n3, m3, rfl, -⟩ := hmi.gone.shape
        have hb7 : Below w6.heap.size w6 w7 := by rw [hw7]; exact kept_alloc _ _
        have hb57 : Below wr.heap.size wr w7 := hb6.trans (hb7.mono hb6.size)
        have kX7 := Hx.out.keep (hb57.block _ Hx.out.lt)
        have kr7 := HS.out.res.keep (hb57.block _ HS.out.res.lt)
        obtain ⟨w8, hw8⟩ : ∃ w8, w8 = ((w7.setCell ⟨w.heap.size + 1, 2, none⟩ (.slice n1 D.1.seen.length m1)).setCell ⟨w.heap.size + 1, 3, none⟩ (.slice n2 D.1.items.length m2)).setCell ⟨w.heap.size + 1, 4, none⟩ (.slice n3 D.1.gone.length m3) := ⟨_, rfl⟩
        have kX8 : Blk w8 (w.heap.size + 1) [.int .i64 x0, .slice a 8 c, .slice n1 D.1.seen.length m1, .slice n2 D.1.items.length m2, .slice n3 D.1.gone.length m3] 43 := by
          rw [hw8]; exact ((kX7.set 2 _).set 3 _).set 4 _
        have hB8 : Below w.heap.size w w8 := by
          rw [hw8]
          exact (((HS.out.bel.trans (hb57.mono HS.out.bel.size)).setCell (p := ⟨w.heap.size + 1, 2, none⟩) (by show w.heap.size ≤ w.heap.size + 1; omega) _).setCell (p := ⟨w.heap.size + 1, 3, none⟩) (by show w.heap.size ≤ w.heap.size + 1; omega) _).setCell (p := ⟨w.heap.size + 1, 4, none⟩) (by show w.heap.size ≤ w.heap.size + 1; omega) _
        have kr8 : Blk w8 w.heap.size [.int .i64 0, .slice none 0 0, .slice none 0 0, .slice none 0 0, .slice none 0 0] 43 := by
          rw [hw8]
          exact ((kr7.set_other _ (by show w.heap.size ≠ w.heap.size + 1; omega)).set_other _ (by show w.heap.size ≠ w.heap.size + 1; omega)).set_other _ (by show w.heap.size ≠ w.heap.size + 1; omega)
        have hxlt : w.heap.size + 1 < wr.heap.size := HS.out.x.lt
        have hms : MsgIn (fun q => w.heap.size < q) w8 (.slice a 8 c) (.slice n1 D.1.seen.length m1) (.slice n2 D.1.items.length m2) (.slice n3 D.1.gone.length m3) ⟨x0, t, D.1⟩ := by
          have far : ∀ q, q ≠ w.heap.size + 1 → w8.heap[q]? = w7.heap[q]? := fun q hne => by
            rw [hw8]; exact (Below.heap_setCell _ _ _ _ hne).trans ((Below.heap_setCell _ _ _ _ hne).trans (Below.heap_setCell _ _ _ _ hne))
          refine ⟨?_, ?_, ?_, ?_⟩
          · have k := (Rows.of_owns Hs.out).keep (w' := w8) fun q hq hlt => by
              have h1 := hq.1
              exact (far q (by omega)).trans (hb57.block q hlt)
            show Rows _ _ _ _ t.length _
            rw [Htl.out]
            exact k.mono fun q hq _ => by have := hq.1; omega
          · have k7 := hmi.keep (w' := w7) fun q _ hlt => hb7.block q hlt
            refine MapIn.mono (k7.keep (w' := w8) fun q hq _ => ?_) fun q hq _ => by have hq' : wr.heap.size ≤ q := hq; omega
            have hq' : wr.heap.size ≤ q := hq
            exact far q (by omega)
          · have := Hnums.out x0 List.mem_cons_self; unfold i64ok; dsimp only; omega
          · intro y hy
            have := Hnums.out y (List.mem_cons_of_mem _ hy)
            unfold i64ok; omega
        have HV := Lib.hid (rvalidS_any w8 _ (.agg #[.int .i64 x0, .slice a 8 c, .slice n1 D.1.seen.length m1, .slice n2 D.1.items.length m2, .slice n3 D.1.gone.length m3]) ⟨x0, t, D.1⟩ ⟨_, _, _, _, rfl, hms⟩ (fun x hx => by have := Hkeys.out.1 x hx; omega) (fun x hx => by have := Hkeys.out.2 x hx; omega))
        have Hms := Lib.hid hms; have HB8 := Lib.hid hB8
        have y2 := kX7.cell 2
        have y3 := kX7.cell 3
        have y4 := kX7.cell 4
        have z2 := kX7.free 2
        have z3 := kX7.free 3
        have z4 := kX7.free 4
        simp only [List.getElem?_cons_zero, List.getElem?_cons_succ] at y2 y3 y4
        rw [hw7] at y2 y3 y4 z2 z3 z4
        have Hw7 := Lib.hid hw7; have Hw8 := Lib.hid hw8
        have KX8 := Lib.hid kX8; have Kr8 := Lib.hid kr8
        clear hms hB8 hxlt hb6 hb7 hb57 kX7 kr7 kX8 kr8 hw7 hw8 hmi HDc Hs Hx HS
        rcases Hor.out with h0 | h5
        · obtain ⟨sv, hsv⟩ : ∃ sv, svalid ⟨x0, t, D.1⟩ = sv := ⟨_, rfl⟩
          rw [hsv] at HV
          have hM : sdecM b r = ⟨x0, t, D.1⟩ := by unfold sdecM; rw [HsN.out, HDe.out]; rfl
          have Hu := Lib.hid (show sdecR b = if sv = true then (⟨x0, t, D.1⟩, 0) else (.empty, 5) by
            unfold sdecR; rw [HsN.out]; dsimp only; rw [hM, HDe.out, h0, hsv]
            cases sv
            · rw [if_neg (by simp), if_neg (by simp)]
            · rw [if_pos ⟨rfl, rfl⟩, if_pos rfl])
          obtain ⟨x0c, x1c, x2c, x3c, x4c⟩ := cell5 KX8.out
          rw [Hw8.out, Hw7.out] at x0c x1c x2c x3c x4c
          clear hM hsv
          go_wp2_with fail
          rw [← Hw7.out, ← Hw8.out]
          refine HV.out.mono ?_
          rintro e w9 ⟨rfl, hb9⟩
          have HB9 := Lib.hid (HB8.out.trans (hb9.mono HB8.out.size))
          have Kr9 := Lib.hid (Kr8.out.keep (hb9.block _ Kr8.out.lt))
          have KX9 := Lib.hid (KX8.out.keep (hb9.block _ KX8.out.lt))
          have Hm9 := Lib.hid (Hms.out.keep (w' := w9) fun q _ hlt => hb9.block q hlt)
          clear hb9 HV Hms Kr8 KX8 x0c x1c x2c x3c x4c y2 y3 y4 z2 z3 z4
          cases sv with
          | false =>
            have Hu := Lib.hid (show sdecR b = (.empty, 5) by rw [Hu.out]; rfl)
            obtain ⟨wf, hwf, hblk, hbf⟩ := fin5 Kr9.out HB9.out (Nat.le_refl _) (.int .i64 0) (.slice none 0 0) (.slice none 0 0) (.slice none 0 0) (.slice none 0 0)
            obtain ⟨q0, q1, q2, q3, q4⟩ := cell5 Kr9.out
            have f0 := Kr9.out.free 0
            have f1 := Kr9.out.free 1
            have f2 := Kr9.out.free 2
            have f3 := Kr9.out.free 3
            have f4 := Kr9.out.free 4
            try rw [Hw7.out] at hwf q0 q1 q2 q3 q4 f0 f1 f2 f3 f4
            have Q := Lib.hid (cell5 hblk)
            have Hbf := Lib.hid hbf; have Hwf := Lib.hid hwf
            clear hwf hblk hbf
            go_wp2_with fail
            rw [← Hwf.out]
            obtain ⟨q0, q1, q2, q3, q4⟩ := Q.out
            exact bodyPost_ret (v := .tuple #[nilM, .int .i64 5]) (by simp [results, Tryz.results33, go_sem, q0, q1, q2, q3, q4, nilM]) rfl ⟨_, by rw [Hu.out], by rw [Hu.out]; exact (ownM_nil _ _).msg bndS_empty, Hbf.out⟩
          | true =>
            have Hu := Lib.hid (show sdecR b = (⟨x0, t, D.1⟩, 0) by rw [Hu.out]; rfl)
            obtain ⟨x0c, x1c, x2c, x3c, x4c⟩ := cell5 KX9.out
            obtain ⟨wf, hwf, hblk, hbf⟩ := fin5 Kr9.out HB9.out (Nat.le_refl _) (.int .i64 x0) (.slice a 8 c) (.slice n1 D.1.seen.length m1) (.slice n2 D.1.items.length m2) (.slice n3 D.1.gone.length m3)
            obtain ⟨q0, q1, q2, q3, q4⟩ := cell5 Kr9.out
            have f0 := Kr9.out.free 0
            have f1 := Kr9.out.free 1
            have f2 := Kr9.out.free 2
            have f3 := Kr9.out.free 3
            have f4 := Kr9.out.free 4
            have Q := Lib.hid (cell5 hblk)
            have Hbf := Lib.hid hbf; have Hwf := Lib.hid hwf
            clear hwf hblk hbf
            go_wp2_with fail
            rw [← Hwf.out]
            obtain ⟨q0, q1, q2, q3, q4⟩ := Q.out
            have hmf : MsgIn (fun q => w.heap.size ≤ q) wf (.slice a 8 c) (.slice n1 D.1.seen.length m1) (.slice n2 D.1.items.length m2) (.slice n3 D.1.gone.length m3) ⟨x0, t, D.1⟩ := by
              refine (Hm9.out.keep (w' := wf) fun q hq _ => ?_).mono fun q hq _ => Nat.le_of_lt hq
              have hne : q ≠ w.heap.size := by have hq' : w.heap.size < q := hq; omega
              rw [Hwf.out]
              exact (Below.heap_setCell _ _ _ _ hne).trans ((Below.heap_setCell _ _ _ _ hne).trans ((Below.heap_setCell _ _ _ _ hne).trans ((Below.heap_setCell _ _ _ _ hne).trans (Below.heap_setCell _ _ _ _ hne))))
            exact bodyPost_ret (v := .tuple #[.agg #[.int .i64 x0, .slice a 8 c, .slice n1 D.1.seen.length m1, .slice n2 D.1.items.length m2, .slice n3 D.1.gone.length m3], .int .i64 0]) (by simp [results, Tryz.results33, go_sem, q0, q1, q2, q3, q4]) rfl ⟨_, by rw [Hu.out]; rfl, by rw [Hu.out]; exact ⟨_, _, _, _, rfl, hmf⟩, Hbf.out⟩
        · have Hu := Lib.hid (show sdecR b = (.empty, 5) by unfold sdecR; rw [HsN.out]; dsimp only; rw [HDe.out, h5]; rfl)
          have h52 : D.2 = 5 := by rw [h5]
          clear h5
          obtain ⟨wf, hwf, hblk, hbf⟩ := fin5 Kr8.out HB8.out (Nat.le_refl _) (.int .i64 0) (.slice none 0 0) (.slice none 0 0) (.slice none 0 0) (.slice none 0 0)
          obtain ⟨q0, q1, q2, q3, q4⟩ := cell5 Kr8.out
          have f0 := Kr8.out.free 0
          have f1 := Kr8.out.free 1
          have f2 := Kr8.out.free 2
          have f3 := Kr8.out.free 3
          have f4 := Kr8.out.free 4
          try rw [Hw8.out, Hw7.out] at hwf q0 q1 q2 q3 q4 f0 f1 f2 f3 f4
          have Q := Lib.hid (cell5 hblk)
          have Hbf := Lib.hid hbf; have Hwf := Lib.hid hwf
          clear hwf hblk hbf
          go_wp2_with fail
          rw [← Hwf.out]
          obtain ⟨q0, q1, q2, q3, q4⟩ := Q.out
          exact bodyPost_ret (v := .tuple #[nilM, .int .i64 5]) (by simp [results, Tryz.results33, go_sem, q0, q1, q2, q3, q4, nilM]) rfl ⟨_, by rw [Hu.out], by rw [Hu.out]; exact (ownM_nil _ _).msg bndS_empty, Hbf.out⟩
      · rw [if_neg hcap] at hBm
        have HDc := Lib.hid (rdecode_any wr _ (av.map fun x => x.add m) (cap - m) r hBm (fun q hq => Nat.lt_of_lt_of_le hq HS.out.bel.size) hlr)
        unfold DPost at HDc
        rw [HDe.out, Hrl.out] at HDc
        clear hBm
        go_wp2_with fail
        refine HDc.out.mono ?_
        rintro e w6 ⟨tv, rfl, ⟨t1, t2, t3, rfl, hmi⟩, hb6⟩
        obtain ⟨w7, hw7⟩ : ∃ w7, w7 = w6.alloc (.cells #[t1, t2, t3] 26) := ⟨_, rfl⟩
        obtain ⟨n1, m1, rfl, -⟩ := hmi.seen.shape
        obtain ⟨n2, m2, rfl, -⟩ := hmi.items.shape
        obtain ⟨n3, m3, rfl, -⟩ := hmi.gone.shape
        have hb7 : Below w6.heap.size w6 w7 := by rw [hw7]; exact kept_alloc _ _
        have hb57 : Below wr.heap.size wr w7 := hb6.trans (hb7.mono hb6.size)
        have kX7 := Hx.out.keep (hb57.block _ Hx.out.lt)
        have kr7 := HS.out.res.keep (hb57.block _ HS.out.res.lt)
        obtain ⟨w8, hw8⟩ : ∃ w8, w8 = ((w7.setCell ⟨w.heap.size + 1, 2, none⟩ (.slice n1 D.1.seen.length m1)).setCell ⟨w.heap.size + 1, 3, none⟩ (.slice n2 D.1.items.length m2)).setCell ⟨w.heap.size + 1, 4, none⟩ (.slice n3 D.1.gone.length m3) := ⟨_, rfl⟩
        have kX8 : Blk w8 (w.heap.size + 1) [.int .i64 x0, .slice a 8 c, .slice n1 D.1.seen.length m1, .slice n2 D.1.items.length m2, .slice n3 D.1.gone.length m3] 43 := by
          rw [hw8]; exact ((kX7.set 2 _).set 3 _).set 4 _
        have hB8 : Below w.heap.size w w8 := by
          rw [hw8]
          exact (((HS.out.bel.trans (hb57.mono HS.out.bel.size)).setCell (p := ⟨w.heap.size + 1, 2, none⟩) (by show w.heap.size ≤ w.heap.size + 1; omega) _).setCell (p := ⟨w.heap.size + 1, 3, none⟩) (by show w.heap.size ≤ w.heap.size + 1; omega) _).setCell (p := ⟨w.heap.size + 1, 4, none⟩) (by show w.heap.size ≤ w.heap.size + 1; omega) _
        have kr8 : Blk w8 w.heap.size [.int .i64 0, .slice none 0 0, .slice none 0 0, .slice none 0 0, .slice none 0 0] 43 := by
          rw [hw8]
          exact ((kr7.set_other _ (by show w.heap.size ≠ w.heap.size + 1; omega)).set_other _ (by show w.heap.size ≠ w.heap.size + 1; omega)).set_other _ (by show w.heap.size ≠ w.heap.size + 1; omega)
        have hxlt : w.heap.size + 1 < wr.heap.size := HS.out.x.lt
        have hms : MsgIn (fun q => w.heap.size < q) w8 (.slice a 8 c) (.slice n1 D.1.seen.length m1) (.slice n2 D.1.items.length m2) (.slice n3 D.1.gone.length m3) ⟨x0, t, D.1⟩ := by
          have far : ∀ q, q ≠ w.heap.size + 1 → w8.heap[q]? = w7.heap[q]? := fun q hne => by
            rw [hw8]; exact (Below.heap_setCell _ _ _ _ hne).trans ((Below.heap_setCell _ _ _ _ hne).trans (Below.heap_setCell _ _ _ _ hne))
          refine ⟨?_, ?_, ?_, ?_⟩
          · have k := (Rows.of_owns Hs.out).keep (w' := w8) fun q hq hlt => by
              have h1 := hq.1
              exact (far q (by omega)).trans (hb57.block q hlt)
            show Rows _ _ _ _ t.length _
            rw [Htl.out]
            exact k.mono fun q hq _ => by have := hq.1; omega
          · have k7 := hmi.keep (w' := w7) fun q _ hlt => hb7.block q hlt
            refine MapIn.mono (k7.keep (w' := w8) fun q hq _ => ?_) fun q hq _ => by have hq' : wr.heap.size ≤ q := hq; omega
            have hq' : wr.heap.size ≤ q := hq
            exact far q (by omega)
          · have := Hnums.out x0 List.mem_cons_self; unfold i64ok; dsimp only; omega
          · intro y hy
            have := Hnums.out y (List.mem_cons_of_mem _ hy)
            unfold i64ok; omega
        have HV := Lib.hid (rvalidS_any w8 _ (.agg #[.int .i64 x0, .slice a 8 c, .slice n1 D.1.seen.length m1, .slice n2 D.1.items.length m2, .slice n3 D.1.gone.length m3]) ⟨x0, t, D.1⟩ ⟨_, _, _, _, rfl, hms⟩ (fun x hx => by have := Hkeys.out.1 x hx; omega) (fun x hx => by have := Hkeys.out.2 x hx; omega))
        have Hms := Lib.hid hms; have HB8 := Lib.hid hB8
        have y2 := kX7.cell 2
        have y3 := kX7.cell 3
        have y4 := kX7.cell 4
        have z2 := kX7.free 2
        have z3 := kX7.free 3
        have z4 := kX7.free 4
        simp only [List.getElem?_cons_zero, List.getElem?_cons_succ] at y2 y3 y4
        rw [hw7] at y2 y3 y4 z2 z3 z4
        have Hw7 := Lib.hid hw7; have Hw8 := Lib.hid hw8
        have KX8 := Lib.hid kX8; have Kr8 := Lib.hid kr8
        clear hms hB8 hxlt hb6 hb7 hb57 kX7 kr7 kX8 kr8 hw7 hw8 hmi HDc Hs Hx HS
        rcases Hor.out with h0 | h5
        · obtain ⟨sv, hsv⟩ : ∃ sv, svalid ⟨x0, t, D.1⟩ = sv := ⟨_, rfl⟩
          rw [hsv] at HV
          have hM : sdecM b r = ⟨x0, t, D.1⟩ := by unfold sdecM; rw [HsN.out, HDe.out]; rfl
          have Hu := Lib.hid (show sdecR b = if sv = true then (⟨x0, t, D.1⟩, 0) else (.empty, 5) by
            unfold sdecR; rw [HsN.out]; dsimp only; rw [hM, HDe.out, h0, hsv]
            cases sv
            · rw [if_neg (by simp), if_neg (by simp)]
            · rw [if_pos ⟨rfl, rfl⟩, if_pos rfl])
          obtain ⟨x0c, x1c, x2c, x3c, x4c⟩ := cell5 KX8.out
          rw [Hw8.out, Hw7.out] at x0c x1c x2c x3c x4c
          clear hM hsv
          go_wp2_with fail
          rw [← Hw7.out, ← Hw8.out]
          refine HV.out.mono ?_
          rintro e w9 ⟨rfl, hb9⟩
          have HB9 := Lib.hid (HB8.out.trans (hb9.mono HB8.out.size))
          have Kr9 := Lib.hid (Kr8.out.keep (hb9.block _ Kr8.out.lt))
          have KX9 := Lib.hid (KX8.out.keep (hb9.block _ KX8.out.lt))
          have Hm9 := Lib.hid (Hms.out.keep (w' := w9) fun q _ hlt => hb9.block q hlt)
          clear hb9 HV Hms Kr8 KX8 x0c x1c x2c x3c x4c y2 y3 y4 z2 z3 z4
          cases sv with
          | false =>
            have Hu := Lib.hid (show sdecR b = (.empty, 5) by rw [Hu.out]; rfl)
            obtain ⟨wf, hwf, hblk, hbf⟩ := fin5 Kr9.out HB9.out (Nat.le_refl _) (.int .i64 0) (.slice none 0 0) (.slice none 0 0) (.slice none 0 0) (.slice none 0 0)
            obtain ⟨q0, q1, q2, q3, q4⟩ := cell5 Kr9.out
            have f0 := Kr9.out.free 0
            have f1 := Kr9.out.free 1
            have f2 := Kr9.out.free 2
            have f3 := Kr9.out.free 3
            have f4 := Kr9.out.free 4
            try rw [Hw7.out] at hwf q0 q1 q2 q3 q4 f0 f1 f2 f3 f4
            have Q := Lib.hid (cell5 hblk)
            have Hbf := Lib.hid hbf; have Hwf := Lib.hid hwf
            clear hwf hblk hbf
            go_wp2_with fail
            rw [← Hwf.out]
            obtain ⟨q0, q1, q2, q3, q4⟩ := Q.out
            exact bodyPost_ret (v := .tuple #[nilM, .int .i64 5]) (by simp [results, Tryz.results33, go_sem, q0, q1, q2, q3, q4, nilM]) rfl ⟨_, by rw [Hu.out], by rw [Hu.out]; exact (ownM_nil _ _).msg bndS_empty, Hbf.out⟩
          | true =>
            have Hu := Lib.hid (show sdecR b = (⟨x0, t, D.1⟩, 0) by rw [Hu.out]; rfl)
            obtain ⟨x0c, x1c, x2c, x3c, x4c⟩ := cell5 KX9.out
            obtain ⟨wf, hwf, hblk, hbf⟩ := fin5 Kr9.out HB9.out (Nat.le_refl _) (.int .i64 x0) (.slice a 8 c) (.slice n1 D.1.seen.length m1) (.slice n2 D.1.items.length m2) (.slice n3 D.1.gone.length m3)
            obtain ⟨q0, q1, q2, q3, q4⟩ := cell5 Kr9.out
            have f0 := Kr9.out.free 0
            have f1 := Kr9.out.free 1
            have f2 := Kr9.out.free 2
            have f3 := Kr9.out.free 3
            have f4 := Kr9.out.free 4
            have Q := Lib.hid (cell5 hblk)
            have Hbf := Lib.hid hbf; have Hwf := Lib.hid hwf
            clear hwf hblk hbf
            go_wp2_with fail
            rw [← Hwf.out]
            obtain ⟨q0, q1, q2, q3, q4⟩ := Q.out
            have hmf : MsgIn (fun q => w.heap.size ≤ q) wf (.slice a 8 c) (.slice n1 D.1.seen.length m1) (.slice n2 D.1.items.length m2) (.slice n3 D.1.gone.length m3) ⟨x0, t, D.1⟩ := by
              refine (Hm9.out.keep (w' := wf) fun q hq _ => ?_).mono fun q hq _ => Nat.le_of_lt hq
              have hne : q ≠ w.heap.size := by have hq' : w.heap.size < q := hq; omega
              rw [Hwf.out]
              exact (Below.heap_setCell _ _ _ _ hne).trans ((Below.heap_setCell _ _ _ _ hne).trans ((Below.heap_setCell _ _ _ _ hne).trans ((Below.heap_setCell _ _ _ _ hne).trans (Below.heap_setCell _ _ _ _ hne))))
            exact bodyPost_ret (v := .tuple #[.agg #[.int .i64 x0, .slice a 8 c, .slice n1 D.1.seen.length m1, .slice n2 D.1.items.length m2, .slice n3 D.1.gone.length m3], .int .i64 0]) (by simp [results, Tryz.results33, go_sem, q0, q1, q2, q3, q4]) rfl ⟨_, by rw [Hu.out]; rfl, by rw [Hu.out]; exact ⟨_, _, _, _, rfl, hmf⟩, Hbf.out⟩
        · have Hu := Lib.hid (show sdecR b = (.empty, 5) by unfold sdecR; rw [HsN.out]; dsimp only; rw [HDe.out, h5]; rfl)
          have h52 : D.2 = 5 := by rw [h5]
          clear h5
          obtain ⟨wf, hwf, hblk, hbf⟩ := fin5 Kr8.out HB8.out (Nat.le_refl _) (.int .i64 0) (.slice none 0 0) (.slice none 0 0) (.slice none 0 0) (.slice none 0 0)
          obtain ⟨q0, q1, q2, q3, q4⟩ := cell5 Kr8.out
          have f0 := Kr8.out.free 0
          have f1 := Kr8.out.free 1
          have f2 := Kr8.out.free 2
          have f3 := Kr8.out.free 3
          have f4 := Kr8.out.free 4
          try rw [Hw8.out, Hw7.out] at hwf q0 q1 q2 q3 q4 f0 f1 f2 f3 f4
          have Q := Lib.hid (cell5 hblk)
          have Hbf := Lib.hid hbf; have Hwf := Lib.hid hwf
          clear hwf hblk hbf
          go_wp2_with fail
          rw [← Hwf.out]
          obtain ⟨q0, q1, q2, q3, q4⟩ := Q.out
          exact bodyPost_ret (v := .tuple #[nilM, .int .i64 5]) (by simp [results, Tryz.results33, go_sem, q0, q1, q2, q3, q4, nilM]) rfl ⟨_, by rw [Hu.out], by rw [Hu.out]; exact (ownM_nil _ _).msg bndS_empty, Hbf.out⟩
end Go.Proofs.YtkkacnfpdafadaaGreatDoor
