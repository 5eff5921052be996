/-
  STimes SKnow
-/
import Derived.Test.YtkkacnfpdafadaaGreatDoorR27
import Derived.Test.YtkkacnfpdafadaaGreatDoorR28
import Derived.Test.YtkkacnfpdafadaaGreatDoorR22
import Derived.Test.YtkkacnfpdafadaaGreatDoorR26
namespace Go.Proofs.YtkkacnfpdafadaaGreatDoor
open Go.RowKit Go.Lib
set_option linter.unusedVariables false
set_option maxRecDepth 20000
attribute [local go_sem ↓] seal_append
attribute [local go_sem] opC upC

theorem SRdAt.kept {W W' : World} {R : Nat} {F : Blks} {bl : Nat} {st : RdSt} (h : SRdAt W R F bl st) (hk : ∀ q, (q = R ∨ F q) → q < W.heap.size → W'.heap[q]? = W.heap[q]?) : SRdAt W' R F bl st := by
  obtain ⟨ok, r, av, cap, h1, h2, h3, h4⟩ := h
  exact ⟨ok, r, av, cap, h1.keep (hk _ (.inl rfl) h1.lt), h2.keep fun q hq hlt => hk q (.inr hq) hlt, h3, h4⟩
set_option maxRecDepth 100000 in
set_option maxHeartbeats 4000000 in
theorem stimes_any (w : World) (R : Nat) (F : Blks) (bl : Nat) (st : RdSt) (hR : SRdAt w R F bl st) (hRw : R < w.heap.size) (hF : ∀ q, F q → q < w.heap.size ∧ q ≠ R) :
    Calls Tryz.prog 71 #[.int .i64 8, .func (.func 70) #[.pointer (some ⟨R, 0, none⟩)] #[]] w fun e w' =>
      ∃ a c, e = .returned (.slice a 8 c) ∧ w'.ownsRow w.heap.size 3 1 (.slice a 8 c) 8 ((seenL 8 ([], st)).1.map eI) ∧ SRdAt w' R F bl (seenL 8 ([], st)).2 ∧ Only (fun q => q = R) w w' := by
  have HR := Lib.hid hR; have HF := Lib.hid hF; have HRw := Lib.hid hRw
  clear hR hF hRw
  go_enter Tryz.func71, Tryz.ntmps71
  go_wp2_with fail
  go_loopw [5, 7] (fun v i wr => ∃ k : Nat, k ≤ 8 ∧ i = .int .i64 (k : Int) ∧ ∃ L s a c, v = .slice a L.length c ∧ seenL k ([], st) = (L, s) ∧ L.length = k ∧ wr.ownsRow w.heap.size 3 1 (.slice a L.length c) L.length (L.map eI) ∧ SRdAt wr R F bl s ∧ Only (fun q => q = R) w wr) (fun _ i _ => 8 - (intOf i).toNat)
  case atStart => exact ⟨0, by omega, rfl, [], st, none, 0, rfl, rfl, rfl, World.ownsRow_nil _ _ _ _, HR.out, Only.refl _ _⟩
  case round =>
    obtain ⟨k, hk, rfl, L, s, a, c, rfl, hsl, hL, hown, hRd, ho⟩ := hrel
    by_cases hk8 : k < 8
    · have hkI : (k : Int) < 8 := by omega
      have hown8 : ∀ {w' : World}, wr.ownsRow w.heap.size 3 1 (.slice a L.length c) L.length (L.map eI) → Only (fun q => q = R) wr w' → w'.ownsRow w.heap.size 3 1 (.slice a L.length c) L.length (L.map eI) := fun h1 h2 => own_only h1 h2 fun q hq e => by have := HRw.out; have e' : q = R := e; omega
      have HN := Lib.hid (snext_any wr R F bl s hRd fun q hq => ⟨Nat.lt_of_lt_of_le (HF.out q hq).1 ho.size, (HF.out q hq).2⟩)
      have Hown := Lib.hid hown; have Ho := Lib.hid ho
      clear hRd hown ho
      go_wp2_with fail
      refine HN.out.mono ?_
      rintro e w8 ⟨rfl, hR8, ho8⟩
      have hn8 := hown8 Hown.out ho8
      obtain ⟨i0, t1, t2, t3, t4⟩ := info_parts infoI
      obtain ⟨x, hx⟩ : ∃ x, (numS s).1 = x := ⟨_, rfl⟩
      rw [hx]
      obtain ⟨va, w9, hr, hown9, hgr⟩ := run_append_one (P := Tryz.prog) w8 w.heap.size 22 3 Tryz.underlying22 t1 t2 t3 t4 rfl (by decide) (.slice a L.length c) L.length _ hn8 #[.int .i64 x] rfl (by simp [Value.oneCell']) (by unfold maxLen; omega) (by omega) (Ho.out.trans ho8 fun _ h => .inl h).size
      obtain ⟨a5, c5, rfl⟩ := own_shape hown9
      have hna := hn8.alloc (.cells #[.int .i64 x] 3)
      have o9 : Only (fun q => q = R) w w9 := by
        have h1 := Ho.out.trans ho8 fun _ h => .inl h
        have h2 : Only (fun q => q = R) w (w8.alloc (.cells #[.int .i64 x] 3)) := h1.alloc _
        refine ⟨hgr.os.trans h2.os, hgr.tape.trans h2.tape, hgr.output.trans h2.output, Nat.le_trans h2.size hgr.size, fun q hq hn => (hgr.block q (Nat.lt_of_lt_of_le hq h2.size) fun e => ?_).trans (h2.block q hq hn)⟩
        have := (hna.lt q e.symm).1
        omega
      have hR9 : SRdAt w9 R F bl (numS s).2 := by
        have k1 := (hR8.keep (W' := w8.alloc (.cells #[.int .i64 x] 3)) (kept_alloc _ _))
        refine k1.kept fun q hq hlt => hgr.block q hlt fun e => ?_
        have h1 := (hna.lt q e.symm).1
        rcases hq with rfl | hq
        · have := HRw.out; omega
        · have := (HF.out q hq).1; omega
      have Ho9 := Lib.hid o9; have HR9 := Lib.hid hR9; have Hown9 := Lib.hid hown9; have Hx := Lib.hid hx
      rw [hL] at hr
      clear hn8 hna hgr o9 hR9 hown9 t1 t2 t3 t4 HN Hown Ho hR8 ho8 hx
      go_wp2_with fail
      go_roundw
      case rel => exact ⟨k + 1, by omega, by go_num, L ++ [x], (numS s).2, a5, c5, by rw [List.length_append, List.length_singleton, hL], by rw [seenL_succ, hsl, ← Hx.out], by rw [List.length_append, List.length_singleton, hL], by rw [List.length_append, List.length_singleton, List.map_append]; exact Hown9.out, HR9.out, Ho9.out⟩
      case measure => first | (simp [intOf]; done) | (simp [intOf]; omega)
    · have hkI : ¬ (k : Int) < 8 := by omega
      obtain rfl : k = 8 := by omega
      have HRd := Lib.hid hRd; have Hown := Lib.hid hown; have Ho := Lib.hid ho
      clear hRd hown ho
      go_wp2_with fail
      go_ret
      refine ⟨a, c, rfl, ?_, ?_, Ho.out⟩
      · have := Hown.out; rw [hL] at this; exact this
      · exact HRd.out
end Go.Proofs.YtkkacnfpdafadaaGreatDoor

namespace Go.Proofs.YtkkacnfpdafadaaGreatDoor
open Go.RowKit Go.Sort
set_option linter.unusedVariables false
set_option maxRecDepth 20000
attribute [local go_sem ↓] seal_append
attribute [local go_sem] opC upC

set_option maxHeartbeats 1000000 in
theorem know1_any (w : World) (n : Int) :
    Calls Tryz.prog 83 #[.int .i64 n] w fun e w' => e = .returned (.bool (!seenOk n)) ∧ Below w.heap.size w w' := by
  by_cases h0 : n < 0
  · have Hr := Lib.hid (show seenOk n = false by unfold seenOk; simp; omega)
    have d0 : decide (n < 0) = true := by simpa using h0
    go_enter Tryz.func83, Tryz.ntmps83
    go_wp2_with fail
    go_ret
    exact ⟨by rw [Hr.out]; rfl, Below.refl _ _⟩
  have d0 : decide (n < 0) = false := by simpa using h0
  by_cases h1 : n > 1099511627776
  · have Hr := Lib.hid (show seenOk n = false by unfold seenOk; simp; omega)
    have d1 : decide (n > 1099511627776) = true := by simpa using h1
    have h1' : (1099511627776 : Int) < n := h1
    go_enter Tryz.func83, Tryz.ntmps83
    go_wp2_with fail
    go_ret
    exact ⟨by rw [Hr.out]; rfl, Below.refl _ _⟩
  · have Hr := Lib.hid (show seenOk n = true by unfold seenOk; simp; omega)
    have d1 : decide (n > 1099511627776) = false := by simpa using h1
    have h1' : ¬ (1099511627776 : Int) < n := h1
    go_enter Tryz.func83, Tryz.ntmps83
    go_wp2_with fail
    go_ret
    exact ⟨by rw [Hr.out]; rfl, Below.refl _ _⟩
set_option maxHeartbeats 2000000 in
theorem indexKnow_any (w : World) (F : Blks) (v : Value) (l : List Int) (hv : Rows F w 1 v l.length (l.map eI)) (hl : l.length ≤ 1000000) :
    Calls Tryz.prog 119 #[v, .func (.func 83) #[] #[]] w fun e w' => (∃ i : Int, e = .returned (.int .i64 i) ∧ (0 ≤ i ↔ l.all seenOk = false) ∧ -1 ≤ i) ∧ Below w.heap.size w w' := by
  obtain ⟨n, hn⟩ : ∃ n, l.length = n := ⟨_, rfl⟩
  obtain ⟨a, cap, rfl, -⟩ := hv.shape
  have Hv := Lib.hid hv
  rw [hn] at hl ⊢
  have Hn := Lib.hid hn
  have H0 := Lib.hid (show Below w.heap.size w w from Below.refl _ _)
  clear hv hn
  go_enter Tryz.func119, Tryz.ntmps119
  go_wp2_with fail
  go_loopw [8] (fun i wr => ∃ k : Nat, k ≤ n ∧ i = .int .i64 (k : Int) ∧ Below w.heap.size w wr ∧ ∀ j (hj : j < l.length), j < k → seenOk l[j] = true) (fun i _ => n - (intOf i).toNat)
  case atStart => exact ⟨0, by omega, rfl, H0.out, fun j _ hj => by omega⟩
  case round =>
    obtain ⟨k, hk, rfl, hbw, hall⟩ := hrel
    have Hbw := Lib.hid hbw; have Hall := Lib.hid hall
    clear hbw hall
    by_cases hkn : k < n
    · have hkI : (k : Int) < (n : Int) := by omega
      have hkl : k < l.length := by rw [Hn.out]; exact hkn
      have hm := Hv.out.keep (w' := wr) fun b _ hlt => Hbw.out.block b hlt
      obtain ⟨b, off, rfl, -, -, hc⟩ := int_cell hm (by omega)
      have e0 := hc k hkl
      obtain ⟨x, hx⟩ : ∃ x, l[k] = x := ⟨_, rfl⟩
      rw [hx] at e0
      have V := Lib.hid (know1_any wr x)
      have Hx := Lib.hid hx
      obtain ⟨kk, hkk⟩ : ∃ kk, seenOk x = kk := ⟨_, rfl⟩
      rw [hkk] at V
      have Hkk := Lib.hid hkk
      clear hc hx hm hkk
      go_wp2_with fail
      refine V.out.mono ?_
      rintro e w1 ⟨rfl, hb1⟩
      have Hb1 := Lib.hid (Hbw.out.trans (hb1.mono Hbw.out.size))
      clear V hb1 e0
      cases kk with
      | true =>
        go_wp2_with fail
        go_roundw
        case rel => exact ⟨k + 1, by omega, by go_num, Hb1.out, fun j hj hjk => by
          rcases Nat.lt_succ_iff_lt_or_eq.1 hjk with h | h
          · exact Hall.out j hj h
          · subst h; rw [Hx.out]; exact Hkk.out⟩
        case measure => simp [intOf]; omega
      | false =>
        go_wp2_with fail
        go_ret
        refine ⟨⟨_, rfl, ⟨fun _ => ?_, fun _ => by omega⟩, by omega⟩, Hb1.out⟩
        rw [List.all_eq_false]
        exact ⟨l[k], List.getElem_mem hkl, by rw [Hx.out, Hkk.out]; simp⟩
    · have hkI : ¬ (k : Int) < (n : Int) := by omega
      have hall : l.all seenOk = true := by
        rw [List.all_eq_true]
        intro x hx
        obtain ⟨j, hj, rfl⟩ := List.mem_iff_getElem.1 hx
        exact Hall.out j hj (by rw [Hn.out] at hj; omega)
      have Hal := Lib.hid hall
      clear hall
      go_wp2_with fail
      go_ret
      exact ⟨⟨-1, rfl, ⟨fun h => by omega, fun h => by
        first
          | (rw [Hal.out] at h; cases h)
          | (obtain ⟨x, hx, hkx⟩ := h; have hz := List.all_eq_true.1 Hal.out x hx; simp [hkx] at hz)⟩, by omega⟩, Hbw.out⟩
set_option maxHeartbeats 1000000 in
theorem containsKnow_any (w : World) (F : Blks) (v : Value) (l : List Int) (hv : Rows F w 1 v l.length (l.map eI)) (hl : l.length ≤ 1000000) :
    Calls Tryz.prog 82 #[v, .func (.func 83) #[] #[]] w fun e w' => e = .returned (.bool (!l.all seenOk)) ∧ Below w.heap.size w w' := by
  have HI := Lib.hid (indexKnow_any w F v l hv hl)
  obtain ⟨a, cap, rfl, -⟩ := hv.shape
  obtain ⟨r, hr⟩ : ∃ r, l.all seenOk = r := ⟨_, rfl⟩
  rw [hr]
  obtain ⟨n, hn⟩ : ∃ n, l.length = n := ⟨_, rfl⟩
  rw [hn] at HI ⊢
  have Hr := Lib.hid hr
  clear hv hr hn
  go_enter Tryz.func82, Tryz.ntmps82
  go_wp2_with fail
  refine HI.out.mono ?_
  rintro e w1 ⟨⟨i, rfl, hi, -⟩, hb1⟩
  rw [Hr.out] at hi
  clear HI
  cases r with
  | true =>
    have hI : ¬ 0 ≤ i := fun h => by have := hi.1 h; cases this
    clear hi
    go_wp2_with fail
    go_ret
    exact ⟨ret_bool (by simpa using hI), hb1⟩
  | false =>
    have hI : 0 ≤ i := hi.2 rfl
    clear hi
    go_wp2_with fail
    go_ret
    exact ⟨ret_bool (by simp), hb1⟩
set_option maxHeartbeats 1000000 in
theorem knows_any (w : World) (F : Blks) (v : Value) (l : List Int) (hv : Rows F w 1 v l.length (l.map eI)) :
    Calls Tryz.prog 39 #[v] w fun e w' => e = .returned (.bool (knowsR l)) ∧ Below w.heap.size w w' := by
  obtain ⟨n, hn⟩ : ∃ n, l.length = n := ⟨_, rfl⟩
  have hv0 := hv
  obtain ⟨a, cap, rfl, -⟩ := hv.shape
  by_cases h8 : n = 8
  · subst h8
    have HC := Lib.hid (containsKnow_any w F _ l hv (by omega))
    obtain ⟨r, hr⟩ : ∃ r, l.all seenOk = r := ⟨_, rfl⟩
    have Hk := Lib.hid (show knowsR l = r by unfold knowsR; rw [hr, hn]; simp)
    rw [hr, hn] at HC
    rw [hn]
    clear hv hv0 hr hn
    go_enter Tryz.func39, Tryz.ntmps39
    go_wp2_with fail
    refine HC.out.mono ?_
    rintro e w1 ⟨rfl, hb1⟩
    clear HC
    cases r <;>
    · go_wp2_with fail
      go_ret
      exact ⟨by rw [Hk.out]; rfl, hb1⟩
  · have Hk := Lib.hid (show knowsR l = false by unfold knowsR; rw [hn]; simp [h8])
    have hI : ¬ (n : Int) = 8 := by omega
    have hI2 : ((n : Int) == 8) = false := by simpa using hI
    rw [hn]
    clear hv hv0 hn
    go_enter Tryz.func39, Tryz.ntmps39
    go_wp2_with fail
    go_ret
    exact ⟨by rw [Hk.out]; rfl, Below.refl _ _⟩
set_option maxHeartbeats 1000000 in
theorem isDev_any (w : World) (d : Int) :
    Calls Tryz.prog 48 #[.int .i64 d] w fun e w' => e = .returned (.bool (devOk d)) ∧ w = w' := by
  by_cases h0 : d < 0
  · have Hr := Lib.hid (show devOk d = false by unfold devOk; simp; omega)
    have h0' : ¬ d ≥ 0 := by omega
    have h0'' : ¬ 0 ≤ d := by omega
    go_enter Tryz.func48, Tryz.ntmps48
    go_wp2_with fail
    go_ret
    exact ⟨by rw [Hr.out]; first | done | rfl, rfl⟩
  have h0' : d ≥ 0 := by omega
  have h0'' : 0 ≤ d := by omega
  by_cases h8 : d < 8
  · have Hr := Lib.hid (show devOk d = true by unfold devOk; simp; omega)
    go_enter Tryz.func48, Tryz.ntmps48
    go_wp2_with fail
    go_ret
    exact ⟨by rw [Hr.out]; first | done | rfl, rfl⟩
  · have Hr := Lib.hid (show devOk d = false by unfold devOk; simp; omega)
    go_enter Tryz.func48, Tryz.ntmps48
    go_wp2_with fail
    go_ret
    exact ⟨by rw [Hr.out]; first | done | rfl, rfl⟩
end Go.Proofs.YtkkacnfpdafadaaGreatDoor
