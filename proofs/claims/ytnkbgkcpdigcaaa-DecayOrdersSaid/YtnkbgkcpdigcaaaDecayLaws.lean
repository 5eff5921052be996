/- The laws on counts, over integers: each call returns true and writes nothing that was there. No condition. -/
import Derived.Test.YtnkbgkcpdigcaaaDecayWorks
import Derived.OpenShut
namespace Go.Proofs.Ytnkbgkcpdigcaaa
open Go.RowKit
set_option linter.unusedVariables false

theorem DecayCalls_walk (a0 a1 : Int) (w : World) (w0 : (Lit.int .i64 a0).wf = true) (w1 : (Lit.int .i64 a1).wf = true) :
    Calls Try.prog 3 #[.int .i64 a0, .int .i64 a1] w fun e w' => e = .returned (.bool true) ∧ Below w.heap.size w w' := by
  have hb := (bounds_i64 w1).2
  go_enter Try.func3, Try.ntmps3
  go_wp2_with fail
  refine (after_any _ _ _ hb).mono ?_
  rintro e w1 ⟨rfl, hb1⟩
  go_wp2_with fail
  refine (refAfter_any _ _ _ hb).mono ?_
  rintro e w2 ⟨rfl, rfl⟩
  go_wp2_with fail
  refine (use_any _ _ _ hb).mono ?_
  rintro e w3 ⟨rfl, hb3⟩
  go_wp2_with fail
  refine (refUse_any _ _ _ hb).mono ?_
  rintro e w4 ⟨rfl, rfl⟩
  go_wp2_with fail
  refine (decay_works _).mono ?_
  rintro e w5 ⟨rfl, hb5⟩
  go_wp2_with fail
  go_ret
  exact ⟨rfl, kept_trans hb1 (kept_trans hb3 hb5)⟩

theorem DecayLives_walk (a0 : Int) (w : World) (w0 : (Lit.int .i64 a0).wf = true) :
    Calls Try.prog 4 #[.int .i64 a0] w fun e w' => e = .returned (.bool true) ∧ Below w.heap.size w w' := by
  go_enter Try.func4, Try.ntmps4
  go_wp2_with fail
  refine (life_any _ _).mono ?_
  rintro e w1 ⟨rfl, hb1⟩
  go_wp2_with fail
  refine (refLife_any _ _).mono ?_
  rintro e w2 ⟨rfl, rfl⟩
  go_wp2_with fail
  refine (decay_works _).mono ?_
  rintro e w5 ⟨rfl, hb5⟩
  go_wp2_with fail
  go_ret
  exact ⟨rfl, kept_trans hb1 hb5⟩

theorem cut_any (v : Int) (w : World) (h0 : 0 ≤ v) (h1 : v ≤ 18446744073709551615) :
    Calls Try.prog 18 #[.int .u64 v] w fun e w' => e = .returned (.int .i64 (v % 1099511627777)) ∧ w = w' := by
  go_enter Try.func18, Try.ntmps18
  go_wp2_with fail
  go_ret
  exact ⟨rfl, rfl⟩

theorem cut_bd (v : Int) (h0 : 0 ≤ v) : 0 ≤ v % 1099511627777 ∧ v % 1099511627777 ≤ 1099511627776 := by omega

theorem DecayAddsUp_walk (a0 a1 a2 : Int) (w : World) (w0 : (Lit.int .u64 a0).wf = true) (w1 : (Lit.int .u64 a1).wf = true) (w2 : (Lit.int .u64 a2).wf = true) :
    Calls Try.prog 5 #[.int .u64 a0, .int .u64 a1, .int .u64 a2] w fun e w' => e = .returned (.bool true) ∧ Below w.heap.size w w' := by
  have g0 := bounds_u64 w0
  have g1 := bounds_u64 w1
  have g2 := bounds_u64 w2
  have c0 := cut_bd a0 g0.1
  have c1 := cut_bd a1 g1.1
  have c2 := cut_bd a2 g2.1
  have fin : DM.aft (a2 % 1099511627777).toNat (DM.bnd (DM.aft (a1 % 1099511627777).toNat (DM.bnd (a0 % 1099511627777)))) = DM.aft (a1 % 1099511627777 + a2 % 1099511627777).toNat (DM.bnd (a0 % 1099511627777)) := by
    have b0 := DM.bnd_nonneg (a0 % 1099511627777)
    have b1 := DM.bnd_le (a0 % 1099511627777)
    have h0 := DM.aft_nonneg (a1 % 1099511627777).toNat _ b0
    have h1 := DM.aft_le (a1 % 1099511627777).toNat _ b0
    rw [DM.bnd_id (DM.aft _ _) h0 (by omega), DM.aft_add, Int.toNat_add c1.1 c2.1]
  have Fin := Lib.hid fin; clear fin
  go_enter Try.func5, Try.ntmps5
  go_wp2_with (go_at_call 18; refine (cut_any _ _ (by omega) (by omega)).mono ?_; rintro e w' ⟨rfl, rfl⟩)
  refine (after_any _ _ _ (by omega)).mono ?_
  rintro e w1 ⟨rfl, hb1⟩
  go_wp2_with fail
  refine (after_any _ _ _ (by omega)).mono ?_
  rintro e w2 ⟨rfl, hb2⟩
  rw [Fin.out]
  go_wp2_with (go_at_call 18; refine (cut_any _ _ (by omega) (by omega)).mono ?_; rintro e w' ⟨rfl, rfl⟩)
  refine (after_any _ _ _ (by omega)).mono ?_
  rintro e w3 ⟨rfl, hb3⟩
  go_wp2_with fail
  refine (decay_works _).mono ?_
  rintro e w5 ⟨rfl, hb5⟩
  go_wp2_with fail
  go_ret
  exact ⟨rfl, kept_trans hb1 (kept_trans hb2 (kept_trans hb3 hb5))⟩

theorem DecaySums_walk (a0 a1 : Int) (w : World) (w0 : (Lit.int .u64 a0).wf = true) (w1 : (Lit.int .u64 a1).wf = true) :
    Calls Try.prog 8 #[.int .u64 a0, .int .u64 a1] w fun e w' => e = .returned (.bool true) ∧ Below w.heap.size w w' := by
  have g0 := bounds_u64 w0
  have g1 := bounds_u64 w1
  have c0 : 0 ≤ a0 % 549755813889 ∧ a0 % 549755813889 ≤ 549755813888 := by omega
  have c1 : 0 ≤ a1 % 549755813889 ∧ a1 % 549755813889 ≤ 549755813888 := by omega
  generalize hx : a0 % 549755813889 = x at *
  generalize hy : a1 % 549755813889 = y at *
  have one : ∀ v : Int, 0 ≤ v → v ≤ 1099511627776 → DM.aft (Int.toNat 1) (DM.bnd v) = DM.stp v := by
    intro v h0 h1
    rw [DM.bnd_id v h0 h1, show (Int.toNat 1) = 0 + 1 from rfl, DM.aft_succ']
    show (if 0 < v then DM.stp v else v) = DM.stp v
    by_cases hv : 0 < v
    · rw [if_pos hv]
    · obtain rfl : v = 0 := by omega
      rfl
  have e1 := one x c0.1 (by omega)
  have e2 := one y c1.1 (by omega)
  have e3 := one (x + y) (by omega) (by omega)
  have s1 := DM.stp_sum_le x y
  have s2 := DM.stp_sum_ge x y
  have p1 := DM.stp_nonneg x c0.1
  have p2 := DM.stp_nonneg y c1.1
  have q1 := DM.stp_le x c0.1
  have q2 := DM.stp_le y c1.1
  have q3 := DM.stp_le (x + y) (by omega)
  have Hx := Lib.hid hx
  have Hy := Lib.hid hy
  have E1 := Lib.hid e1
  have E2 := Lib.hid e2
  have E3 := Lib.hid e3
  clear hx hy e1 e2 e3 one
  generalize DM.stp x = sx at *
  generalize DM.stp y = sy at *
  generalize DM.stp (x + y) = sz at *
  go_enter Try.func8, Try.ntmps8
  go_wp2_with fail
  rw [Hx.out, Hy.out]
  refine (after_any _ _ _ (by omega)).mono ?_
  rintro e w1 ⟨rfl, hb1⟩
  rw [E1.out]
  go_wp2_with fail
  refine (after_any _ _ _ (by omega)).mono ?_
  rintro e w2 ⟨rfl, hb2⟩
  rw [E2.out]
  go_wp2_with fail
  refine (after_any _ _ _ (by omega)).mono ?_
  rintro e w3 ⟨rfl, hb3⟩
  rw [E3.out]
  go_wp2_with fail
  refine (decay_works _).mono ?_
  rintro e w5 ⟨rfl, hb5⟩
  go_wp2_with fail
  go_ret
  exact ⟨rfl, kept_trans hb1 (kept_trans hb2 (kept_trans hb3 hb5))⟩
theorem DecayKnown_walk (w : World) :
    Calls Try.prog 10 #[] w fun e w' => e = .returned (.bool true) ∧ Below w.heap.size w w' := by
  have e0 : DM.aft (Int.toNat 3) (DM.bnd (-5)) = 0 := by decide +kernel
  have e1 : DM.aft (Int.toNat 0) (DM.bnd 1099511627783) = 1099511627776 := by decide +kernel
  have e2 : DM.aft (Int.toNat (-1)) (DM.bnd 1000) = 1000 := by decide +kernel
  have e3 : DM.aft (Int.toNat 2) (DM.bnd 65536) = 65025 := by decide +kernel
  have e4 : DM.aft (Int.toNat 1) (DM.bnd 512) = 510 := by decide +kernel
  have e5 : DM.aft (Int.toNat 1) (DM.bnd 513) = 510 := by decide +kernel
  have e6 : DM.aft (Int.toNat 1) (DM.bnd 1) = 0 := by decide +kernel
  have e7 : DM.aft (Int.toNat 5) (DM.bnd 0) + 65536 = 65536 := by decide +kernel
  have e8 : DM.aft (Int.toNat 1) (DM.bnd 16777216) + 65536 = 16777216 := by decide +kernel
  have e9 : ((DM.life (DM.bnd 0) : Nat) : Int) = 0 := by decide +kernel
  have e10 : ((DM.life (DM.bnd 1) : Nat) : Int) = 1 := by decide +kernel
  have e11 : ((DM.life (DM.bnd (-3)) : Nat) : Int) = 0 := by decide +kernel
  have E0 := Lib.hid e0; clear e0
  have E1 := Lib.hid e1; clear e1
  have E2 := Lib.hid e2; clear e2
  have E3 := Lib.hid e3; clear e3
  have E4 := Lib.hid e4; clear e4
  have E5 := Lib.hid e5; clear e5
  have E6 := Lib.hid e6; clear e6
  have E7 := Lib.hid e7; clear e7
  have E8 := Lib.hid e8; clear e8
  have E9 := Lib.hid e9; clear e9
  have E10 := Lib.hid e10; clear e10
  have E11 := Lib.hid e11; clear e11
  go_enter Try.func10, Try.ntmps10
  go_wp2_with fail
  refine (after_any _ _ _ (by omega)).mono ?_
  rintro e w0 ⟨rfl, hb0⟩
  rw [E0.out]
  go_wp2_with fail
  refine (after_any _ _ _ (by omega)).mono ?_
  rintro e w1 ⟨rfl, hb1⟩
  rw [E1.out]
  go_wp2_with fail
  refine (after_any _ _ _ (by omega)).mono ?_
  rintro e w2 ⟨rfl, hb2⟩
  rw [E2.out]
  go_wp2_with fail
  refine (after_any _ _ _ (by omega)).mono ?_
  rintro e w3 ⟨rfl, hb3⟩
  rw [E3.out]
  go_wp2_with fail
  refine (after_any _ _ _ (by omega)).mono ?_
  rintro e w4 ⟨rfl, hb4⟩
  rw [E4.out]
  go_wp2_with fail
  refine (after_any _ _ _ (by omega)).mono ?_
  rintro e w5 ⟨rfl, hb5⟩
  rw [E5.out]
  go_wp2_with fail
  refine (after_any _ _ _ (by omega)).mono ?_
  rintro e w6 ⟨rfl, hb6⟩
  rw [E6.out]
  go_wp2_with fail
  refine (use_any _ _ _ (by omega)).mono ?_
  rintro e w7 ⟨rfl, hb7⟩
  rw [E7.out]
  go_wp2_with fail
  refine (use_any _ _ _ (by omega)).mono ?_
  rintro e w8 ⟨rfl, hb8⟩
  rw [E8.out]
  go_wp2_with fail
  refine (life_any _ _).mono ?_
  rintro e w9 ⟨rfl, hb9⟩
  rw [E9.out]
  go_wp2_with fail
  refine (life_any _ _).mono ?_
  rintro e w10 ⟨rfl, hb10⟩
  rw [E10.out]
  go_wp2_with fail
  refine (life_any _ _).mono ?_
  rintro e w11 ⟨rfl, hb11⟩
  rw [E11.out]
  go_wp2_with fail
  refine (decay_works _).mono ?_
  rintro e w12 ⟨rfl, hb12⟩
  go_wp2_with fail
  go_ret
  exact ⟨rfl, kept_trans hb0 (kept_trans hb1 (kept_trans hb2 (kept_trans hb3 (kept_trans hb4 (kept_trans hb5 (kept_trans hb6 (kept_trans hb7 (kept_trans hb8 (kept_trans hb9 (kept_trans hb10 (kept_trans hb11 (hb12))))))))))))⟩

theorem after_end (v n : Int) (w : World) (hn2 : n ≤ 9223372036854775807) (h : ((DM.life (DM.bnd v) : Nat) : Int) ≤ n) :
    Calls Try.prog 11 #[.int .i64 v, .int .i64 n] w fun e w' => e = .returned (.int .i64 0) ∧ Below w.heap.size w w' := by
  refine (after_any v n w hn2).mono ?_
  rintro e w1 ⟨rfl, hb⟩
  exact ⟨ret_int ((DM.aft_life _ (DM.bnd_nonneg v) n.toNat).2 (by omega)), hb⟩

theorem after_pre (v n : Int) (w : World) (hn2 : n ≤ 9223372036854775807) (h0 : 0 ≤ n) (h : n < ((DM.life (DM.bnd v) : Nat) : Int)) :
    Calls Try.prog 11 #[.int .i64 v, .int .i64 n] w fun e w' => ∃ r : Int, 1 ≤ r ∧ r ≤ 1099511627776 ∧ e = .returned (.int .i64 r) ∧ Below w.heap.size w w' := by
  refine (after_any v n w hn2).mono ?_
  rintro e w1 ⟨rfl, hb⟩
  have a := DM.aft_life _ (DM.bnd_nonneg v) n.toNat
  have b := DM.aft_nonneg n.toNat _ (DM.bnd_nonneg v)
  have c := DM.aft_le n.toNat _ (DM.bnd_nonneg v)
  have d := DM.bnd_le v
  exact ⟨_, by omega, by omega, rfl, hb⟩

set_option maxHeartbeats 2000000 in
theorem DecayEnds_walk (a0 a1 : Int) (w : World) (w0 : (Lit.int .u64 a0).wf = true) (w1 : (Lit.int .u64 a1).wf = true) :
    Calls Try.prog 9 #[.int .u64 a0, .int .u64 a1] w fun e w' => e = .returned (.bool true) ∧ Below w.heap.size w w' := by
  have g0 := bounds_u64 w0
  have g1 := bounds_u64 w1
  have c0 := cut_bd a0 g0.1
  have c1 := cut_bd a1 g1.1
  go_enter Try.func9, Try.ntmps9
  go_wp2_with (go_at_call 18; refine (cut_any _ _ (by omega) (by omega)).mono ?_; rintro e w' ⟨rfl, rfl⟩)
  have hl0 := DM.life_le _ (DM.bnd_nonneg (a0 % 1099511627777)) (DM.bnd_le (a0 % 1099511627777))
  have hl1 : ((DM.life (DM.bnd (a0 % 1099511627777)) : Nat) : Int) ≤ 6000 := by omega
  refine (life_any _ _).mono ?_
  rintro e w1 ⟨rfl, hb1⟩
  generalize hl : DM.life (DM.bnd (a0 % 1099511627777)) = l at *
  have HL := Lib.hid hl; clear hl
  have hy6 : 0 ≤ a1 % 1099511627777 % 6001 ∧ a1 % 1099511627777 % 6001 ≤ 6000 := by omega
  by_cases hp : 0 < (l : Int)
  · by_cases hk : (l : Int) ≤ a1 % 1099511627777
    · by_cases hk6 : (l : Int) ≤ a1 % 1099511627777 % 6001
      · have hd6 : decide ((l : Int) ≤ a1 % 1099511627777 % 6001) = true := by simpa using hk6
        go_wp2_with (go_at_call 18; refine (cut_any _ _ (by omega) (by omega)).mono ?_; rintro e w' ⟨rfl, rfl⟩)
        refine (after_pre _ _ _ (by omega) (by omega) (by rw [HL.out]; omega)).mono ?_
        rintro e w2 ⟨r, hr1, hr2, rfl, hb2⟩
        go_wp2_with (go_at_call 18; refine (cut_any _ _ (by omega) (by omega)).mono ?_; rintro e w' ⟨rfl, rfl⟩)
        refine (after_end _ _ _ (by omega) (by rw [HL.out]; omega)).mono ?_
        rintro e w3 ⟨rfl, hb3⟩
        go_wp2_with (go_at_call 18; refine (cut_any _ _ (by omega) (by omega)).mono ?_; rintro e w' ⟨rfl, rfl⟩)
        refine (after_end _ _ _ (by omega) (by rw [HL.out]; omega)).mono ?_
        rintro e w4 ⟨rfl, hb4⟩
        go_wp2_with (go_at_call 18; refine (cut_any _ _ (by omega) (by omega)).mono ?_; rintro e w' ⟨rfl, rfl⟩)
        refine (after_end _ _ _ (by omega) (by rw [HL.out]; omega)).mono ?_
        rintro e w5 ⟨rfl, hb5⟩
        go_wp2_with fail
        refine (decay_works _).mono ?_
        rintro e w6 ⟨rfl, hb6⟩
        go_wp2_with fail
        go_ret
        exact ⟨rfl, kept_trans hb1 (kept_trans hb2 (kept_trans hb3 (kept_trans hb4 (kept_trans hb5 (hb6)))))⟩
      · have hd6 : decide ((l : Int) ≤ a1 % 1099511627777 % 6001) = false := by simpa using hk6
        go_wp2_with (go_at_call 18; refine (cut_any _ _ (by omega) (by omega)).mono ?_; rintro e w' ⟨rfl, rfl⟩)
        refine (after_pre _ _ _ (by omega) (by omega) (by rw [HL.out]; omega)).mono ?_
        rintro e w2 ⟨r, hr1, hr2, rfl, hb2⟩
        go_wp2_with (go_at_call 18; refine (cut_any _ _ (by omega) (by omega)).mono ?_; rintro e w' ⟨rfl, rfl⟩)
        refine (after_end _ _ _ (by omega) (by rw [HL.out]; omega)).mono ?_
        rintro e w3 ⟨rfl, hb3⟩
        go_wp2_with (go_at_call 18; refine (cut_any _ _ (by omega) (by omega)).mono ?_; rintro e w' ⟨rfl, rfl⟩)
        refine (after_end _ _ _ (by omega) (by rw [HL.out]; omega)).mono ?_
        rintro e w4 ⟨rfl, hb4⟩
        go_wp2_with (go_at_call 18; refine (cut_any _ _ (by omega) (by omega)).mono ?_; rintro e w' ⟨rfl, rfl⟩)
        refine (after_pre _ _ _ (by omega) (by omega) (by rw [HL.out]; omega)).mono ?_
        rintro e w5 ⟨r5, hr5a, hr5b, rfl, hb5⟩
        have hr5c : (r5 == 0) = false := by simp; omega
        go_wp2_with fail
        refine (decay_works _).mono ?_
        rintro e w6 ⟨rfl, hb6⟩
        go_wp2_with fail
        go_ret
        exact ⟨rfl, kept_trans hb1 (kept_trans hb2 (kept_trans hb3 (kept_trans hb4 (kept_trans hb5 (hb6)))))⟩
    · have hk6 : ¬ (l : Int) ≤ a1 % 1099511627777 % 6001 := by omega
      have hd6 : decide ((l : Int) ≤ a1 % 1099511627777 % 6001) = false := by simpa using hk6
      have hd : decide ((l : Int) ≤ a1 % 1099511627777) = false := by simpa using hk
      go_wp2_with (go_at_call 18; refine (cut_any _ _ (by omega) (by omega)).mono ?_; rintro e w' ⟨rfl, rfl⟩)
      refine (after_pre _ _ _ (by omega) (by omega) (by rw [HL.out]; omega)).mono ?_
      rintro e w2 ⟨r, hr1, hr2, rfl, hb2⟩
      go_wp2_with (go_at_call 18; refine (cut_any _ _ (by omega) (by omega)).mono ?_; rintro e w' ⟨rfl, rfl⟩)
      refine (after_end _ _ _ (by omega) (by rw [HL.out]; omega)).mono ?_
      rintro e w3 ⟨rfl, hb3⟩
      go_wp2_with (go_at_call 18; refine (cut_any _ _ (by omega) (by omega)).mono ?_; rintro e w' ⟨rfl, rfl⟩)
      refine (after_pre _ _ _ (by omega) (by omega) (by rw [HL.out]; omega)).mono ?_
      rintro e w4 ⟨r4, hr4a, hr4b, rfl, hb4⟩
      have hr4c : (r4 == 0) = false := by simp; omega
      go_wp2_with (go_at_call 18; refine (cut_any _ _ (by omega) (by omega)).mono ?_; rintro e w' ⟨rfl, rfl⟩)
      refine (after_pre _ _ _ (by omega) (by omega) (by rw [HL.out]; omega)).mono ?_
      rintro e w5 ⟨r5, hr5a, hr5b, rfl, hb5⟩
      have hr5c : (r5 == 0) = false := by simp; omega
      go_wp2_with fail
      refine (decay_works _).mono ?_
      rintro e w6 ⟨rfl, hb6⟩
      go_wp2_with fail
      go_ret
      exact ⟨rfl, kept_trans hb1 (kept_trans hb2 (kept_trans hb3 (kept_trans hb4 (kept_trans hb5 (hb6)))))⟩
  · have hk : (l : Int) ≤ a1 % 1099511627777 := by omega
    have hk6 : (l : Int) ≤ a1 % 1099511627777 % 6001 := by omega
    go_wp2_with (go_at_call 18; refine (cut_any _ _ (by omega) (by omega)).mono ?_; rintro e w' ⟨rfl, rfl⟩)
    refine (after_end _ _ _ (by omega) (by rw [HL.out]; omega)).mono ?_
    rintro e w3 ⟨rfl, hb3⟩
    go_wp2_with (go_at_call 18; refine (cut_any _ _ (by omega) (by omega)).mono ?_; rintro e w' ⟨rfl, rfl⟩)
    refine (after_end _ _ _ (by omega) (by rw [HL.out]; omega)).mono ?_
    rintro e w4 ⟨rfl, hb4⟩
    go_wp2_with (go_at_call 18; refine (cut_any _ _ (by omega) (by omega)).mono ?_; rintro e w' ⟨rfl, rfl⟩)
    refine (after_end _ _ _ (by omega) (by rw [HL.out]; omega)).mono ?_
    rintro e w5 ⟨rfl, hb5⟩
    go_wp2_with fail
    refine (decay_works _).mono ?_
    rintro e w6 ⟨rfl, hb6⟩
    go_wp2_with fail
    go_ret
    exact ⟨rfl, kept_trans hb1 (kept_trans hb3 (kept_trans hb4 (kept_trans hb5 (hb6))))⟩
end Go.Proofs.Ytnkbgkcpdigcaaa
