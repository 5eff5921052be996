/- The laws on counts whose argument is a struct or a slice. No condition. -/
import Derived.Test.YtnkbgkcpdigcaaaDecayWorks
import Derived.Test.YtnkbgkcpdigcaaaDecayLaws
import Derived.OpenShut
import Derived.Lib.SmallJoins
namespace Go.Proofs.Ytnkbgkcpdigcaaa
open Go.RowKit Go.Joins Go.ChangeShapes Go.WideShapes Go.ChangeAt
set_option linter.unusedVariables false

def IsBoth (_w : World) (v : Value) : Prop :=
  ∃ a b c d : Int, v = .agg #[.int .u64 a, .int .u64 b, .int .u64 c, .int .u64 d] ∧ (0 ≤ a ∧ a ≤ 18446744073709551615) ∧ (0 ≤ b ∧ b ≤ 18446744073709551615) ∧ (0 ≤ c ∧ c ≤ 18446744073709551615) ∧ (0 ≤ d ∧ d ≤ 18446744073709551615)

theorem cellsBoth : Try.prog.cellsOf 31 = 4 := by kernel_rfl

theorem open_Both {H : Type} {enc : TypeId × Value → H} {w : World} {b0 : Nat} {v : Value} {d : DataW H} {p : List MemPlace}
    (hv : Value.okWide Try.prog w .any b0 31 v) (h : DataW.Trod enc Try.prog w 0 (fun _ => true) true 31 v d p) : IsBoth w v := by
  obtain ⟨c0, c1, c2, c3, y0, y1, y2, y3, m, rfl, rfl, rfl, h0, h1, h2, h3⟩ := open_agg4 Try.underlying31 (by kernel_rfl) cellsBoth hv h
  obtain ⟨a, e0, rfl, wa⟩ := DataW.trod_int Try.underlying27 h0
  obtain ⟨b, e1, rfl, wb⟩ := DataW.trod_int Try.underlying27 h1
  obtain ⟨c, e2, rfl, wc⟩ := DataW.trod_int Try.underlying27 h2
  obtain ⟨d, e3, rfl, wd⟩ := DataW.trod_int Try.underlying27 h3
  simp at e0 e1 e2 e3
  subst e0 e1 e2 e3
  exact ⟨a, b, c, d, rfl, bounds_u64 wa, bounds_u64 wb, bounds_u64 wc, bounds_u64 wd⟩

/-- what the law needs of the counts, each as the walk meets it -/
structure OrdFacts (p q m n : Int) : Prop where
  f1 : DM.aft m.toNat (DM.bnd p) ≤ DM.aft m.toNat (DM.bnd q)
  f2 : DM.aft n.toNat (DM.bnd q) ≤ DM.aft m.toNat (DM.bnd q)
  f3 : DM.aft (Int.toNat 1) (DM.bnd p) ≤ p
  f4 : ¬ p = 0 → DM.aft (Int.toNat 1) (DM.bnd p) < p

theorem ordFacts (p q m n : Int) (h0 : 0 ≤ p) (h : p ≤ q) (hq : q ≤ 1099511627776) (hm : 0 ≤ m) (hn : m ≤ n) : OrdFacts p q m n := by
  have e1 := DM.bnd_id p h0 (by omega)
  have e2 := DM.bnd_id q (by omega) hq
  have e3 : DM.aft (Int.toNat 1) p = DM.stp p := by
    show (if 0 < p then DM.stp p else p) = DM.stp p
    by_cases hv : 0 < p
    · rw [if_pos hv]
    · obtain rfl : p = 0 := by omega
      rfl
  constructor
  · rw [e1, e2]; exact DM.aft_mono _ _ _ h0 h
  · rw [e2]; exact DM.aft_more _ _ _ (by omega) (by omega)
  · rw [e1, e3]; exact DM.stp_le p h0
  · intro hz; rw [e1, e3]; exact DM.stp_lt p (by omega)

set_option maxHeartbeats 2000000 in
theorem dord_lt_lt (a b c d : Int) (w : World) (ha : 0 ≤ a ∧ a ≤ 18446744073709551615) (hb : 0 ≤ b ∧ b ≤ 18446744073709551615) (hc : 0 ≤ c ∧ c ≤ 18446744073709551615) (hd : 0 ≤ d ∧ d ≤ 18446744073709551615) (h1 : a % 1099511627777 < b % 1099511627777) (h2 : c % 1099511627777 < d % 1099511627777) :
    Calls Try.prog 6 #[.agg #[.int .u64 a, .int .u64 b, .int .u64 c, .int .u64 d]] w fun e w' => e = .returned (.bool true) ∧ Below w.heap.size w w' := by
  have ca := cut_bd a ha.1
  have cb := cut_bd b hb.1
  have cc := cut_bd c hc.1
  have cd := cut_bd d hd.1
  have F := ordFacts (a % 1099511627777) (b % 1099511627777) (c % 1099511627777) (d % 1099511627777) (by omega) (by omega) (by omega) (by omega) (by omega)
  have f1 := F.f1; have f2 := F.f2; have f3 := F.f3; have f4 := F.f4; clear F
  have n1 := DM.aft_nonneg (c % 1099511627777).toNat _ (DM.bnd_nonneg (a % 1099511627777))
  have n2 := DM.aft_nonneg (d % 1099511627777).toNat _ (DM.bnd_nonneg (b % 1099511627777))
  have n3 := DM.aft_nonneg (Int.toNat 1) _ (DM.bnd_nonneg (a % 1099511627777))
  go_enter Try.func6, Try.ntmps6
  go_wp2_with fail
  go_quiet ((go_at_call 18; exact quiet_same (cut_any _ _ (by omega) (by omega))))
  go_wp2_with fail
  go_quiet ((go_at_call 18; exact quiet_same2 (cut_any _ _ (by omega) (by omega))))
  go_wp2_with fail
  refine (after_any _ _ _ (by omega)).mono ?_
  rintro e w1 ⟨rfl, hb1⟩
  go_wp2_with fail
  refine (after_any _ _ _ (by omega)).mono ?_
  rintro e w2 ⟨rfl, hb2⟩
  go_wp2_with fail
  refine (after_any _ _ _ (by omega)).mono ?_
  rintro e w3 ⟨rfl, hb3⟩
  go_wp2_with fail
  refine (after_any _ _ _ (by omega)).mono ?_
  rintro e w4 ⟨rfl, hb4⟩
  go_wp2_with fail
  refine (after_any _ _ _ (by omega)).mono ?_
  rintro e w5 ⟨rfl, hb5⟩
  by_cases hz : a % 1099511627777 = 0
  · have hz' : ((a % 1099511627777) == 0) = true := beq_iff_eq.2 hz
    have Hz := Lib.hid hz; clear hz f4
    go_wp2_with fail
    refine (decay_works _).mono ?_
    rintro e w7 ⟨rfl, hb7⟩
    go_wp2_with fail
    go_ret
    exact ⟨rfl, (kept_drewN (kept_alloc _ _) _).trans ((kept_trans hb1 (kept_trans hb2 (kept_trans hb3 (kept_trans hb4 (kept_trans hb5 hb7))))).mono (by simp))⟩
  · have hz' : ((a % 1099511627777) == 0) = false := beq_eq_false_iff_ne.2 hz
    have f5 := f4 hz; clear f4
    go_wp2_with fail
    refine (after_any _ _ _ (by omega)).mono ?_
    rintro e w6 ⟨rfl, hb6⟩
    go_wp2_with fail
    refine (decay_works _).mono ?_
    rintro e w7 ⟨rfl, hb7⟩
    go_wp2_with fail
    go_ret
    exact ⟨rfl, (kept_drewN (kept_alloc _ _) _).trans ((kept_trans hb1 (kept_trans hb2 (kept_trans hb3 (kept_trans hb4 (kept_trans hb5 (kept_trans hb6 hb7)))))).mono (by simp))⟩

set_option maxHeartbeats 2000000 in
theorem dord_lt_eq (a b c d : Int) (w : World) (ha : 0 ≤ a ∧ a ≤ 18446744073709551615) (hb : 0 ≤ b ∧ b ≤ 18446744073709551615) (hc : 0 ≤ c ∧ c ≤ 18446744073709551615) (hd : 0 ≤ d ∧ d ≤ 18446744073709551615) (h1 : a % 1099511627777 < b % 1099511627777) (h2 : c % 1099511627777 ≤ d % 1099511627777) (h2' : d % 1099511627777 ≤ c % 1099511627777) :
    Calls Try.prog 6 #[.agg #[.int .u64 a, .int .u64 b, .int .u64 c, .int .u64 d]] w fun e w' => e = .returned (.bool true) ∧ Below w.heap.size w w' := by
  have ca := cut_bd a ha.1
  have cb := cut_bd b hb.1
  have cc := cut_bd c hc.1
  have cd := cut_bd d hd.1
  have F := ordFacts (a % 1099511627777) (b % 1099511627777) (c % 1099511627777) (c % 1099511627777) (by omega) (by omega) (by omega) (by omega) (by omega)
  have f1 := F.f1; have f2 := F.f2; have f3 := F.f3; have f4 := F.f4; clear F
  have n1 := DM.aft_nonneg (c % 1099511627777).toNat _ (DM.bnd_nonneg (a % 1099511627777))
  have n2 := DM.aft_nonneg (c % 1099511627777).toNat _ (DM.bnd_nonneg (b % 1099511627777))
  have n3 := DM.aft_nonneg (Int.toNat 1) _ (DM.bnd_nonneg (a % 1099511627777))
  go_enter Try.func6, Try.ntmps6
  go_wp2_with fail
  go_quiet ((go_at_call 18; exact quiet_same (cut_any _ _ (by omega) (by omega))))
  go_wp2_with fail
  go_quiet ((go_at_call 18; exact quiet_same2 (cut_any _ _ (by omega) (by omega))))
  go_wp2_with fail
  refine (after_any _ _ _ (by omega)).mono ?_
  rintro e w1 ⟨rfl, hb1⟩
  go_wp2_with fail
  refine (after_any _ _ _ (by omega)).mono ?_
  rintro e w2 ⟨rfl, hb2⟩
  go_wp2_with fail
  refine (after_any _ _ _ (by omega)).mono ?_
  rintro e w3 ⟨rfl, hb3⟩
  go_wp2_with fail
  refine (after_any _ _ _ (by omega)).mono ?_
  rintro e w4 ⟨rfl, hb4⟩
  go_wp2_with fail
  refine (after_any _ _ _ (by omega)).mono ?_
  rintro e w5 ⟨rfl, hb5⟩
  by_cases hz : a % 1099511627777 = 0
  · have hz' : ((a % 1099511627777) == 0) = true := beq_iff_eq.2 hz
    have Hz := Lib.hid hz; clear hz f4
    go_wp2_with fail
    refine (decay_works _).mono ?_
    rintro e w7 ⟨rfl, hb7⟩
    go_wp2_with fail
    go_ret
    exact ⟨rfl, (kept_drewN (kept_alloc _ _) _).trans ((kept_trans hb1 (kept_trans hb2 (kept_trans hb3 (kept_trans hb4 (kept_trans hb5 hb7))))).mono (by simp))⟩
  · have hz' : ((a % 1099511627777) == 0) = false := beq_eq_false_iff_ne.2 hz
    have f5 := f4 hz; clear f4
    go_wp2_with fail
    refine (after_any _ _ _ (by omega)).mono ?_
    rintro e w6 ⟨rfl, hb6⟩
    go_wp2_with fail
    refine (decay_works _).mono ?_
    rintro e w7 ⟨rfl, hb7⟩
    go_wp2_with fail
    go_ret
    exact ⟨rfl, (kept_drewN (kept_alloc _ _) _).trans ((kept_trans hb1 (kept_trans hb2 (kept_trans hb3 (kept_trans hb4 (kept_trans hb5 (kept_trans hb6 hb7)))))).mono (by simp))⟩

set_option maxHeartbeats 2000000 in
theorem dord_lt_gt (a b c d : Int) (w : World) (ha : 0 ≤ a ∧ a ≤ 18446744073709551615) (hb : 0 ≤ b ∧ b ≤ 18446744073709551615) (hc : 0 ≤ c ∧ c ≤ 18446744073709551615) (hd : 0 ≤ d ∧ d ≤ 18446744073709551615) (h1 : a % 1099511627777 < b % 1099511627777) (h2 : d % 1099511627777 < c % 1099511627777) :
    Calls Try.prog 6 #[.agg #[.int .u64 a, .int .u64 b, .int .u64 c, .int .u64 d]] w fun e w' => e = .returned (.bool true) ∧ Below w.heap.size w w' := by
  have ca := cut_bd a ha.1
  have cb := cut_bd b hb.1
  have cc := cut_bd c hc.1
  have cd := cut_bd d hd.1
  have F := ordFacts (a % 1099511627777) (b % 1099511627777) (d % 1099511627777) (c % 1099511627777) (by omega) (by omega) (by omega) (by omega) (by omega)
  have f1 := F.f1; have f2 := F.f2; have f3 := F.f3; have f4 := F.f4; clear F
  have n1 := DM.aft_nonneg (d % 1099511627777).toNat _ (DM.bnd_nonneg (a % 1099511627777))
  have n2 := DM.aft_nonneg (c % 1099511627777).toNat _ (DM.bnd_nonneg (b % 1099511627777))
  have n3 := DM.aft_nonneg (Int.toNat 1) _ (DM.bnd_nonneg (a % 1099511627777))
  go_enter Try.func6, Try.ntmps6
  go_wp2_with fail
  go_quiet ((go_at_call 18; exact quiet_same (cut_any _ _ (by omega) (by omega))))
  go_wp2_with fail
  go_quiet ((go_at_call 18; exact quiet_same2 (cut_any _ _ (by omega) (by omega))))
  go_wp2_with fail
  refine (after_any _ _ _ (by omega)).mono ?_
  rintro e w1 ⟨rfl, hb1⟩
  go_wp2_with fail
  refine (after_any _ _ _ (by omega)).mono ?_
  rintro e w2 ⟨rfl, hb2⟩
  go_wp2_with fail
  refine (after_any _ _ _ (by omega)).mono ?_
  rintro e w3 ⟨rfl, hb3⟩
  go_wp2_with fail
  refine (after_any _ _ _ (by omega)).mono ?_
  rintro e w4 ⟨rfl, hb4⟩
  go_wp2_with fail
  refine (after_any _ _ _ (by omega)).mono ?_
  rintro e w5 ⟨rfl, hb5⟩
  by_cases hz : a % 1099511627777 = 0
  · have hz' : ((a % 1099511627777) == 0) = true := beq_iff_eq.2 hz
    have Hz := Lib.hid hz; clear hz f4
    go_wp2_with fail
    refine (decay_works _).mono ?_
    rintro e w7 ⟨rfl, hb7⟩
    go_wp2_with fail
    go_ret
    exact ⟨rfl, (kept_drewN (kept_alloc _ _) _).trans ((kept_trans hb1 (kept_trans hb2 (kept_trans hb3 (kept_trans hb4 (kept_trans hb5 hb7))))).mono (by simp))⟩
  · have hz' : ((a % 1099511627777) == 0) = false := beq_eq_false_iff_ne.2 hz
    have f5 := f4 hz; clear f4
    go_wp2_with fail
    refine (after_any _ _ _ (by omega)).mono ?_
    rintro e w6 ⟨rfl, hb6⟩
    go_wp2_with fail
    refine (decay_works _).mono ?_
    rintro e w7 ⟨rfl, hb7⟩
    go_wp2_with fail
    go_ret
    exact ⟨rfl, (kept_drewN (kept_alloc _ _) _).trans ((kept_trans hb1 (kept_trans hb2 (kept_trans hb3 (kept_trans hb4 (kept_trans hb5 (kept_trans hb6 hb7)))))).mono (by simp))⟩

set_option maxHeartbeats 2000000 in
theorem dord_eq_lt (a b c d : Int) (w : World) (ha : 0 ≤ a ∧ a ≤ 18446744073709551615) (hb : 0 ≤ b ∧ b ≤ 18446744073709551615) (hc : 0 ≤ c ∧ c ≤ 18446744073709551615) (hd : 0 ≤ d ∧ d ≤ 18446744073709551615) (h1 : a % 1099511627777 ≤ b % 1099511627777) (h1' : b % 1099511627777 ≤ a % 1099511627777) (h2 : c % 1099511627777 < d % 1099511627777) :
    Calls Try.prog 6 #[.agg #[.int .u64 a, .int .u64 b, .int .u64 c, .int .u64 d]] w fun e w' => e = .returned (.bool true) ∧ Below w.heap.size w w' := by
  have ca := cut_bd a ha.1
  have cb := cut_bd b hb.1
  have cc := cut_bd c hc.1
  have cd := cut_bd d hd.1
  have F := ordFacts (a % 1099511627777) (a % 1099511627777) (c % 1099511627777) (d % 1099511627777) (by omega) (by omega) (by omega) (by omega) (by omega)
  have f1 := F.f1; have f2 := F.f2; have f3 := F.f3; have f4 := F.f4; clear F
  have n1 := DM.aft_nonneg (c % 1099511627777).toNat _ (DM.bnd_nonneg (a % 1099511627777))
  have n2 := DM.aft_nonneg (d % 1099511627777).toNat _ (DM.bnd_nonneg (a % 1099511627777))
  have n3 := DM.aft_nonneg (Int.toNat 1) _ (DM.bnd_nonneg (a % 1099511627777))
  go_enter Try.func6, Try.ntmps6
  go_wp2_with fail
  go_quiet ((go_at_call 18; exact quiet_same (cut_any _ _ (by omega) (by omega))))
  go_wp2_with fail
  go_quiet ((go_at_call 18; exact quiet_same2 (cut_any _ _ (by omega) (by omega))))
  go_wp2_with fail
  refine (after_any _ _ _ (by omega)).mono ?_
  rintro e w1 ⟨rfl, hb1⟩
  go_wp2_with fail
  refine (after_any _ _ _ (by omega)).mono ?_
  rintro e w2 ⟨rfl, hb2⟩
  go_wp2_with fail
  refine (after_any _ _ _ (by omega)).mono ?_
  rintro e w3 ⟨rfl, hb3⟩
  go_wp2_with fail
  refine (after_any _ _ _ (by omega)).mono ?_
  rintro e w4 ⟨rfl, hb4⟩
  go_wp2_with fail
  refine (after_any _ _ _ (by omega)).mono ?_
  rintro e w5 ⟨rfl, hb5⟩
  by_cases hz : a % 1099511627777 = 0
  · have hz' : ((a % 1099511627777) == 0) = true := beq_iff_eq.2 hz
    have Hz := Lib.hid hz; clear hz f4
    go_wp2_with fail
    refine (decay_works _).mono ?_
    rintro e w7 ⟨rfl, hb7⟩
    go_wp2_with fail
    go_ret
    exact ⟨rfl, (kept_drewN (kept_alloc _ _) _).trans ((kept_trans hb1 (kept_trans hb2 (kept_trans hb3 (kept_trans hb4 (kept_trans hb5 hb7))))).mono (by simp))⟩
  · have hz' : ((a % 1099511627777) == 0) = false := beq_eq_false_iff_ne.2 hz
    have f5 := f4 hz; clear f4
    go_wp2_with fail
    refine (after_any _ _ _ (by omega)).mono ?_
    rintro e w6 ⟨rfl, hb6⟩
    go_wp2_with fail
    refine (decay_works _).mono ?_
    rintro e w7 ⟨rfl, hb7⟩
    go_wp2_with fail
    go_ret
    exact ⟨rfl, (kept_drewN (kept_alloc _ _) _).trans ((kept_trans hb1 (kept_trans hb2 (kept_trans hb3 (kept_trans hb4 (kept_trans hb5 (kept_trans hb6 hb7)))))).mono (by simp))⟩

set_option maxHeartbeats 2000000 in
theorem dord_eq_eq (a b c d : Int) (w : World) (ha : 0 ≤ a ∧ a ≤ 18446744073709551615) (hb : 0 ≤ b ∧ b ≤ 18446744073709551615) (hc : 0 ≤ c ∧ c ≤ 18446744073709551615) (hd : 0 ≤ d ∧ d ≤ 18446744073709551615) (h1 : a % 1099511627777 ≤ b % 1099511627777) (h1' : b % 1099511627777 ≤ a % 1099511627777) (h2 : c % 1099511627777 ≤ d % 1099511627777) (h2' : d % 1099511627777 ≤ c % 1099511627777) :
    Calls Try.prog 6 #[.agg #[.int .u64 a, .int .u64 b, .int .u64 c, .int .u64 d]] w fun e w' => e = .returned (.bool true) ∧ Below w.heap.size w w' := by
  have ca := cut_bd a ha.1
  have cb := cut_bd b hb.1
  have cc := cut_bd c hc.1
  have cd := cut_bd d hd.1
  have F := ordFacts (a % 1099511627777) (a % 1099511627777) (c % 1099511627777) (c % 1099511627777) (by omega) (by omega) (by omega) (by omega) (by omega)
  have f1 := F.f1; have f2 := F.f2; have f3 := F.f3; have f4 := F.f4; clear F
  have n1 := DM.aft_nonneg (c % 1099511627777).toNat _ (DM.bnd_nonneg (a % 1099511627777))
  have n2 := DM.aft_nonneg (c % 1099511627777).toNat _ (DM.bnd_nonneg (a % 1099511627777))
  have n3 := DM.aft_nonneg (Int.toNat 1) _ (DM.bnd_nonneg (a % 1099511627777))
  go_enter Try.func6, Try.ntmps6
  go_wp2_with fail
  go_quiet ((go_at_call 18; exact quiet_same (cut_any _ _ (by omega) (by omega))))
  go_wp2_with fail
  go_quiet ((go_at_call 18; exact quiet_same2 (cut_any _ _ (by omega) (by omega))))
  go_wp2_with fail
  refine (after_any _ _ _ (by omega)).mono ?_
  rintro e w1 ⟨rfl, hb1⟩
  go_wp2_with fail
  refine (after_any _ _ _ (by omega)).mono ?_
  rintro e w2 ⟨rfl, hb2⟩
  go_wp2_with fail
  refine (after_any _ _ _ (by omega)).mono ?_
  rintro e w3 ⟨rfl, hb3⟩
  go_wp2_with fail
  refine (after_any _ _ _ (by omega)).mono ?_
  rintro e w4 ⟨rfl, hb4⟩
  go_wp2_with fail
  refine (after_any _ _ _ (by omega)).mono ?_
  rintro e w5 ⟨rfl, hb5⟩
  by_cases hz : a % 1099511627777 = 0
  · have hz' : ((a % 1099511627777) == 0) = true := beq_iff_eq.2 hz
    have Hz := Lib.hid hz; clear hz f4
    go_wp2_with fail
    refine (decay_works _).mono ?_
    rintro e w7 ⟨rfl, hb7⟩
    go_wp2_with fail
    go_ret
    exact ⟨rfl, (kept_drewN (kept_alloc _ _) _).trans ((kept_trans hb1 (kept_trans hb2 (kept_trans hb3 (kept_trans hb4 (kept_trans hb5 hb7))))).mono (by simp))⟩
  · have hz' : ((a % 1099511627777) == 0) = false := beq_eq_false_iff_ne.2 hz
    have f5 := f4 hz; clear f4
    go_wp2_with fail
    refine (after_any _ _ _ (by omega)).mono ?_
    rintro e w6 ⟨rfl, hb6⟩
    go_wp2_with fail
    refine (decay_works _).mono ?_
    rintro e w7 ⟨rfl, hb7⟩
    go_wp2_with fail
    go_ret
    exact ⟨rfl, (kept_drewN (kept_alloc _ _) _).trans ((kept_trans hb1 (kept_trans hb2 (kept_trans hb3 (kept_trans hb4 (kept_trans hb5 (kept_trans hb6 hb7)))))).mono (by simp))⟩

set_option maxHeartbeats 2000000 in
theorem dord_eq_gt (a b c d : Int) (w : World) (ha : 0 ≤ a ∧ a ≤ 18446744073709551615) (hb : 0 ≤ b ∧ b ≤ 18446744073709551615) (hc : 0 ≤ c ∧ c ≤ 18446744073709551615) (hd : 0 ≤ d ∧ d ≤ 18446744073709551615) (h1 : a % 1099511627777 ≤ b % 1099511627777) (h1' : b % 1099511627777 ≤ a % 1099511627777) (h2 : d % 1099511627777 < c % 1099511627777) :
    Calls Try.prog 6 #[.agg #[.int .u64 a, .int .u64 b, .int .u64 c, .int .u64 d]] w fun e w' => e = .returned (.bool true) ∧ Below w.heap.size w w' := by
  have ca := cut_bd a ha.1
  have cb := cut_bd b hb.1
  have cc := cut_bd c hc.1
  have cd := cut_bd d hd.1
  have F := ordFacts (a % 1099511627777) (a % 1099511627777) (d % 1099511627777) (c % 1099511627777) (by omega) (by omega) (by omega) (by omega) (by omega)
  have f1 := F.f1; have f2 := F.f2; have f3 := F.f3; have f4 := F.f4; clear F
  have n1 := DM.aft_nonneg (d % 1099511627777).toNat _ (DM.bnd_nonneg (a % 1099511627777))
  have n2 := DM.aft_nonneg (c % 1099511627777).toNat _ (DM.bnd_nonneg (a % 1099511627777))
  have n3 := DM.aft_nonneg (Int.toNat 1) _ (DM.bnd_nonneg (a % 1099511627777))
  go_enter Try.func6, Try.ntmps6
  go_wp2_with fail
  go_quiet ((go_at_call 18; exact quiet_same (cut_any _ _ (by omega) (by omega))))
  go_wp2_with fail
  go_quiet ((go_at_call 18; exact quiet_same2 (cut_any _ _ (by omega) (by omega))))
  go_wp2_with fail
  refine (after_any _ _ _ (by omega)).mono ?_
  rintro e w1 ⟨rfl, hb1⟩
  go_wp2_with fail
  refine (after_any _ _ _ (by omega)).mono ?_
  rintro e w2 ⟨rfl, hb2⟩
  go_wp2_with fail
  refine (after_any _ _ _ (by omega)).mono ?_
  rintro e w3 ⟨rfl, hb3⟩
  go_wp2_with fail
  refine (after_any _ _ _ (by omega)).mono ?_
  rintro e w4 ⟨rfl, hb4⟩
  go_wp2_with fail
  refine (after_any _ _ _ (by omega)).mono ?_
  rintro e w5 ⟨rfl, hb5⟩
  by_cases hz : a % 1099511627777 = 0
  · have hz' : ((a % 1099511627777) == 0) = true := beq_iff_eq.2 hz
    have Hz := Lib.hid hz; clear hz f4
    go_wp2_with fail
    refine (decay_works _).mono ?_
    rintro e w7 ⟨rfl, hb7⟩
    go_wp2_with fail
    go_ret
    exact ⟨rfl, (kept_drewN (kept_alloc _ _) _).trans ((kept_trans hb1 (kept_trans hb2 (kept_trans hb3 (kept_trans hb4 (kept_trans hb5 hb7))))).mono (by simp))⟩
  · have hz' : ((a % 1099511627777) == 0) = false := beq_eq_false_iff_ne.2 hz
    have f5 := f4 hz; clear f4
    go_wp2_with fail
    refine (after_any _ _ _ (by omega)).mono ?_
    rintro e w6 ⟨rfl, hb6⟩
    go_wp2_with fail
    refine (decay_works _).mono ?_
    rintro e w7 ⟨rfl, hb7⟩
    go_wp2_with fail
    go_ret
    exact ⟨rfl, (kept_drewN (kept_alloc _ _) _).trans ((kept_trans hb1 (kept_trans hb2 (kept_trans hb3 (kept_trans hb4 (kept_trans hb5 (kept_trans hb6 hb7)))))).mono (by simp))⟩

set_option maxHeartbeats 2000000 in
theorem dord_gt_lt (a b c d : Int) (w : World) (ha : 0 ≤ a ∧ a ≤ 18446744073709551615) (hb : 0 ≤ b ∧ b ≤ 18446744073709551615) (hc : 0 ≤ c ∧ c ≤ 18446744073709551615) (hd : 0 ≤ d ∧ d ≤ 18446744073709551615) (h1 : b % 1099511627777 < a % 1099511627777) (h2 : c % 1099511627777 < d % 1099511627777) :
    Calls Try.prog 6 #[.agg #[.int .u64 a, .int .u64 b, .int .u64 c, .int .u64 d]] w fun e w' => e = .returned (.bool true) ∧ Below w.heap.size w w' := by
  have ca := cut_bd a ha.1
  have cb := cut_bd b hb.1
  have cc := cut_bd c hc.1
  have cd := cut_bd d hd.1
  have F := ordFacts (b % 1099511627777) (a % 1099511627777) (c % 1099511627777) (d % 1099511627777) (by omega) (by omega) (by omega) (by omega) (by omega)
  have f1 := F.f1; have f2 := F.f2; have f3 := F.f3; have f4 := F.f4; clear F
  have n1 := DM.aft_nonneg (c % 1099511627777).toNat _ (DM.bnd_nonneg (b % 1099511627777))
  have n2 := DM.aft_nonneg (d % 1099511627777).toNat _ (DM.bnd_nonneg (a % 1099511627777))
  have n3 := DM.aft_nonneg (Int.toNat 1) _ (DM.bnd_nonneg (b % 1099511627777))
  go_enter Try.func6, Try.ntmps6
  go_wp2_with fail
  go_quiet ((go_at_call 18; exact quiet_same (cut_any _ _ (by omega) (by omega))))
  go_wp2_with fail
  go_quiet ((go_at_call 18; exact quiet_same2 (cut_any _ _ (by omega) (by omega))))
  go_wp2_with fail
  refine (after_any _ _ _ (by omega)).mono ?_
  rintro e w1 ⟨rfl, hb1⟩
  go_wp2_with fail
  refine (after_any _ _ _ (by omega)).mono ?_
  rintro e w2 ⟨rfl, hb2⟩
  go_wp2_with fail
  refine (after_any _ _ _ (by omega)).mono ?_
  rintro e w3 ⟨rfl, hb3⟩
  go_wp2_with fail
  refine (after_any _ _ _ (by omega)).mono ?_
  rintro e w4 ⟨rfl, hb4⟩
  go_wp2_with fail
  refine (after_any _ _ _ (by omega)).mono ?_
  rintro e w5 ⟨rfl, hb5⟩
  by_cases hz : b % 1099511627777 = 0
  · have hz' : ((b % 1099511627777) == 0) = true := beq_iff_eq.2 hz
    have Hz := Lib.hid hz; clear hz f4
    go_wp2_with fail
    refine (decay_works _).mono ?_
    rintro e w7 ⟨rfl, hb7⟩
    go_wp2_with fail
    go_ret
    exact ⟨rfl, (kept_drewN (kept_alloc _ _) _).trans ((kept_trans hb1 (kept_trans hb2 (kept_trans hb3 (kept_trans hb4 (kept_trans hb5 hb7))))).mono (by simp))⟩
  · have hz' : ((b % 1099511627777) == 0) = false := beq_eq_false_iff_ne.2 hz
    have f5 := f4 hz; clear f4
    go_wp2_with fail
    refine (after_any _ _ _ (by omega)).mono ?_
    rintro e w6 ⟨rfl, hb6⟩
    go_wp2_with fail
    refine (decay_works _).mono ?_
    rintro e w7 ⟨rfl, hb7⟩
    go_wp2_with fail
    go_ret
    exact ⟨rfl, (kept_drewN (kept_alloc _ _) _).trans ((kept_trans hb1 (kept_trans hb2 (kept_trans hb3 (kept_trans hb4 (kept_trans hb5 (kept_trans hb6 hb7)))))).mono (by simp))⟩

set_option maxHeartbeats 2000000 in
theorem dord_gt_eq (a b c d : Int) (w : World) (ha : 0 ≤ a ∧ a ≤ 18446744073709551615) (hb : 0 ≤ b ∧ b ≤ 18446744073709551615) (hc : 0 ≤ c ∧ c ≤ 18446744073709551615) (hd : 0 ≤ d ∧ d ≤ 18446744073709551615) (h1 : b % 1099511627777 < a % 1099511627777) (h2 : c % 1099511627777 ≤ d % 1099511627777) (h2' : d % 1099511627777 ≤ c % 1099511627777) :
    Calls Try.prog 6 #[.agg #[.int .u64 a, .int .u64 b, .int .u64 c, .int .u64 d]] w fun e w' => e = .returned (.bool true) ∧ Below w.heap.size w w' := by
  have ca := cut_bd a ha.1
  have cb := cut_bd b hb.1
  have cc := cut_bd c hc.1
  have cd := cut_bd d hd.1
  have F := ordFacts (b % 1099511627777) (a % 1099511627777) (c % 1099511627777) (c % 1099511627777) (by omega) (by omega) (by omega) (by omega) (by omega)
  have f1 := F.f1; have f2 := F.f2; have f3 := F.f3; have f4 := F.f4; clear F
  have n1 := DM.aft_nonneg (c % 1099511627777).toNat _ (DM.bnd_nonneg (b % 1099511627777))
  have n2 := DM.aft_nonneg (c % 1099511627777).toNat _ (DM.bnd_nonneg (a % 1099511627777))
  have n3 := DM.aft_nonneg (Int.toNat 1) _ (DM.bnd_nonneg (b % 1099511627777))
  go_enter Try.func6, Try.ntmps6
  go_wp2_with fail
  go_quiet ((go_at_call 18; exact quiet_same (cut_any _ _ (by omega) (by omega))))
  go_wp2_with fail
  go_quiet ((go_at_call 18; exact quiet_same2 (cut_any _ _ (by omega) (by omega))))
  go_wp2_with fail
  refine (after_any _ _ _ (by omega)).mono ?_
  rintro e w1 ⟨rfl, hb1⟩
  go_wp2_with fail
  refine (after_any _ _ _ (by omega)).mono ?_
  rintro e w2 ⟨rfl, hb2⟩
  go_wp2_with fail
  refine (after_any _ _ _ (by omega)).mono ?_
  rintro e w3 ⟨rfl, hb3⟩
  go_wp2_with fail
  refine (after_any _ _ _ (by omega)).mono ?_
  rintro e w4 ⟨rfl, hb4⟩
  go_wp2_with fail
  refine (after_any _ _ _ (by omega)).mono ?_
  rintro e w5 ⟨rfl, hb5⟩
  by_cases hz : b % 1099511627777 = 0
  · have hz' : ((b % 1099511627777) == 0) = true := beq_iff_eq.2 hz
    have Hz := Lib.hid hz; clear hz f4
    go_wp2_with fail
    refine (decay_works _).mono ?_
    rintro e w7 ⟨rfl, hb7⟩
    go_wp2_with fail
    go_ret
    exact ⟨rfl, (kept_drewN (kept_alloc _ _) _).trans ((kept_trans hb1 (kept_trans hb2 (kept_trans hb3 (kept_trans hb4 (kept_trans hb5 hb7))))).mono (by simp))⟩
  · have hz' : ((b % 1099511627777) == 0) = false := beq_eq_false_iff_ne.2 hz
    have f5 := f4 hz; clear f4
    go_wp2_with fail
    refine (after_any _ _ _ (by omega)).mono ?_
    rintro e w6 ⟨rfl, hb6⟩
    go_wp2_with fail
    refine (decay_works _).mono ?_
    rintro e w7 ⟨rfl, hb7⟩
    go_wp2_with fail
    go_ret
    exact ⟨rfl, (kept_drewN (kept_alloc _ _) _).trans ((kept_trans hb1 (kept_trans hb2 (kept_trans hb3 (kept_trans hb4 (kept_trans hb5 (kept_trans hb6 hb7)))))).mono (by simp))⟩

set_option maxHeartbeats 2000000 in
theorem dord_gt_gt (a b c d : Int) (w : World) (ha : 0 ≤ a ∧ a ≤ 18446744073709551615) (hb : 0 ≤ b ∧ b ≤ 18446744073709551615) (hc : 0 ≤ c ∧ c ≤ 18446744073709551615) (hd : 0 ≤ d ∧ d ≤ 18446744073709551615) (h1 : b % 1099511627777 < a % 1099511627777) (h2 : d % 1099511627777 < c % 1099511627777) :
    Calls Try.prog 6 #[.agg #[.int .u64 a, .int .u64 b, .int .u64 c, .int .u64 d]] w fun e w' => e = .returned (.bool true) ∧ Below w.heap.size w w' := by
  have ca := cut_bd a ha.1
  have cb := cut_bd b hb.1
  have cc := cut_bd c hc.1
  have cd := cut_bd d hd.1
  have F := ordFacts (b % 1099511627777) (a % 1099511627777) (d % 1099511627777) (c % 1099511627777) (by omega) (by omega) (by omega) (by omega) (by omega)
  have f1 := F.f1; have f2 := F.f2; have f3 := F.f3; have f4 := F.f4; clear F
  have n1 := DM.aft_nonneg (d % 1099511627777).toNat _ (DM.bnd_nonneg (b % 1099511627777))
  have n2 := DM.aft_nonneg (c % 1099511627777).toNat _ (DM.bnd_nonneg (a % 1099511627777))
  have n3 := DM.aft_nonneg (Int.toNat 1) _ (DM.bnd_nonneg (b % 1099511627777))
  go_enter Try.func6, Try.ntmps6
  go_wp2_with fail
  go_quiet ((go_at_call 18; exact quiet_same (cut_any _ _ (by omega) (by omega))))
  go_wp2_with fail
  go_quiet ((go_at_call 18; exact quiet_same2 (cut_any _ _ (by omega) (by omega))))
  go_wp2_with fail
  refine (after_any _ _ _ (by omega)).mono ?_
  rintro e w1 ⟨rfl, hb1⟩
  go_wp2_with fail
  refine (after_any _ _ _ (by omega)).mono ?_
  rintro e w2 ⟨rfl, hb2⟩
  go_wp2_with fail
  refine (after_any _ _ _ (by omega)).mono ?_
  rintro e w3 ⟨rfl, hb3⟩
  go_wp2_with fail
  refine (after_any _ _ _ (by omega)).mono ?_
  rintro e w4 ⟨rfl, hb4⟩
  go_wp2_with fail
  refine (after_any _ _ _ (by omega)).mono ?_
  rintro e w5 ⟨rfl, hb5⟩
  by_cases hz : b % 1099511627777 = 0
  · have hz' : ((b % 1099511627777) == 0) = true := beq_iff_eq.2 hz
    have Hz := Lib.hid hz; clear hz f4
    go_wp2_with fail
    refine (decay_works _).mono ?_
    rintro e w7 ⟨rfl, hb7⟩
    go_wp2_with fail
    go_ret
    exact ⟨rfl, (kept_drewN (kept_alloc _ _) _).trans ((kept_trans hb1 (kept_trans hb2 (kept_trans hb3 (kept_trans hb4 (kept_trans hb5 hb7))))).mono (by simp))⟩
  · have hz' : ((b % 1099511627777) == 0) = false := beq_eq_false_iff_ne.2 hz
    have f5 := f4 hz; clear f4
    go_wp2_with fail
    refine (after_any _ _ _ (by omega)).mono ?_
    rintro e w6 ⟨rfl, hb6⟩
    go_wp2_with fail
    refine (decay_works _).mono ?_
    rintro e w7 ⟨rfl, hb7⟩
    go_wp2_with fail
    go_ret
    exact ⟨rfl, (kept_drewN (kept_alloc _ _) _).trans ((kept_trans hb1 (kept_trans hb2 (kept_trans hb3 (kept_trans hb4 (kept_trans hb5 (kept_trans hb6 hb7)))))).mono (by simp))⟩

theorem DecayOrders_walk (v0 : Value) (w : World) (w0 : IsBoth w v0) :
    Calls Try.prog 6 #[v0] w fun e w' => e = .returned (.bool true) ∧ Below w.heap.size w w' := by
  obtain ⟨a, b, c, d, rfl, ha, hb, hc, hd⟩ := w0
  rcases Int.lt_trichotomy (a % 1099511627777) (b % 1099511627777) with h1 | h1 | h1 <;> rcases Int.lt_trichotomy (c % 1099511627777) (d % 1099511627777) with h2 | h2 | h2
  · exact dord_lt_lt a b c d w ha hb hc hd h1 h2
  · exact dord_lt_eq a b c d w ha hb hc hd h1 (by omega) (by omega)
  · exact dord_lt_gt a b c d w ha hb hc hd h1 h2
  · exact dord_eq_lt a b c d w ha hb hc hd (by omega) (by omega) h2
  · exact dord_eq_eq a b c d w ha hb hc hd (by omega) (by omega) (by omega) (by omega)
  · exact dord_eq_gt a b c d w ha hb hc hd (by omega) (by omega) h2
  · exact dord_gt_lt a b c d w ha hb hc hd h1 h2
  · exact dord_gt_eq a b c d w ha hb hc hd h1 (by omega) (by omega)
  · exact dord_gt_gt a b c d w ha hb hc hd h1 h2

end Go.Proofs.Ytnkbgkcpdigcaaa
