/- The functions of the packages decay and henkanref29 compute the counts of the plain arithmetic. Any numbers. -/
import Derived.Test.YtnkbgkcpdigcaaaChecked
import Derived.Test.YtnkbgkcpdigcaaaDecayMath
import Derived.Test.YtnkbgkcpdigcaaaKit
namespace Go.Proofs.Ytnkbgkcpdigcaaa
open Go.RowKit

theorem bounded_any (v : Int) (w : World) :
    Calls Try.prog 19 #[.int .i64 v] w fun e w' => e = .returned (.int .i64 (DM.bnd v)) ∧ w = w' := by
  go_enter Try.func19, Try.ntmps19
  go_wp2
  all_goals (go_ret; refine ⟨ret_int ?_, rfl⟩; unfold DM.bnd; (try split at *) <;> omega)

theorem count_any (v : Int) (w : World) :
    Calls Try.prog 22 #[.int .i64 v] w fun e w' => e = .returned (.int .i64 (DM.bnd v)) ∧ w = w' := by
  go_enter Try.func22, Try.ntmps22
  go_wp2
  all_goals (go_ret; refine ⟨ret_int ?_, rfl⟩; unfold DM.bnd; omega)

theorem after1_any (v l n : Int) (bl bn : Nat) (w : World) (hl : OneAt w bl (.int .i64 l) 3) (hn : OneAt w bn (.int .i64 n) 3) (hne : bl ≠ bn) (hn1 : 1 ≤ n) (hn2 : n ≤ 9223372036854775807) :
    Calls Try.prog 21 #[.int .i64 v, .pointer (some ⟨bl, 0, none⟩), .pointer (some ⟨bn, 0, none⟩)] w fun e w' =>
      e = .returned (.bool (decide (1 < n))) ∧ w' = (w.setCell ⟨bl, 0, none⟩ (.int .i64 v)).setCell ⟨bn, 0, none⟩ (.int .i64 (n - 1)) := by
  have c1 := hl.cell
  have c2 := hn.cell
  have f1 := hl.free
  have f2 := hn.free
  go_enter Try.func21, Try.ntmps21
  go_wp2
  go_ret
  exact ⟨rfl, rfl⟩

theorem life1_any (v n : Int) (bn : Nat) (w : World) (hn : OneAt w bn (.int .i64 n) 3) (hn1 : 0 ≤ n) (hn2 : n ≤ 4611686018427387904) :
    Calls Try.prog 23 #[.int .i64 v, .pointer (some ⟨bn, 0, none⟩)] w fun e w' =>
      e = .returned (.bool true) ∧ w' = w.setCell ⟨bn, 0, none⟩ (.int .i64 (n + 1)) := by
  have c2 := hn.cell
  have f2 := hn.free
  go_enter Try.func23, Try.ntmps23
  go_wp2
  go_ret
  exact ⟨rfl, rfl⟩

/-- what the loop of fade keeps, with the function value of After -/
def FadeRel (w0 : World) (bl bn : Nat) (v : Int) (n : Int) (u : Value) (wr : World) : Prop :=
  ∃ k : Nat, (k : Int) < n ∧ u = .int .i64 (DM.aft k v) ∧ OneAt wr bl (.int .i64 (DM.aft k v)) 3 ∧ OneAt wr bn (.int .i64 (n - k)) 3 ∧ (∀ B, B ≤ bl → B ≤ bn → Below B w0 wr)

theorem fade_after (v n : Int) (bl bn : Nat) (w : World) (hl : OneAt w bl (.int .i64 v) 3) (hn : OneAt w bn (.int .i64 n) 3) (hne : bl ≠ bn) (hn1 : 1 ≤ n) (hn2 : n ≤ 9223372036854775807)
    (hv1 : 0 ≤ v) (hv2 : v ≤ 1099511627776) :
    Calls Try.prog 20 #[.int .i64 v, .func (.func 21) #[] #[.pointer (some ⟨bl, 0, none⟩), .pointer (some ⟨bn, 0, none⟩)]] w fun e w' =>
      e = .returned (.tuple #[]) ∧ OneAt w' bl (.int .i64 (DM.aft n.toNat v)) 3 ∧ (∀ B, B ≤ bl → B ≤ bn → Below B w w') := by
  go_enter Try.func20, Try.ntmps20
  go_wp2_with fail
  go_loopw [0] (fun u wr => FadeRel w bl bn v n u wr) (fun u _ => (intOf u).toNat)
  case atStart => exact ⟨0, by omega, rfl, hl, by simpa using hn, fun B _ _ => Below.refl _ _⟩
  case round =>
    obtain ⟨k, hk, rfl, hl', hn', hb⟩ := hrel
    have h0 := DM.aft_nonneg k v hv1
    have h1 := DM.aft_le k v hv1
    generalize hx : DM.aft k v = x at *
    have Hx := Lib.hid hx; clear hx
    by_cases hp : 0 < x
    · have hs := DM.stp_lt x hp
      have hs0 := DM.stp_nonneg x h0
      have ha : DM.aft (k + 1) v = DM.stp x := by rw [DM.aft_succ', Hx.out, if_pos hp]
      have Ha := Lib.hid ha; clear ha
      have hst : x - (x + 255) / 256 = DM.stp x := rfl
      by_cases hlast : 1 < n - k
      · have hd : decide (1 < n - (k : Int)) = true := by simpa using hlast
        go_wp2_with (go_at_call 21; refine (after1_any _ x (n - k) bl bn wr hl' hn' hne (by omega) (by omega)).mono ?_; rintro e w' ⟨rfl, rfl⟩)
        go_roundw
        case rel => exact ⟨k + 1, by omega, by rw [Ha.out], by rw [Ha.out]; exact (hl'.set).other _ hne, by rw [show n - ((k + 1 : Nat) : Int) = n - k - 1 from by omega]; exact (hn'.other _ hne.symm).set, fun B h1 h2 => ((hb B h1 h2).setCell h1 _).setCell h2 _⟩
        case measure => simp [intOf]; omega
      · have hd : decide (1 < n - (k : Int)) = false := by simpa using hlast
        go_wp2_with (go_at_call 21; refine (after1_any _ x (n - k) bl bn wr hl' hn' hne (by omega) (by omega)).mono ?_; rintro e w' ⟨rfl, rfl⟩)
        refine bodyPost_ret (results_none rfl _ _ _) rfl ?_
        refine ⟨rfl, ?_, fun B h1 h2 => ((hb B h1 h2).setCell h1 _).setCell h2 _⟩
        rw [show n.toNat = k + 1 from by omega, Ha.out]
        exact (hl'.set).other _ hne
    · have hz : DM.aft n.toNat v = x := by
        obtain ⟨j, hj⟩ : ∃ j, n.toNat = k + j := ⟨n.toNat - k, by omega⟩
        rw [hj, ← DM.aft_add, Hx.out, DM.aft_zero_of _ _ hp]
      have Hz := Lib.hid hz; clear hz
      go_wp2
      go_end0
      exact ⟨rfl, by rw [Hz.out]; exact hl', hb⟩

def FadeLife (w0 : World) (bn : Nat) (v : Int) (u : Value) (wr : World) : Prop :=
  ∃ k : Nat, k + DM.life (DM.aft k v) = DM.life v ∧ u = .int .i64 (DM.aft k v) ∧ OneAt wr bn (.int .i64 k) 3 ∧ (∀ B, B ≤ bn → Below B w0 wr)

theorem fade_life (v : Int) (bn : Nat) (w : World) (hn : OneAt w bn (.int .i64 0) 3)
    (hv1 : 0 ≤ v) (hv2 : v ≤ 1099511627776) :
    Calls Try.prog 20 #[.int .i64 v, .func (.func 23) #[] #[.pointer (some ⟨bn, 0, none⟩)]] w fun e w' =>
      e = .returned (.tuple #[]) ∧ OneAt w' bn (.int .i64 (DM.life v)) 3 ∧ (∀ B, B ≤ bn → Below B w w') := by
  have hl6 := DM.life_le v hv1 hv2
  go_enter Try.func20, Try.ntmps20
  go_wp2_with fail
  go_loopw [0] (fun u wr => FadeLife w bn v u wr) (fun u _ => (intOf u).toNat)
  case atStart => exact ⟨0, by simp [DM.aft], rfl, hn, fun B _ => Below.refl _ _⟩
  case round =>
    obtain ⟨k, hk, rfl, hn', hb⟩ := hrel
    have h0 := DM.aft_nonneg k v hv1
    have h1 := DM.aft_le k v hv1
    have hkl : k ≤ DM.life v := by omega
    have Hk := Lib.hid hk; clear hk
    generalize hx : DM.aft k v = x at *
    have Hx := Lib.hid hx; clear hx
    by_cases hp : 0 < x
    · have hs := DM.stp_lt x hp
      have hs0 := DM.stp_nonneg x h0
      have ha : DM.aft (k + 1) v = DM.stp x := by rw [DM.aft_succ', Hx.out, if_pos hp]
      have Ha := Lib.hid ha; clear ha
      have hll : (k + 1) + DM.life (DM.stp x) = DM.life v := by have := Hk.out; rw [DM.life_pos x hp] at this; omega
      have Hl := Lib.hid hll; clear hll
      have hst : x - (x + 255) / 256 = DM.stp x := rfl
      go_wp2_with (go_at_call 23; refine (life1_any _ k bn wr hn' (by omega) (by omega)).mono ?_; rintro e w' ⟨rfl, rfl⟩)
      go_roundw
      case rel => exact ⟨k + 1, by rw [Ha.out]; exact Hl.out, by rw [Ha.out], by exact hn'.set, fun B h1 => (hb B h1).setCell h1 _⟩
      case measure => simp [intOf]; omega
    · have hz : DM.life v = k := by
        have := Hk.out
        obtain rfl : x = 0 := by omega
        rw [DM.life_zero] at this
        omega
      have Hz := Lib.hid hz; clear hz
      go_wp2
      go_end0
      exact ⟨rfl, by rw [Hz.out]; exact hn', hb⟩

/-- decay.After: any numbers -/
theorem after_any (v n : Int) (w : World) (hn2 : n ≤ 9223372036854775807) :
    Calls Try.prog 11 #[.int .i64 v, .int .i64 n] w fun e w' => e = .returned (.int .i64 (DM.aft n.toNat (DM.bnd v))) ∧ Below w.heap.size w w' := by
  have b0 := DM.bnd_nonneg v
  have b1 := DM.bnd_le v
  by_cases hn : n ≤ 0
  · go_enter Try.func11, Try.ntmps11
    go_wp2_with (go_at_call 19; refine (bounded_any _ _).mono ?_; rintro e w' ⟨rfl, rfl⟩)
    go_ret
    exact ⟨ret_int (by rw [show n.toNat = 0 from by omega]; rfl), (Below.refl _ _).alloc (Nat.le_refl _) _⟩
  · generalize hx : DM.bnd v = x at *
    have Hx := Lib.hid hx; clear hx
    go_enter Try.func11, Try.ntmps11
    go_wp2_with fail
    refine (bounded_any _ _).mono ?_
    rintro e w' ⟨rfl, rfl⟩
    rw [Hx.out]
    go_wp2_with fail
    refine (fade_after x n (w.heap.size + 1) w.heap.size _ (by simpa using OneAt.new (w.alloc (.cells #[.int .i64 n] 3)) (.int .i64 x) 3) ((OneAt.new w _ _).alloc _) (by omega) (by omega) hn2 b0 b1).mono ?_
    rintro e w' ⟨rfl, hl, hb⟩
    have hb' := hb w.heap.size (by omega) (by omega)
    have c1 := hl.cell
    have f1 := hl.free
    go_wp2_with fail
    go_ret
    exact ⟨rfl, (((Below.refl _ _).alloc (Nat.le_refl _) _).alloc (by simp) _).trans hb'⟩

/-- decay.Life: any number -/
theorem life_any (v : Int) (w : World) :
    Calls Try.prog 16 #[.int .i64 v] w fun e w' => e = .returned (.int .i64 (DM.life (DM.bnd v))) ∧ Below w.heap.size w w' := by
  have b0 := DM.bnd_nonneg v
  have b1 := DM.bnd_le v
  generalize hx : DM.bnd v = x at *
  have Hx := Lib.hid hx; clear hx
  go_enter Try.func16, Try.ntmps16
  go_wp2_with fail
  refine (bounded_any _ _).mono ?_
  rintro e w' ⟨rfl, rfl⟩
  rw [Hx.out]
  go_wp2_with fail
  refine (fade_life x w.heap.size _ (OneAt.new w _ _) b0 b1).mono ?_
  rintro e w' ⟨rfl, hl, hb⟩
  have hb' := hb w.heap.size (Nat.le_refl _)
  have c1 := hl.cell
  have f1 := hl.free
  go_wp2_with fail
  go_ret
  exact ⟨rfl, ((Below.refl _ _).alloc (Nat.le_refl _) _).trans hb'⟩

/-- decay.Use -/
theorem use_any (v n : Int) (w : World) (hn2 : n ≤ 9223372036854775807) :
    Calls Try.prog 13 #[.int .i64 v, .int .i64 n] w fun e w' => e = .returned (.int .i64 (DM.aft n.toNat (DM.bnd v) + 65536)) ∧ Below w.heap.size w w' := by
  have b0 := DM.bnd_nonneg v
  have b1 := DM.bnd_le v
  have a0 := DM.aft_nonneg n.toNat (DM.bnd v) b0
  have a1 := DM.aft_le n.toNat (DM.bnd v) b0
  generalize hx : DM.aft n.toNat (DM.bnd v) = x at *
  have Hx := Lib.hid hx; clear hx
  go_enter Try.func13, Try.ntmps13
  go_wp2_with fail
  refine (after_any _ _ _ hn2).mono ?_
  rintro e w' ⟨rfl, hb⟩
  rw [Hx.out]
  go_wp2_with fail
  go_ret
  exact ⟨rfl, hb⟩

/-- henkanref29.After -/
theorem refAfter_any (v n : Int) (w : World) (hn2 : n ≤ 9223372036854775807) :
    Calls Try.prog 12 #[.int .i64 v, .int .i64 n] w fun e w' => e = .returned (.int .i64 (DM.aft n.toNat (DM.bnd v))) ∧ w = w' := by
  have b0 := DM.bnd_nonneg v
  have b1 := DM.bnd_le v
  generalize hx : DM.bnd v = x at *
  have Hx := Lib.hid hx; clear hx
  go_enter Try.func12, Try.ntmps12
  go_wp2_with fail
  refine (count_any _ _).mono ?_
  rintro e w' ⟨rfl, rfl⟩
  rw [Hx.out]
  go_wp2_with fail
  go_loop [0, 5] (fun u i => ∃ k : Nat, (k : Int) ≤ max n 0 ∧ i = .int .i64 k ∧ u = .int .i64 (DM.aft k x)) (fun u _ => (intOf u).toNat)
  case atStart => exact ⟨0, by omega, rfl, rfl⟩
  case round =>
    obtain ⟨k, hk, rfl, rfl⟩ := hrel
    have h0 := DM.aft_nonneg k x b0
    have h1 := DM.aft_le k x b0
    generalize hy : DM.aft k x = y at *
    have Hy := Lib.hid hy; clear hy
    by_cases hkn : (k : Int) < n
    · by_cases hp : 0 < y
      · have hs := DM.stp_lt y hp
        have hs0 := DM.stp_nonneg y h0
        have ha : DM.aft (k + 1) x = DM.stp y := by rw [DM.aft_succ', Hy.out, if_pos hp]
        have Ha := Lib.hid ha; clear ha
        have hst := DM.stp_mul y
        go_wp2
        go_round
        case rel => exact ⟨k + 1, by omega, by go_num, by rw [Ha.out, hst]⟩
        case measure => simp [intOf]; omega
      · have hz : DM.aft n.toNat x = y := by
          obtain ⟨j, hj⟩ : ∃ j, n.toNat = k + j := ⟨n.toNat - k, by omega⟩
          rw [hj, ← DM.aft_add, Hy.out, DM.aft_zero_of _ _ hp]
        have Hz := Lib.hid hz; clear hz
        go_wp2
        go_ret
        exact ⟨ret_int (by rw [Hz.out]), rfl⟩
    · have hz : DM.aft n.toNat x = y := by rw [show n.toNat = k from by omega, Hy.out]
      have Hz := Lib.hid hz; clear hz
      go_wp2
      go_ret
      exact ⟨ret_int (by rw [Hz.out]), rfl⟩

/-- henkanref29.Use -/
theorem refUse_any (v n : Int) (w : World) (hn2 : n ≤ 9223372036854775807) :
    Calls Try.prog 14 #[.int .i64 v, .int .i64 n] w fun e w' => e = .returned (.int .i64 (DM.aft n.toNat (DM.bnd v) + 65536)) ∧ w = w' := by
  have b0 := DM.bnd_nonneg v
  have b1 := DM.bnd_le v
  have a0 := DM.aft_nonneg n.toNat (DM.bnd v) b0
  have a1 := DM.aft_le n.toNat (DM.bnd v) b0
  generalize hx : DM.aft n.toNat (DM.bnd v) = x at *
  have Hx := Lib.hid hx; clear hx
  go_enter Try.func14, Try.ntmps14
  go_wp2_with fail
  refine (refAfter_any _ _ _ hn2).mono ?_
  rintro e w' ⟨rfl, rfl⟩
  rw [Hx.out]
  go_wp2_with fail
  go_ret
  exact ⟨rfl, rfl⟩

/-- henkanref29.Life -/
theorem refLife_any (v : Int) (w : World) :
    Calls Try.prog 17 #[.int .i64 v] w fun e w' => e = .returned (.int .i64 (DM.life (DM.bnd v))) ∧ w = w' := by
  have b0 := DM.bnd_nonneg v
  have b1 := DM.bnd_le v
  generalize hx : DM.bnd v = x at *
  have Hx := Lib.hid hx; clear hx
  have hl6 := DM.life_le x b0 b1
  go_enter Try.func17, Try.ntmps17
  go_wp2_with fail
  refine (count_any _ _).mono ?_
  rintro e w' ⟨rfl, rfl⟩
  rw [Hx.out]
  go_wp2_with fail
  go_loop [0, 3] (fun u i => ∃ k : Nat, k + DM.life (DM.aft k x) = DM.life x ∧ i = .int .i64 k ∧ u = .int .i64 (DM.aft k x)) (fun u _ => (intOf u).toNat)
  case atStart => exact ⟨0, by simp [DM.aft], rfl, rfl⟩
  case round =>
    obtain ⟨k, hk, rfl, rfl⟩ := hrel
    have h0 := DM.aft_nonneg k x b0
    have h1 := DM.aft_le k x b0
    have hkl : k ≤ DM.life x := by omega
    have Hk := Lib.hid hk; clear hk
    generalize hy : DM.aft k x = y at *
    have Hy := Lib.hid hy; clear hy
    by_cases hp : 0 < y
    · have hs := DM.stp_lt y hp
      have hs0 := DM.stp_nonneg y h0
      have ha : DM.aft (k + 1) x = DM.stp y := by rw [DM.aft_succ', Hy.out, if_pos hp]
      have Ha := Lib.hid ha; clear ha
      have hll : (k + 1) + DM.life (DM.stp y) = DM.life x := by have := Hk.out; rw [DM.life_pos y hp] at this; omega
      have Hl := Lib.hid hll; clear hll
      have hst := DM.stp_mul y
      go_wp2
      go_round
      case rel => exact ⟨k + 1, by rw [Ha.out]; exact Hl.out, by go_num, by rw [Ha.out, hst]⟩
      case measure => simp [intOf]; omega
    · have hz : DM.life x = k := by
        have := Hk.out
        obtain rfl : y = 0 := by omega
        rw [DM.life_zero] at this
        omega
      have Hz := Lib.hid hz; clear hz
      go_wp2
      go_ret
      exact ⟨ret_int (by rw [Hz.out]), rfl⟩
end Go.Proofs.Ytnkbgkcpdigcaaa
