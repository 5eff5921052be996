/-
  DecayAft
-/
import Derived.Test.YtohahloghmanpaaGreatDoorChecked
import Derived.Test.YtohahloghmanpaaGreatDoorZB02
import Derived.Test.YtohahloghmanpaaGreatDoorZB04
namespace Go.Proofs.YtohahloghmanpaaGreatDoor
open Go.RowKit

theorem bounded_any (v : Int) (w : World) :
    Calls Tryz.prog 49 #[.int .i64 v] w fun e w' => e = .returned (.int .i64 (DM.bnd v)) ∧ w = w' := by
  go_enter Tryz.func49, Tryz.ntmps49
  go_wp2
  all_goals (go_ret; refine ⟨ret_int ?_, rfl⟩; unfold DM.bnd; (try split at *) <;> omega)

theorem count_any (v : Int) (w : World) :
    Calls Tryz.prog 67 #[.int .i64 v] w fun e w' => e = .returned (.int .i64 (DM.bnd v)) ∧ w = w' := by
  go_enter Tryz.func67, Tryz.ntmps67
  go_wp2
  all_goals (go_ret; refine ⟨ret_int ?_, rfl⟩; unfold DM.bnd; omega)

theorem after1_any (v l n : Int) (bl bn : Nat) (w : World) (hl : OneAt w bl (.int .i64 l) 3) (hn : OneAt w bn (.int .i64 n) 3) (hne : bl ≠ bn) (hn1 : 1 ≤ n) (hn2 : n ≤ 9223372036854775807) :
    Calls Tryz.prog 51 #[.int .i64 v, .pointer (some ⟨bl, 0, none⟩), .pointer (some ⟨bn, 0, none⟩)] w fun e w' =>
      e = .returned (.bool (decide (1 < n))) ∧ w' = (w.setCell ⟨bl, 0, none⟩ (.int .i64 v)).setCell ⟨bn, 0, none⟩ (.int .i64 (n - 1)) := by
  have c1 := hl.cell
  have c2 := hn.cell
  have f1 := hl.free
  have f2 := hn.free
  go_enter Tryz.func51, Tryz.ntmps51
  go_wp2
  go_ret
  exact ⟨rfl, rfl⟩

def FadeRel (w0 : World) (bl bn : Nat) (v : Int) (n : Int) (u : Value) (wr : World) : Prop :=
  ∃ k : Nat, (k : Int) < n ∧ u = .int .i64 (DM.aft k v) ∧ OneAt wr bl (.int .i64 (DM.aft k v)) 3 ∧ OneAt wr bn (.int .i64 (n - k)) 3 ∧ (∀ B, B ≤ bl → B ≤ bn → Below B w0 wr)

theorem fade_after (v n : Int) (bl bn : Nat) (w : World) (hl : OneAt w bl (.int .i64 v) 3) (hn : OneAt w bn (.int .i64 n) 3) (hne : bl ≠ bn) (hn1 : 1 ≤ n) (hn2 : n ≤ 9223372036854775807)
    (hv1 : 0 ≤ v) (hv2 : v ≤ 1099511627776) :
    Calls Tryz.prog 50 #[.int .i64 v, .func (.func 51) #[] #[.pointer (some ⟨bl, 0, none⟩), .pointer (some ⟨bn, 0, none⟩)]] w fun e w' =>
      e = .returned (.tuple #[]) ∧ OneAt w' bl (.int .i64 (DM.aft n.toNat v)) 3 ∧ (∀ B, B ≤ bl → B ≤ bn → Below B w w') := by
  go_enter Tryz.func50, Tryz.ntmps50
  go_wp2_with fail
  go_loopw [0] (fun u wr => FadeRel w bl bn v n u wr) (fun u _ => (intOf u).toNat)
  case atStart => exact ⟨0, by omega, rfl, hl, by simpa using hn, fun B _ _ => Below.refl _ _⟩
  case round =>
    obtain ⟨k, hk, rfl, hl', hn', hb⟩ := hrel
    have h0 := DM.aft_nonneg k v hv1
    have h1 := DM.aft_le k v hv1
    generalize hx : DM.aft k v = x at *
    have Hx := Lib.hid hx; clear hx
    by_cases hp : 0 < x
    · have hs := DM.stp_lt x hp
      have hs0 := DM.stp_nonneg x h0
      have ha : DM.aft (k + 1) v = DM.stp x := by rw [DM.aft_succ', Hx.out, if_pos hp]
      have Ha := Lib.hid ha; clear ha
      have hst : x - (x + 255) / 256 = DM.stp x := rfl
      by_cases hlast : 1 < n - k
      · have hd : decide (1 < n - (k : Int)) = true := by simpa using hlast
        go_wp2_with (go_at_call 51; refine (after1_any _ x (n - k) bl bn wr hl' hn' hne (by omega) (by omega)).mono ?_; rintro e w' ⟨rfl, rfl⟩)
        go_roundw
        case rel => exact ⟨k + 1, by omega, by rw [Ha.out], by rw [Ha.out]; exact (hl'.set).other _ hne, by rw [show n - ((k + 1 : Nat) : Int) = n - k - 1 from by omega]; exact (hn'.other _ hne.symm).set, fun B h1 h2 => ((hb B h1 h2).setCell h1 _).setCell h2 _⟩
        case measure => simp [intOf]; omega
      · have hd : decide (1 < n - (k : Int)) = false := by simpa using hlast
        go_wp2_with (go_at_call 51; refine (after1_any _ x (n - k) bl bn wr hl' hn' hne (by omega) (by omega)).mono ?_; rintro e w' ⟨rfl, rfl⟩)
        refine bodyPost_ret (results_none rfl _ _ _) rfl ?_
        refine ⟨rfl, ?_, fun B h1 h2 => ((hb B h1 h2).setCell h1 _).setCell h2 _⟩
        rw [show n.toNat = k + 1 from by omega, Ha.out]
        exact (hl'.set).other _ hne
    · have hz : DM.aft n.toNat v = x := by
        obtain ⟨j, hj⟩ : ∃ j, n.toNat = k + j := ⟨n.toNat - k, by omega⟩
        rw [hj, ← DM.aft_add, Hx.out, DM.aft_zero_of _ _ hp]
      have Hz := Lib.hid hz; clear hz
      go_wp2
      go_end0
      exact ⟨rfl, by rw [Hz.out]; exact hl', hb⟩

theorem after_any (v n : Int) (w : World) (hn2 : n ≤ 9223372036854775807) :
    Calls Tryz.prog 30 #[.int .i64 v, .int .i64 n] w fun e w' => e = .returned (.int .i64 (DM.aft n.toNat (DM.bnd v))) ∧ Below w.heap.size w w' := by
  have b0 := DM.bnd_nonneg v
  have b1 := DM.bnd_le v
  by_cases hn : n ≤ 0
  · go_enter Tryz.func30, Tryz.ntmps30
    go_wp2_with (go_at_call 49; refine (bounded_any _ _).mono ?_; rintro e w' ⟨rfl, rfl⟩)
    go_ret
    exact ⟨ret_int (by rw [show n.toNat = 0 from by omega]; rfl), (Below.refl _ _).alloc (Nat.le_refl _) _⟩
  · generalize hx : DM.bnd v = x at *
    have Hx := Lib.hid hx; clear hx
    go_enter Tryz.func30, Tryz.ntmps30
    go_wp2_with fail
    refine (bounded_any _ _).mono ?_
    rintro e w' ⟨rfl, rfl⟩
    rw [Hx.out]
    go_wp2_with fail
    refine (fade_after x n (w.heap.size + 1) w.heap.size _ (by simpa using OneAt.new (w.alloc (.cells #[.int .i64 n] 3)) (.int .i64 x) 3) ((OneAt.new w _ _).alloc _) (by omega) (by omega) hn2 b0 b1).mono ?_
    rintro e w' ⟨rfl, hl, hb⟩
    have hb' := hb w.heap.size (by omega) (by omega)
    have c1 := hl.cell
    have f1 := hl.free
    go_wp2_with fail
    go_ret
    exact ⟨rfl, (((Below.refl _ _).alloc (Nat.le_refl _) _).alloc (by simp) _).trans hb'⟩

theorem use_any (v n : Int) (w : World) (hn2 : n ≤ 9223372036854775807) :
    Calls Tryz.prog 40 #[.int .i64 v, .int .i64 n] w fun e w' => e = .returned (.int .i64 (DM.aft n.toNat (DM.bnd v) + 65536)) ∧ Below w.heap.size w w' := by
  have b0 := DM.bnd_nonneg v
  have b1 := DM.bnd_le v
  have a0 := DM.aft_nonneg n.toNat (DM.bnd v) b0
  have a1 := DM.aft_le n.toNat (DM.bnd v) b0
  generalize hx : DM.aft n.toNat (DM.bnd v) = x at *
  have Hx := Lib.hid hx; clear hx
  go_enter Tryz.func40, Tryz.ntmps40
  go_wp2_with fail
  refine (after_any _ _ _ hn2).mono ?_
  rintro e w' ⟨rfl, hb⟩
  rw [Hx.out]
  go_wp2_with fail
  go_ret
  exact ⟨rfl, hb⟩

theorem refAfter_any (v n : Int) (w : World) (hn2 : n ≤ 9223372036854775807) :
    Calls Tryz.prog 36 #[.int .i64 v, .int .i64 n] w fun e w' => e = .returned (.int .i64 (DM.aft n.toNat (DM.bnd v))) ∧ w = w' := by
  have b0 := DM.bnd_nonneg v
  have b1 := DM.bnd_le v
  generalize hx : DM.bnd v = x at *
  have Hx := Lib.hid hx; clear hx
  go_enter Tryz.func36, Tryz.ntmps36
  go_wp2_with fail
  refine (count_any _ _).mono ?_
  rintro e w' ⟨rfl, rfl⟩
  rw [Hx.out]
  go_wp2_with fail
  go_loop [0, 5] (fun u i => ∃ k : Nat, (k : Int) ≤ max n 0 ∧ i = .int .i64 k ∧ u = .int .i64 (DM.aft k x)) (fun u _ => (intOf u).toNat)
  case atStart => exact ⟨0, by omega, rfl, rfl⟩
  case round =>
    obtain ⟨k, hk, rfl, rfl⟩ := hrel
    have h0 := DM.aft_nonneg k x b0
    have h1 := DM.aft_le k x b0
    generalize hy : DM.aft k x = y at *
    have Hy := Lib.hid hy; clear hy
    by_cases hkn : (k : Int) < n
    · by_cases hp : 0 < y
      · have hs := DM.stp_lt y hp
        have hs0 := DM.stp_nonneg y h0
        have ha : DM.aft (k + 1) x = DM.stp y := by rw [DM.aft_succ', Hy.out, if_pos hp]
        have Ha := Lib.hid ha; clear ha
        have hst := DM.stp_mul y
        go_wp2
        go_round
        case rel => exact ⟨k + 1, by omega, by go_num, by rw [Ha.out, hst]⟩
        case measure => simp [intOf]; omega
      · have hz : DM.aft n.toNat x = y := by
          obtain ⟨j, hj⟩ : ∃ j, n.toNat = k + j := ⟨n.toNat - k, by omega⟩
          rw [hj, ← DM.aft_add, Hy.out, DM.aft_zero_of _ _ hp]
        have Hz := Lib.hid hz; clear hz
        go_wp2
        go_ret
        exact ⟨ret_int (by rw [Hz.out]), rfl⟩
    · have hz : DM.aft n.toNat x = y := by rw [show n.toNat = k from by omega, Hy.out]
      have Hz := Lib.hid hz; clear hz
      go_wp2
      go_ret
      exact ⟨ret_int (by rw [Hz.out]), rfl⟩

end Go.Proofs.YtohahloghmanpaaGreatDoor
