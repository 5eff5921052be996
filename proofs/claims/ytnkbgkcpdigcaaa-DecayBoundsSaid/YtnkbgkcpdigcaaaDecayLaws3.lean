/- The law DecayBounds. No condition. -/
import Derived.Test.YtnkbgkcpdigcaaaDecayWorks
import Derived.Test.YtnkbgkcpdigcaaaArgs
namespace Go.Proofs.Ytnkbgkcpdigcaaa
open Go.RowKit
set_option linter.unusedVariables false

/-- a count within the bound stays there -/
theorem use_bd (v : Int) (g : Nat) (h0 : 0 ≤ v) (h1 : v ≤ 16777216) : 0 ≤ DM.aft (g + 1) (DM.bnd v) ∧ DM.aft (g + 1) (DM.bnd v) ≤ 16711680 := by
  rw [DM.bnd_id v h0 (by omega)]
  refine ⟨DM.aft_nonneg _ _ h0, ?_⟩
  by_cases hv : 0 < v
  · rw [DM.aft_succ_pos _ _ hv]
    have a := DM.aft_le g _ (DM.stp_nonneg v h0)
    have b := DM.stp_mono v 16777216 h1
    have c : DM.stp 16777216 = 16711680 := by decide
    omega
  · rw [DM.aft_zero_of _ _ hv]; omega

theorem DecayBounds_walk (v0 : Value) (w : World) (w0 : IsBytes w v0) :
    Calls Try.prog 7 #[v0] w fun e w' => e = .returned (.bool true) ∧ Below w.heap.size w w' := by
  obtain ⟨a, len, cap, zs, rfl, hr⟩ := w0
  rcases hr with ⟨rfl, rfl, rfl, rfl⟩ | ⟨x, rfl, hl, hm, hz, hcell, hwz⟩
  · go_enter Try.func7, Try.ntmps7
    go_wp2_with fail
    refine wp_loop_rounds 1 ?_
    rw [rounds_succ]
    go_wp2_with fail
    refine (decay_works _).mono ?_
    rintro e w7 ⟨rfl, hb7⟩
    go_wp2_with fail
    go_ret
    exact ⟨rfl, hb7⟩
  · by_cases h2000 : 2000 < len
    · go_enter Try.func7, Try.ntmps7
      go_wp2_with fail
      go_ret
      exact ⟨rfl, Below.refl _ _⟩
    · have hd : decide (2000 < len) = false := by simpa using h2000
      go_enter Try.func7, Try.ntmps7
      go_wp2_with fail
      have hm' : cap ≤ 9223372036854775807 := by unfold maxLen at hm; omega
      go_loopw [3, 4] (fun v i wr => ∃ (k : Nat) (n : Int), k ≤ len ∧ i = .int .i64 k ∧ v = .int .i64 n ∧ 0 ≤ n ∧ n ≤ 16777216 ∧ Below w.heap.size w wr) (fun _ i _ => len - (intOf i).toNat)
      case atStart => exact ⟨0, 0, by omega, rfl, rfl, by omega, by omega, Below.refl _ _⟩
      case round =>
        obtain ⟨k, n, hk, rfl, rfl, hn0, hn1, hb⟩ := hrel
        by_cases hlt : k < len
        · have hc := hcell k (by omega)
          have hblk := lt_of_cell hc
          rw [← hb.cell hblk] at hc
          have hg := range_u8 hwz k
          simp only [List.getD_eq_getElem?_getD] at hc
          generalize hgz : zs[k]?.getD 0 = g at *
          have Hgz := Lib.hid hgz; clear hgz
          have hu := use_bd n g.toNat hn0 hn1
          rw [show g.toNat + 1 = (g + 1).toNat from by omega] at hu
          go_wp2_with fail
          refine (use_any _ _ _ (by omega)).mono ?_
          rintro e w2 ⟨rfl, hb2⟩
          generalize DM.aft (g + 1).toNat (DM.bnd n) = y at *
          go_wp2_with fail
          go_roundw
          case rel => exact ⟨k + 1, y + 65536, by omega, by go_num, rfl, by omega, by omega, kept_trans hb hb2⟩
          case measure => simp [intOf]; omega
        · go_wp2_with fail
          refine (decay_works _).mono ?_
          rintro e w7 ⟨rfl, hb7⟩
          go_wp2_with fail
          go_ret
          exact ⟨rfl, kept_trans hb hb7⟩
end Go.Proofs.Ytnkbgkcpdigcaaa
