/- The examples of the chapter on counts hold: works returns true. -/
import Derived.Test.YtnkbgkcpdigcaaaDecayWalk
namespace Go.Proofs.Ytnkbgkcpdigcaaa
open Go.RowKit

theorem decay_works (w : World) :
    Calls Try.prog 15 #[] w fun e w' => e = .returned (.bool true) ∧ Below w.heap.size w w' := by
  have e1 : DM.aft (Int.toNat 1) (DM.bnd 65536) = 65280 := by decide +kernel
  have e2 : DM.aft (Int.toNat 1) (DM.bnd 255) = 254 := by decide +kernel
  have e3 : DM.aft (Int.toNat 1) (DM.bnd 65536) + 65536 = 130816 := by decide +kernel
  have e4 : ((DM.life (DM.bnd 256) : Nat) : Int) = 256 := by decide +kernel
  go_enter Try.func15, Try.ntmps15
  go_wp2_with fail
  refine (after_any _ _ _ (by omega)).mono ?_
  rintro e w1 ⟨rfl, hb1⟩
  rw [e1]
  go_wp2_with fail
  refine (after_any _ _ _ (by omega)).mono ?_
  rintro e w2 ⟨rfl, hb2⟩
  rw [e2]
  go_wp2_with fail
  refine (use_any _ _ _ (by omega)).mono ?_
  rintro e w3 ⟨rfl, hb3⟩
  rw [e3]
  go_wp2_with fail
  refine (life_any _ _).mono ?_
  rintro e w4 ⟨rfl, hb4⟩
  rw [e4]
  go_wp2_with fail
  go_ret
  exact ⟨rfl, hb1.trans ((hb2.mono hb1.size).trans ((hb3.mono (Nat.le_trans hb1.size hb2.size)).trans (hb4.mono (Nat.le_trans hb1.size (Nat.le_trans hb2.size hb3.size)))))⟩
end Go.Proofs.Ytnkbgkcpdigcaaa
