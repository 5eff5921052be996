/- The law RmapDecodes. -/
import Derived.Test.YteadnkdkkhicfaaGreatDoorRDecG
import Derived.Test.YteadnkdkkhicfaaGreatDoorRHas
import Derived.Test.YteadnkdkkhicfaaGreatDoorRArg
import Derived.Test.YteadnkdkkhicfaaGreatDoorClone
import Derived.Test.YteadnkdkkhicfaaGreatDoorRWorks
import Derived.Test.YteadnkdkkhicfaaGreatDoorRSpoil
namespace Go.Proofs.YteadnkdkkhicfaaGreatDoor
open Go.RowKit Go.Lib
set_option linter.unusedVariables false
set_option maxRecDepth 20000
attribute [local go_sem ↓] seal_append
attribute [local go_sem] opC upC
abbrev IsBytes (w : World) (v : Value) : Prop := ∃ l : List UInt8, Bytes (fun b => b < w.heap.size) w v l
theorem decR_small (b : List UInt8) : SmallM (decR b).1 := by
  unfold decR
  split
  · rename_i h; exact small_valid h.2
  · exact small_empty
set_option maxRecDepth 100000 in
set_option maxHeartbeats 4000000 in
theorem RmapDecodes_walk (bv : Value) (w : World) (hbv : IsBytes w bv) (hq : Tabs w ∧ 3 ≤ w.heap.size) :
    Calls Tryz.prog 3 #[bv] w fun e w' => e = .returned (.bool true) ∧ Below w.heap.size w w' := by
  obtain ⟨bs, hbs⟩ := hbv
  obtain ⟨ab, cb, rfl, -⟩ := id hbs
  have HTb := Lib.hid (show ∀ w', Below w.heap.size w w' → Tabs w' ∧ 3 ≤ w'.heap.size from fun w' hb => ⟨tabs_below hq.1 hq.2 hb, Nat.le_trans hq.2 hb.size⟩)
  have HBs := Lib.hid (show ∀ w', Below w.heap.size w w' → Bytes (fun q => q < w.heap.size) w' (.slice ab bs.length cb) bs ∧ ∀ q, q < w.heap.size → q < w'.heap.size from fun w' hb => ⟨hbs.keep (w' := w') fun q hq _ => hb.block q hq, fun q hq => Nat.lt_of_lt_of_le hq hb.size⟩)
  clear hq hbs
  obtain ⟨nb, hnb⟩ : ∃ nb, bs.length = nb := ⟨_, rfl⟩
  by_cases hn3 : 3000 < nb
  · have hnI : (3000 : Int) < (nb : Int) := by omega
    rw [hnb]
    go_enter Tryz.func3, Tryz.ntmps3
    go_wp2_with fail
    go_ret
    exact ⟨rfl, Below.refl _ _⟩
  have hnI : ¬ (3000 : Int) < (nb : Int) := by omega
  have Hbs3 := Lib.hid (show bs.length ≤ 3000 by omega)
  have hk1 := kept_alloc w (.cells #[] 5)
  obtain ⟨v', w3, hr, hown, hgb⟩ := run_append_bytes (w.alloc (.cells #[] 5)) w.heap.size (.slice (some ⟨w.heap.size, 0, none⟩) 0 0) []
    ⟨rfl, .inr ⟨w.heap.size, 0, #[], rfl, Nat.le_refl _, by unfold World.alloc; simp, Nat.le_refl _, by unfold maxLen; omega, rfl, rfl⟩⟩ _ _ bs (HBs.out _ hk1).1 (by simp; omega) (by simp)
  have hb3 : Below w.heap.size w w3 := hk1.grown hgb (by simp) (fun k hk => by simp [Value.ownBlock] at hk; omega)
  rw [List.nil_append] at hown
  have hin := Bytes.of_owns hown (fun q => q < w3.heap.size) (fun k _ h => h)
  obtain ⟨ai, ci, rfl⟩ := own_shape hown
  rw [hnb] at hr
  have HDc := Lib.hid (pdecode_any w3 (HTb.out _ hb3).1 (HTb.out _ hb3).2 _ ai ci bs hin (fun q hq => hq) (by have := Hbs3.out; omega))
  obtain ⟨D, hD⟩ : ∃ D, decR bs = D := ⟨_, rfl⟩
  unfold DPost at HDc
  rw [hD, hnb] at HDc
  have HDe := Lib.hid hD; have Hnb := Lib.hid hnb; have HW3 := Lib.hid hb3
  have Hin := Lib.hid (show ∀ W, Below w3.heap.size w3 W → Bytes (fun q => q < w3.heap.size) W (.slice ai bs.length ci) bs from fun W hb => hin.keep (w' := W) fun q hq _ => hb.block q hq)
  rw [hnb]
  clear hk1 hown hgb hb3 hin hD hnb
  go_enter Tryz.func3, Tryz.ntmps3
  go_wp2_with fail
  refine HDc.out.mono ?_
  rintro e wm20 ⟨r, rfl, hmv, hbm⟩
  obtain ⟨t1, t2, t3, rfl, hmi⟩ := hmv
  dsimp only at hmi ⊢
  obtain ⟨n120, m120, rfl, -⟩ := hmi.seen.shape
  obtain ⟨n220, m220, rfl, -⟩ := hmi.items.shape
  obtain ⟨n320, m320, rfl, -⟩ := hmi.gone.shape
  obtain ⟨w20, hw20⟩ : ∃ q, q = wm20.alloc (.cells #[.slice n120 D.1.seen.length m120, .slice n220 D.1.items.length m220, .slice n320 D.1.gone.length m320] 27) := ⟨_, rfl⟩
  have hk20 : Below wm20.heap.size wm20 w20 := by rw [hw20]; exact kept_alloc _ _
  have hbw : Below w3.heap.size w3 w20 := hbm.trans (hk20.mono hbm.size)
  have Hb20 := Lib.hid (show Blk w20 wm20.heap.size [.slice n120 D.1.seen.length m120, .slice n220 D.1.items.length m220, .slice n320 D.1.gone.length m320] 27 by rw [hw20]; exact Blk.new _ _ _)
  have Hm20 := Lib.hid ((hmi.keep (w' := w20) fun q _ hlt => hk20.block q hlt).mono (G := fun q => q < w20.heap.size) fun q _ hlt => hlt)
  have HW20 := Lib.hid (show Below w.heap.size w w20 from HW3.out.trans (hbw.mono HW3.out.size))
  have HB20 := Lib.hid hbw
  have Hw20 := Lib.hid hw20
  clear hk20 hbw hmi hbm hw20
  have HDr := Lib.hid (rdecode_any w20 _ ab cb bs (HBs.out _ HW20.out).1 (HBs.out _ HW20.out).2 (by have := Hbs3.out; omega))
  unfold DPost at HDr
  rw [HDe.out, Hnb.out] at HDr
  clear HDc hr
  go_wp2_with fail
  rw [← Hw20.out]
  refine HDr.out.mono ?_
  rintro e wm21 ⟨r, rfl, hmv, hbm⟩
  obtain ⟨t1, t2, t3, rfl, hmi⟩ := hmv
  dsimp only at hmi ⊢
  obtain ⟨n121, m121, rfl, -⟩ := hmi.seen.shape
  obtain ⟨n221, m221, rfl, -⟩ := hmi.items.shape
  obtain ⟨n321, m321, rfl, -⟩ := hmi.gone.shape
  obtain ⟨w21, hw21⟩ : ∃ q, q = wm21.alloc (.cells #[.slice n121 D.1.seen.length m121, .slice n221 D.1.items.length m221, .slice n321 D.1.gone.length m321] 34) := ⟨_, rfl⟩
  have hk21 : Below wm21.heap.size wm21 w21 := by rw [hw21]; exact kept_alloc _ _
  have hbw : Below w20.heap.size w20 w21 := hbm.trans (hk21.mono hbm.size)
  have Hb21 := Lib.hid (show Blk w21 wm21.heap.size [.slice n121 D.1.seen.length m121, .slice n221 D.1.items.length m221, .slice n321 D.1.gone.length m321] 34 by rw [hw21]; exact Blk.new _ _ _)
  have Hm21 := Lib.hid ((hmi.keep (w' := w21) fun q _ hlt => hk21.block q hlt).mono (G := fun q => q < w21.heap.size) fun q _ hlt => hlt)
  have HW21 := Lib.hid (show Below w.heap.size w w21 from HW20.out.trans (hbw.mono HW20.out.size))
  have HB21 := Lib.hid hbw
  have Hw21 := Lib.hid hw21
  clear hk21 hbw hmi hbm hw21
  clear HDr
  have hsz : SmallM D.1 := by rw [← HDe.out]; exact decR_small _
  have HS := Lib.hid (same_any w21 _ _ (.agg #[.slice n120 D.1.seen.length m120, .slice n220 D.1.items.length m220, .slice n320 D.1.gone.length m320]) (.agg #[.slice n121 D.1.seen.length m121, .slice n221 D.1.items.length m221, .slice n321 D.1.gone.length m321]) D.1 D.1 ⟨_, _, _, rfl, Hm20.out.keep (w' := w21) fun q hq _ => HB21.out.block q hq⟩ ⟨_, _, _, rfl, Hm21.out⟩ hsz.1 hsz.2.1 hsz.2.2)
  obtain ⟨c0, c1, c2⟩ := cell3 (Hb20.out.keep (HB21.out.block _ Hb20.out.lt))
  obtain ⟨d0, d1, d2⟩ := cell3 Hb21.out
  rw [Hw21.out] at c0 c1 c2 d0 d1 d2
  clear hsz
  go_wp2_with fail
  rw [← Hw21.out]
  refine HS.out.mono ?_
  rintro e w22 ⟨r, rfl, hr, hb22⟩
  obtain rfl : r = true := hr.2 rfl
  have hW22 := HW21.out.trans (hb22.mono HW21.out.size)
  have h41 := run_strB (Hin.out w22 (HB20.out.trans ((HB21.out.trans (hb22.mono HB21.out.size)).mono HB20.out.size)))
  have h51 := run_strB (HBs.out _ hW22).1
  rw [Hnb.out] at h41 h51
  have HW22 := Lib.hid hW22
  have HWk := Lib.hid (works_any w22 (HTb.out _ hW22).1 (HTb.out _ hW22).2)
  clear HS hr hb22 hW22 c0 c1 c2 d0 d1 d2
  go_wp2_with fail
  refine HWk.out.mono ?_
  rintro e w23 ⟨rfl, hb23⟩
  clear HWk
  go_wp2_with fail
  go_ret
  exact ⟨rfl, HW22.out.trans (hb23.mono HW22.out.size)⟩
end Go.Proofs.YteadnkdkkhicfaaGreatDoor
