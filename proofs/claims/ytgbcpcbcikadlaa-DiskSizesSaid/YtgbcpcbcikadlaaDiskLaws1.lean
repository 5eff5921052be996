/- The laws DiskKnown and DiskSizes. No condition. -/
import Derived.Test.YtgbcpcbcikadlaaDiskWorks
import Derived.OpenShut
namespace Go.Proofs.Ytgbcpcbcikadlaa
open Go.RowKit
set_option linter.unusedVariables false
attribute [local go_sem] opC upC

theorem DiskKnown_walk (w : World) :
    Calls Try.prog 5 #[] w fun e w' => e = .returned (.bool true) ∧ Below w.heap.size w w' := by
  go_enter Try.func5, Try.ntmps5
  go_wp2_with fail
  refine (new_err w 0 (by omega)).mono ?_
  rintro e w' ⟨rfl, rfl⟩
  go_wp2_with fail
  refine (new_err w 65537 (by omega)).mono ?_
  rintro e w' ⟨rfl, rfl⟩
  go_wp2_with fail
  refine (new_int w 65536 (by omega) (by omega)).mono ?_
  rintro e w1 ⟨K, rfl, hd, hb1, hf1⟩
  go_wp2_with fail
  refine (size_any w1 K _ hd).mono ?_
  rintro e w' ⟨rfl, rfl⟩
  have hv : (((MD.fresh (Int.toNat 65536)).S.length : Nat) : Int) = 65536 := by
    show (((List.replicate (Int.toNat 65536) (List.replicate 64 (0 : UInt8))).length : Nat) : Int) = 65536
    rw [List.length_replicate]
    exact Int.toNat_of_nonneg (by omega)
  rw [hv]; clear hv
  go_wp2_with fail
  refine (disk_works w1).mono ?_
  rintro e w2 ⟨rfl, hb2⟩
  go_wp2_with fail
  go_ret
  exact ⟨rfl, kept_trans hb1 hb2⟩

set_option maxHeartbeats 4000000 in
theorem DiskSizes_walk (n : Int) (w : World) (w0 : (Lit.int .i64 n).wf = true) :
    Calls Try.prog 4 #[.int .i64 n] w fun e w' => e = .returned (.bool true) ∧ Below w.heap.size w w' := by
  by_cases hn : n < 1 ∨ 65536 < n
  · by_cases h1 : n < 1
    all_goals
      have h2 : n < 1 ∨ 65536 < n := hn
      clear hn
      try (have h3 : 65536 < n := by omega)
      go_enter Try.func4, Try.ntmps4
      go_wp2_with fail
      refine (new_err w n h2).mono ?_
      rintro e w' ⟨rfl, rfl⟩
      go_wp2_with fail
      refine (disk_works w).mono ?_
      rintro e w2 ⟨rfl, hb2⟩
      go_wp2_with fail
      go_ret
      exact ⟨rfl, hb2⟩
  · have h1 : 1 ≤ n := by omega
    have h2 : n ≤ 65536 := by omega
    clear hn
    go_enter Try.func4, Try.ntmps4
    go_wp2_with fail
    refine (new_int w n h1 h2).mono ?_
    rintro e w1 ⟨K, rfl, hd, hb1, hf1⟩
    have hlen : (((MD.fresh n.toNat).S.length : Nat) : Int) = n := by simp [MD.fresh]; omega
    have Hlen := Lib.hid hlen
    go_wp2_with fail
    refine (size_any w1 K _ hd).mono ?_
    rintro e w' ⟨rfl, rfl⟩
    rw [Hlen.out]
    clear hlen
    go_wp2_with fail
    refine (down_any w1 K _ hd).mono ?_
    rintro e w' ⟨rfl, rfl⟩
    have hv : (MD.fresh n.toNat).down = false := rfl
    rw [hv]; clear hv
    go_wp2_with fail
    refine (writes_any w1 K _ hd).mono ?_
    rintro e w' ⟨rfl, rfl⟩
    have hv : (((MD.fresh n.toNat).writes : Nat) : Int) = 0 := rfl
    rw [hv]; clear hv
    go_wp2_with fail
    refine (read_int w1 K _ 0 hd (by omega) (by rw [Hlen.out]; omega) rfl).mono ?_
    rintro e w2 ⟨r1, rfl, hr1, hb2⟩
    have hd2 := hd.kept hb2
    go_wp2_with fail
    refine (read_int w2 K _ (n - 1) hd2 (by omega) (by rw [Hlen.out]; omega) rfl).mono ?_
    rintro e w3 ⟨r2, rfl, hr2, hb3⟩
    have hd3 := hd2.kept hb3
    have e1 : (MD.fresh n.toNat).S[(Int.toNat 0)]'(by have := Hlen.out; omega) = z64 0 := by simp [MD.fresh, z64]
    have e2 : (MD.fresh n.toNat).S[(n - 1).toNat]'(by have := Hlen.out; omega) = z64 0 := by simp [MD.fresh, z64]
    rw [e1] at hr1
    rw [e2] at hr2
    clear e1 e2
    have hc1 : (MD.fresh n.toNat).chk n = 6 := by unfold MD.chk; rw [Hlen.out]; simp [MD.fresh]
    have hc2 : (MD.fresh n.toNat).chk (-1) = 6 := by unfold MD.chk; simp [MD.fresh]
    have Hc1 := Lib.hid hc1
    have Hc2 := Lib.hid hc2
    clear hc1 hc2
    go_wp2_with fail
    refine (read_err w3 K _ n hd3 (by rw [Hc1.out]; decide)).mono ?_
    rintro e w' ⟨rfl, rfl⟩
    rw [Hc1.out]
    go_wp2_with fail
    refine (read_err w3 K _ (-1) hd3 (by rw [Hc2.out]; decide)).mono ?_
    rintro e w' ⟨rfl, rfl⟩
    rw [Hc2.out]
    go_wp2_with fail
    have hbee : Below w3.heap.size w3 w3.drew := (Below.refl _ _).drew
    have q1 : ∀ w', Later w3.drew w' → (convert 28 9 r1).run Try.prog w' = .ok (.string ⟨(z64 0).toArray⟩) w' := fun w' hb => owns_later (l := z64 0) hr1 (by decide) (kept_trans hb3 (kept_trans hbee hb))
    have q2 : ∀ w', Later w3.drew w' → (convert 28 9 r2).run Try.prog w' = .ok (.string ⟨(z64 0).toArray⟩) w' := fun w' hb => owns_later (l := z64 0) hr2 (by decide) (kept_trans hbee hb)
    have Q2 := Lib.hid q2; clear q2
    refine wp_region_can Later [(0, true), (1, true), (2, true), (3, true), (4, true), (5, true), (6, true), (7, true), (8, true), (9, true), (10, true), (11, true), (12, true), (13, true), (14, true), (15, true), (16, true), (17, false), (18, true), (19, true), (20, true), (21, true), (22, true), (23, true), (24, false), (25, true), (26, true), (27, true), (28, true), (29, false), (30, true), (31, true)] (by kernel_rfl) (by kernel_rfl) later_refl later_trans ?_
    repeat (first
      | (refine can_yes (v := ?_) rfl rfl (fun w' hC => ?_) (fun K hK => ?_); rotate_left; (focus (go_simp; first | done | exact rfl)); go_simp; refine hK _ ?_; clear hK K)
      | (refine can_no rfl rfl (fun K hK => ?_); go_simp; refine hK _ ?_; clear hK K))
    refine can_go rfl rfl (fun K hK => ?_)
    go_simp
    refine (sector_int _ 0 (by omega) (by omega)).mono ?_
    rintro e wx ⟨gx, rfl, hgx, hsx, hbx⟩
    refine ⟨_, rfl, hbx, hK _ _ ?_⟩
    clear hK K q1
    have qx : ∀ w', Later wx w' → (convert 28 9 (.slice (some ⟨gx, 0, none⟩) 64 64)).run Try.prog w' = .ok (.string ⟨(z64 0).toArray⟩) w' := fun w' hb => sector_later hsx hb
    have q2 : ∀ w', Later wx w' → (convert 28 9 r2).run Try.prog w' = .ok (.string ⟨(z64 0).toArray⟩) w' := fun w' hb => Q2.out w' (later_trans _ _ _ hbx hb)
    go_simp
    repeat (first
      | (refine can_yes (v := ?_) rfl rfl (fun w' hC => ?_) (fun K hK => ?_); rotate_left; (focus (go_simp; first | done | exact rfl)); go_simp; refine hK _ ?_; clear hK K)
      | (refine can_no rfl rfl (fun K hK => ?_); go_simp; refine hK _ ?_; clear hK K))
    refine can_go rfl rfl (fun K hK => ?_)
    go_simp
    refine (sector_int _ 0 (by omega) (by omega)).mono ?_
    rintro e wy ⟨gy, rfl, hgy, hsy, hby⟩
    refine ⟨_, rfl, hby, hK _ _ ?_⟩
    clear hK K qx q2
    have qy : ∀ w', Later wy w' → (convert 28 9 (.slice (some ⟨gy, 0, none⟩) 64 64)).run Try.prog w' = .ok (.string ⟨(z64 0).toArray⟩) w' := fun w' hb => sector_later hsy hb
    go_simp
    repeat (first
      | (refine can_yes (v := ?_) rfl rfl (fun w' hC => ?_) (fun K hK => ?_); rotate_left; (focus (go_simp; first | done | exact rfl)); go_simp; refine hK _ ?_; clear hK K)
      | (refine can_no rfl rfl (fun K hK => ?_); go_simp; refine hK _ ?_; clear hK K))
    refine can_go rfl rfl (fun K hK => ?_)
    go_simp
    refine (disk_works wy).mono ?_
    rintro e wz ⟨rfl, hbz⟩
    refine ⟨_, rfl, hbz, hK _ _ ?_⟩
    clear hK K qy
    go_simp
    repeat (first
      | (refine can_yes (v := ?_) rfl rfl (fun w' hC => ?_) (fun K hK => ?_); rotate_left; (focus (go_simp; first | done | exact rfl)); go_simp; refine hK _ ?_; clear hK K)
      | (refine can_no rfl rfl (fun K hK => ?_); go_simp; refine hK _ ?_; clear hK K))
    refine can_nil ?_
    go_wp2_with fail
    go_ret
    exact ⟨rfl, kept_trans hb1 (kept_trans hb2 (kept_trans hb3 (kept_trans hbee (kept_trans hbx (kept_trans hby hbz)))))⟩
end Go.Proofs.Ytgbcpcbcikadlaa
