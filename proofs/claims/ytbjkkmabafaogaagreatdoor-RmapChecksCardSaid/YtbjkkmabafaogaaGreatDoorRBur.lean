/- buried. -/
import Derived.Test.YtbjkkmabafaogaaGreatDoorRAsc
namespace Go.Proofs.YtbjkkmabafaogaaGreatDoor
open Go.RowKit
set_option linter.unusedVariables false
set_option maxRecDepth 20000
attribute [local go_sem] opC upC

set_option maxRecDepth 100000 in
set_option maxHeartbeats 1500000 in
theorem burCmp_any (w : World) (x : RGo) (p : RPl) :
    Calls Tryz.prog 89 #[goV x, plV p] w fun e w' => e = .returned (.int .i64 (pcmp x.pl p)) ∧ Below w.heap.size w w' := by
  obtain ⟨w2, hw2⟩ : ∃ w2, w2 = (w.alloc (.cells #[.string ⟨x.key.toArray⟩, .int .i64 x.dev, .int .i64 x.seq] 83)).alloc (.cells #[.string ⟨p.1.toArray⟩, .int .i64 p.2] 91) := ⟨_, rfl⟩
  have hb2 : Below w.heap.size w w2 := by rw [hw2]; exact (kept_alloc _ _).alloc (by simp) _
  have hp := (Blk.new w #[.string ⟨x.key.toArray⟩, .int .i64 x.dev, .int .i64 x.seq] 83).alloc (.cells #[.string ⟨p.1.toArray⟩, .int .i64 p.2] 91)
  have hq := Blk.new (w.alloc (.cells #[.string ⟨x.key.toArray⟩, .int .i64 x.dev, .int .i64 x.seq] 83)) #[.string ⟨p.1.toArray⟩, .int .i64 p.2] 91
  rw [← hw2] at hp hq
  have hz : (w.alloc (.cells #[.string ⟨x.key.toArray⟩, .int .i64 x.dev, .int .i64 x.seq] 83)).heap.size = w.heap.size + 1 := by simp
  rw [hz] at hq
  have p0 : ∀ w', Later w2.drew w' → w'.cell? ⟨w.heap.size, 0, none⟩ = some (.string ⟨x.key.toArray⟩) := fun w' hh => laterC (by simpa using hp.cell 0) hh
  have p1 : ∀ w', Later w2.drew w' → w'.cell? ⟨w.heap.size, 1, none⟩ = some (.int .i64 x.dev) := fun w' hh => laterC (by simpa using hp.cell 1) hh
  have p2 : ∀ w', Later w2.drew w' → w'.cell? ⟨w.heap.size, 2, none⟩ = some (.int .i64 x.seq) := fun w' hh => laterC (by simpa using hp.cell 2) hh
  have q0 : ∀ w', Later w2.drew w' → w'.cell? ⟨w.heap.size + 1, 0, none⟩ = some (.string ⟨p.1.toArray⟩) := fun w' hh => laterC (by simpa using hq.cell 0) hh
  have q1 : ∀ w', Later w2.drew w' → w'.cell? ⟨w.heap.size + 1, 1, none⟩ = some (.int .i64 p.2) := fun w' hh => laterC (by simpa using hq.cell 1) hh
  have Hw2 := Lib.hid hw2
  have HP := Lib.hid (show Calls Tryz.prog 47 #[.agg #[.string ⟨x.key.toArray⟩, .int .i64 x.dev, .int .i64 x.seq]] w2.drew _ from goPlace_any w2.drew x)
  clear hp hq hz hw2
  unfold goV plV
  go_enter Tryz.func89, Tryz.ntmps89
  go_wp2_with fail
  rw [← Hw2.out]
  refine wp_region_can Later [(0, true), (2, true), (1, false), (3, false), (4, true)] (by kernel_rfl) (by kernel_rfl) later_refl later_trans ?_
  repeat (first
    | (refine can_yes (v := ?_) rfl (wanted_none rfl) (fun w' hC => ?_) (fun K hK => ?_); rotate_left; (focus (go_simp; first | done | exact rfl)); go_simp; refine hK _ ?_; clear hK K)
    | (refine can_guard rfl (fun A B hA hB => ?_); go_simp; first | (refine hA ⟨?_, fun w' hC => ?_, fun K hK => ?_⟩; rotate_left; (focus (go_simp; first | done | exact rfl)); go_simp; refine hK _ ?_; clear hK K hA hB A B) | (refine hB (fun K hK => ?_); go_simp; refine hK _ ?_; clear hK K hA hB A B))
    | (refine can_guard_go rfl (fun A B hA hB => ?_); go_simp; refine hB (fun K hK => ?_); go_simp; refine hK _ ?_; clear hK K hA hB A B))
  refine can_go rfl rfl (fun KK hK => ?_)
  go_simp
  refine HP.out.mono ?_
  rintro e w3 ⟨rfl, hb3⟩
  refine ⟨_, rfl, hb3, hK _ _ ?_⟩
  clear hK KK HP p0 p1 p2
  go_simp
  have HC := Lib.hid (show Calls Tryz.prog 86 #[plV x.pl, .agg #[.string ⟨p.1.toArray⟩, .int .i64 p.2]] w3 _ from compare_any w3 x.pl p)
  have Hb3 := Lib.hid (kept_trans hb2 ((Below.refl _ _).drew.trans hb3))
  clear hb3
  repeat (first
    | (refine can_yes (v := ?_) rfl (wanted_none rfl) (fun w' hC => ?_) (fun K hK => ?_); rotate_left; (focus (go_simp; first | done | exact rfl)); go_simp; refine hK _ ?_; clear hK K)
    | (refine can_guard rfl (fun A B hA hB => ?_); go_simp; first | (refine hA ⟨?_, fun w' hC => ?_, fun K hK => ?_⟩; rotate_left; (focus (go_simp; first | done | exact rfl)); go_simp; refine hK _ ?_; clear hK K hA hB A B) | (refine hB (fun K hK => ?_); go_simp; refine hK _ ?_; clear hK K hA hB A B))
    | (refine can_guard_go rfl (fun A B hA hB => ?_); go_simp; refine hB (fun K hK => ?_); go_simp; refine hK _ ?_; clear hK K hA hB A B))
  refine can_go rfl rfl (fun KK hK => ?_)
  go_simp
  refine HC.out.mono ?_
  rintro e w4 ⟨rfl, hb4⟩
  refine ⟨_, rfl, hb4, hK _ _ ?_⟩
  clear hK KK HC q0 q1
  go_simp
  have Hb4 := Lib.hid (kept_trans Hb3.out hb4)
  clear hb4
  repeat (first
    | (refine can_yes (v := ?_) rfl (wanted_none rfl) (fun w' hC => ?_) (fun K hK => ?_); rotate_left; (focus (go_simp; first | done | exact rfl)); go_simp; refine hK _ ?_; clear hK K)
    | (refine can_guard rfl (fun A B hA hB => ?_); go_simp; first | (refine hA ⟨?_, fun w' hC => ?_, fun K hK => ?_⟩; rotate_left; (focus (go_simp; first | done | exact rfl)); go_simp; refine hK _ ?_; clear hK K hA hB A B) | (refine hB (fun K hK => ?_); go_simp; refine hK _ ?_; clear hK K hA hB A B))
    | (refine can_guard_go rfl (fun A B hA hB => ?_); go_simp; refine hB (fun K hK => ?_); go_simp; refine hK _ ?_; clear hK K hA hB A B))
  refine can_nil ?_
  go_wp2_with fail
  go_ret
  exact ⟨rfl, Hb4.out⟩
end Go.Proofs.YtbjkkmabafaogaaGreatDoor
