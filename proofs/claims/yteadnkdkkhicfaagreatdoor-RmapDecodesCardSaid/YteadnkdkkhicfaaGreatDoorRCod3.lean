/- coding.Uint, coding.Text: what gave up is recovered. -/
import Derived.Test.YteadnkdkkhicfaaGreatDoorRCod2
namespace Go.Proofs.YteadnkdkkhicfaaGreatDoor
open Go.RowKit
set_option linter.unusedVariables false
set_option maxRecDepth 20000
attribute [local go_sem] opC upC

def doneP : List PanicEntry := [{ v := .iface 160 (.agg #[]), recovered := true }]
set_option maxRecDepth 100000 in
set_option maxHeartbeats 1000000 in
theorem catchU_fails (g : Nat) (x0 x1 x2 : Value) (t0 t1 t2 : TypeId) (w : World) (h0 : Blk w g [x0] t0) (h1 : Blk w (g + 1) [x1] t1) (h2 : Blk w (g + 2) [x2] t2) :
    CallsD Tryz.prog 119 #[.pointer (some ⟨g, 0, none⟩), .pointer (some ⟨g + 1, 0, none⟩), .pointer (some ⟨g + 2, 0, none⟩)] (.panicking failP) w fun e u' w' =>
      e = .returned (.tuple #[]) ∧ u' = .panicking doneP ∧ Blk w' g [.int .u64 0] t0 ∧ Blk w' (g + 1) [.int .i64 0] t1 ∧ Blk w' (g + 2) [.bool false] t2 ∧ Below g w w' := by
  refine callsD_of_wpS Tryz.func119 rfl fun c₀ cs hu => ?_
  apply wpS_seq
  apply wpS_region
  simp [wpOpsS, go_sem, recoverD, hu, Tryz.ntmps119, Exit.thenS, failP]
  refine wpS_of_wp ?_
  have hta : ∀ w, (Instr.typeAssert (.iface 160 (.agg #[])) 20 160 true).run Tryz.prog w = .ok (.tuple #[.agg #[], .bool true]) w := fun _ => by kernel_rfl
  obtain ⟨wf, hwf⟩ : ∃ wf, wf = w.alloc (.cells #[] 160) := ⟨_, rfl⟩
  have k0 : Blk wf g [x0] t0 := by rw [hwf]; exact h0.alloc _
  have k1 : Blk wf (g + 1) [x1] t1 := by rw [hwf]; exact h1.alloc _
  have k2 : Blk wf (g + 2) [x2] t2 := by rw [hwf]; exact h2.alloc _
  have y0 : wf.cell? ⟨g, 0, none⟩ = some x0 := by simpa using k0.cell 0
  have y1 : wf.cell? ⟨g + 1, 0, none⟩ = some x1 := by simpa using k1.cell 0
  have y2 : wf.cell? ⟨g + 2, 0, none⟩ = some x2 := by simpa using k2.cell 0
  have z0 := k0.free 0
  have z1 := k1.free 0
  have z2 := k2.free 0
  rw [hwf] at y0 y1 y2 z0 z1 z2
  go_wp2_with fail
  rw [← hwf]
  have hb : Below g w wf := by rw [hwf]; exact (Below.refl g w).alloc (Nat.le_of_lt h0.lt) _
  refine ⟨rfl, .panicking doneP, rfl, .tuple #[], by simp [results, Tryz.results119, go_sem], rfl, rfl, ?_, ?_, ?_, ?_⟩
  · exact ((k0.set 0 _).set_other _ (by show g ≠ g + 1; omega)).set_other _ (by show g ≠ g + 2; omega)
  · exact ((k1.set_other _ (by show g + 1 ≠ g; omega)).set 0 _).set_other _ (by show g + 1 ≠ g + 2; omega)
  · exact ((k2.set_other _ (by show g + 2 ≠ g; omega)).set_other _ (by show g + 2 ≠ g + 1; omega)).set 0 _
  · exact ((hb.setCell (p := ⟨g, 0, none⟩) (Nat.le_refl _) _).setCell (p := ⟨g + 1, 0, none⟩) (Nat.le_succ _) _).setCell (p := ⟨g + 2, 0, none⟩) (by show g ≤ g + 2; omega) _
set_option maxRecDepth 100000 in
set_option maxHeartbeats 1000000 in
theorem catchU_idle (p0 p1 p2 : Value) (w : World) :
    CallsD Tryz.prog 119 #[p0, p1, p2] .returning w fun e u' w' => e = .returned (.tuple #[]) ∧ u' = .returning ∧ w' = w := by
  refine callsD_of_wpS Tryz.func119 rfl fun c₀ cs hu => ?_
  apply wpS_seq
  apply wpS_region
  simp [wpOpsS, go_sem, recoverD, hu, Tryz.ntmps119, Exit.thenS]
  refine wpS_of_wp ?_
  go_wp2_with fail
  cases c₀
  simp_all [bodyPostS, results, Tryz.results119, go_sem]
set_option maxRecDepth 100000 in
set_option maxHeartbeats 1000000 in
theorem catchT_fails (g : Nat) (x0 x1 x2 : Value) (t0 t1 t2 : TypeId) (w : World) (h0 : Blk w g [x0] t0) (h1 : Blk w (g + 1) [x1] t1) (h2 : Blk w (g + 2) [x2] t2) :
    CallsD Tryz.prog 120 #[.pointer (some ⟨g, 0, none⟩), .pointer (some ⟨g + 1, 0, none⟩), .pointer (some ⟨g + 2, 0, none⟩)] (.panicking failP) w fun e u' w' =>
      e = .returned (.tuple #[]) ∧ u' = .panicking doneP ∧ Blk w' g [.string ⟨#[]⟩] t0 ∧ Blk w' (g + 1) [.int .i64 0] t1 ∧ Blk w' (g + 2) [.bool false] t2 ∧ Below g w w' := by
  refine callsD_of_wpS Tryz.func120 rfl fun c₀ cs hu => ?_
  apply wpS_seq
  apply wpS_region
  simp [wpOpsS, go_sem, recoverD, hu, Tryz.ntmps120, Exit.thenS, failP]
  refine wpS_of_wp ?_
  have hta : ∀ w, (Instr.typeAssert (.iface 160 (.agg #[])) 20 160 true).run Tryz.prog w = .ok (.tuple #[.agg #[], .bool true]) w := fun _ => by kernel_rfl
  obtain ⟨wf, hwf⟩ : ∃ wf, wf = w.alloc (.cells #[] 160) := ⟨_, rfl⟩
  have k0 : Blk wf g [x0] t0 := by rw [hwf]; exact h0.alloc _
  have k1 : Blk wf (g + 1) [x1] t1 := by rw [hwf]; exact h1.alloc _
  have k2 : Blk wf (g + 2) [x2] t2 := by rw [hwf]; exact h2.alloc _
  have y0 : wf.cell? ⟨g, 0, none⟩ = some x0 := by simpa using k0.cell 0
  have y1 : wf.cell? ⟨g + 1, 0, none⟩ = some x1 := by simpa using k1.cell 0
  have y2 : wf.cell? ⟨g + 2, 0, none⟩ = some x2 := by simpa using k2.cell 0
  have z0 := k0.free 0
  have z1 := k1.free 0
  have z2 := k2.free 0
  rw [hwf] at y0 y1 y2 z0 z1 z2
  go_wp2_with fail
  rw [← hwf]
  have hb : Below g w wf := by rw [hwf]; exact (Below.refl g w).alloc (Nat.le_of_lt h0.lt) _
  refine ⟨rfl, .panicking doneP, rfl, .tuple #[], by simp [results, Tryz.results120, go_sem], rfl, rfl, ?_, ?_, ?_, ?_⟩
  · exact ((k0.set 0 _).set_other _ (by show g ≠ g + 1; omega)).set_other _ (by show g ≠ g + 2; omega)
  · exact ((k1.set_other _ (by show g + 1 ≠ g; omega)).set 0 _).set_other _ (by show g + 1 ≠ g + 2; omega)
  · exact ((k2.set_other _ (by show g + 2 ≠ g; omega)).set_other _ (by show g + 2 ≠ g + 1; omega)).set 0 _
  · exact ((hb.setCell (p := ⟨g, 0, none⟩) (Nat.le_refl _) _).setCell (p := ⟨g + 1, 0, none⟩) (Nat.le_succ _) _).setCell (p := ⟨g + 2, 0, none⟩) (by show g ≤ g + 2; omega) _
set_option maxRecDepth 100000 in
set_option maxHeartbeats 1000000 in
theorem catchT_idle (p0 p1 p2 : Value) (w : World) :
    CallsD Tryz.prog 120 #[p0, p1, p2] .returning w fun e u' w' => e = .returned (.tuple #[]) ∧ u' = .returning ∧ w' = w := by
  refine callsD_of_wpS Tryz.func120 rfl fun c₀ cs hu => ?_
  apply wpS_seq
  apply wpS_region
  simp [wpOpsS, go_sem, recoverD, hu, Tryz.ntmps120, Exit.thenS]
  refine wpS_of_wp ?_
  go_wp2_with fail
  cases c₀
  simp_all [bodyPostS, results, Tryz.results120, go_sem]
end Go.Proofs.YteadnkdkkhicfaaGreatDoor
