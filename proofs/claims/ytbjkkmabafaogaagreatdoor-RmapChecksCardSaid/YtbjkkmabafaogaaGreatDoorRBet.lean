/- Which of two elements is kept: later, deeper, Use's. -/
import Derived.Test.YtbjkkmabafaogaaGreatDoorRMrg
namespace Go.Proofs.YtbjkkmabafaogaaGreatDoor
open Go.RowKit
set_option linter.unusedVariables false
set_option maxRecDepth 20000
attribute [local go_sem ↓] seal_append
attribute [local go_sem] opC upC

theorem cell3 {w : World} {b : Nat} {x y z : Value} {t : TypeId} (h : Blk w b [x, y, z] t) : w.cell? ⟨b, 0, none⟩ = some x ∧ w.cell? ⟨b, 1, none⟩ = some y ∧ w.cell? ⟨b, 2, none⟩ = some z := by
  have h0 := h.cell 0
  have h1 := h.cell 1
  have h2 := h.cell 2
  simp at h0 h1 h2
  exact ⟨h0, h1, h2⟩
theorem cell4 {w : World} {b : Nat} {x y z u : Value} {t : TypeId} (h : Blk w b [x, y, z, u] t) : w.cell? ⟨b, 0, none⟩ = some x ∧ w.cell? ⟨b, 1, none⟩ = some y ∧ w.cell? ⟨b, 2, none⟩ = some z ∧ w.cell? ⟨b, 3, none⟩ = some u := by
  have h0 := h.cell 0
  have h1 := h.cell 1
  have h2 := h.cell 2
  have h3 := h.cell 3
  simp at h0 h1 h2 h3
  exact ⟨h0, h1, h2, h3⟩
theorem fin4 {w W : World} {B b : Nat} {x y z u : Value} {t : TypeId} (kr : Blk W b [x, y, z, u] t) (hb : Below B w W) (hB : B ≤ b) (s1 s2 s3 s4 : Value) :
    ∃ wf, wf = (((W.setCell ⟨b, 0, none⟩ s1).setCell ⟨b, 1, none⟩ s2).setCell ⟨b, 2, none⟩ s3).setCell ⟨b, 3, none⟩ s4 ∧ Blk wf b [s1, s2, s3, s4] t ∧ Below B w wf :=
  ⟨_, rfl, (((kr.set 0 s1).set 1 s2).set 2 s3).set 3 s4, (((hb.setCell (p := ⟨b, 0, none⟩) hB _).setCell (p := ⟨b, 1, none⟩) hB _).setCell (p := ⟨b, 2, none⟩) hB _).setCell (p := ⟨b, 3, none⟩) hB _⟩

set_option maxRecDepth 100000 in
set_option maxHeartbeats 1500000 in
theorem deeper_any (w : World) (x y : RGo) :
    Calls Tryz.prog 67 #[goV x, goV y] w fun e w' => e = .returned (goV (deeperR x y)) ∧ Below w.heap.size w w' := by
  obtain ⟨wf, hwf⟩ : ∃ wf, wf = ((w.alloc (.cells #[.string ⟨x.key.toArray⟩, .int .i64 x.dev, .int .i64 x.seq] 83)).alloc (.cells #[.string ⟨y.key.toArray⟩, .int .i64 y.dev, .int .i64 y.seq] 83)) := ⟨_, rfl⟩
  have hbf : Below w.heap.size w wf := by rw [hwf]; exact (kept_alloc _ _).alloc (by simp) _
  have hzf : wf.heap.size = w.heap.size + 2 := by rw [hwf]; simp
  have Hbf := Lib.hid hbf; have Hzf := Lib.hid hzf; have Hwf := Lib.hid hwf
  clear hbf hzf hwf
  unfold goV
  go_enter Tryz.func67, Tryz.ntmps67
  by_cases hlt : x.seq < y.seq
  · have hd : deeperR x y = y := by unfold deeperR; rw [if_pos hlt]
    rw [hd]
    clear hd
    go_wp2_with fail
    rw [← Hwf.out]
    have hbz := kept_alloc wf (.cells #[.string ⟨y.key.toArray⟩, .int .i64 y.dev, .int .i64 y.seq] 83)
    obtain ⟨q0, q1, q2⟩ := cell3 (Blk.new wf #[.string ⟨y.key.toArray⟩, .int .i64 y.dev, .int .i64 y.seq] 83)
    rw [Hzf.out] at q0 q1 q2
    refine bodyPost_ret (v := .agg #[.string ⟨y.key.toArray⟩, .int .i64 y.dev, .int .i64 y.seq]) (by simp [results, Tryz.results67, go_sem, q0, q1, q2]) rfl ⟨rfl, Hbf.out.trans (hbz.mono Hbf.out.size)⟩
  · have hd : deeperR x y = x := by unfold deeperR; rw [if_neg hlt]
    rw [hd]
    clear hd
    go_wp2_with fail
    rw [← Hwf.out]
    have hbz := kept_alloc wf (.cells #[.string ⟨x.key.toArray⟩, .int .i64 x.dev, .int .i64 x.seq] 83)
    obtain ⟨q0, q1, q2⟩ := cell3 (Blk.new wf #[.string ⟨x.key.toArray⟩, .int .i64 x.dev, .int .i64 x.seq] 83)
    rw [Hzf.out] at q0 q1 q2
    refine bodyPost_ret (v := .agg #[.string ⟨x.key.toArray⟩, .int .i64 x.dev, .int .i64 x.seq]) (by simp [results, Tryz.results67, go_sem, q0, q1, q2]) rfl ⟨rfl, Hbf.out.trans (hbz.mono Hbf.out.size)⟩

set_option maxRecDepth 100000 in
set_option maxHeartbeats 1500000 in
theorem useB_any (w : World) (nw : Nat) (now : Int) (hnw : w.cell? ⟨nw, 0, none⟩ = some (.int .i64 now)) (old x : RIt) (hn : 0 ≤ now ∧ now ≤ 2199023255552) (hs : 0 ≤ old.seq ∧ old.seq ≤ 2199023255552) :
    Calls Tryz.prog 57 #[itV old, itV x, .pointer (some ⟨nw, 0, none⟩)] w fun e w' => e = .returned (itV (useBetter now old x)) ∧ Below w.heap.size w w' := by
  obtain ⟨w1, hw1⟩ : ∃ w1, w1 = w.alloc (.cells #[.string ⟨old.key.toArray⟩, .int .i64 old.dev, .int .i64 old.seq, .int .i64 old.val] 75) := ⟨_, rfl⟩
  obtain ⟨w2, hw2⟩ : ∃ w2, w2 = w1.alloc (.cells #[.string ⟨x.key.toArray⟩, .int .i64 x.dev, .int .i64 x.seq, .int .i64 x.val] 75) := ⟨_, rfl⟩
  obtain ⟨w3, hw3⟩ : ∃ w3, w3 = w2.alloc (.cells #[.string ⟨#[]⟩, .int .i64 0, .int .i64 0, .int .i64 0] 75) := ⟨_, rfl⟩
  have hz1 : w1.heap.size = w.heap.size + 1 := by rw [hw1]; simp
  have hz2 : w2.heap.size = w.heap.size + 2 := by rw [hw2]; simp [hz1]
  have hz3 : w3.heap.size = w.heap.size + 3 := by rw [hw3]; simp [hz2]
  have hb3 : Below w.heap.size w w3 := by
    rw [hw3, hw2, hw1]
    exact ((kept_alloc _ _).alloc (by simp) _).alloc (by simp; omega) _
  have hX : Blk w3 (w.heap.size + 1) [.string ⟨x.key.toArray⟩, .int .i64 x.dev, .int .i64 x.seq, .int .i64 x.val] 75 := by
    have := Blk.new w1 #[.string ⟨x.key.toArray⟩, .int .i64 x.dev, .int .i64 x.seq, .int .i64 x.val] 75
    rw [hw3, hw2, ← hz1]; exact this.alloc _
  have hR : Blk w3 (w.heap.size + 2) [.string ⟨#[]⟩, .int .i64 0, .int .i64 0, .int .i64 0] 75 := by
    have := Blk.new w2 #[.string ⟨#[]⟩, .int .i64 0, .int .i64 0, .int .i64 0] 75
    rw [hw3, ← hz2]; exact this
  have hnlt : nw < w.heap.size := cellLt hnw
  have hnlt1 : nw < w.heap.size + 1 := by omega
  have hnlt2 : nw < w.heap.size + 1 + 1 := by omega
  have hU := use_any old.val (now - old.seq) w3 (by omega)
  obtain ⟨u, hu⟩ : ∃ u, DM.aft (now - old.seq).toNat (DM.bnd old.val) + 65536 = u := ⟨_, rfl⟩
  rw [hu] at hU
  have hr : useBetter now old x = ⟨x.key, x.dev, x.seq, u⟩ := by unfold useBetter decUse; rw [hu]
  rw [hr]
  have HU := Lib.hid hU; have HX := Lib.hid hX; have HR := Lib.hid hR; have Hb3 := Lib.hid hb3
  have Hz3 := Lib.hid hz3
  have Hw3 := Lib.hid (show w3 = ((w.alloc (.cells #[.string ⟨old.key.toArray⟩, .int .i64 old.dev, .int .i64 old.seq, .int .i64 old.val] 75)).alloc (.cells #[.string ⟨x.key.toArray⟩, .int .i64 x.dev, .int .i64 x.seq, .int .i64 x.val] 75)).alloc (.cells #[.string ⟨#[]⟩, .int .i64 0, .int .i64 0, .int .i64 0] 75) by rw [hw3, hw2, hw1])
  obtain ⟨hn1, hn2⟩ := hn
  obtain ⟨hs1, hs2⟩ := hs
  clear hU hX hR hb3 hu hr hz3 hz1 hz2 hw1 hw2 hw3
  unfold itV
  go_enter Tryz.func57, Tryz.ntmps57
  go_wp2_with fail
  rw [← Hw3.out]
  refine HU.out.mono ?_
  rintro e w4 ⟨rfl, hb4⟩
  have kX := HX.out.keep (hb4.block _ HX.out.lt)
  have kR := HR.out.keep (hb4.block _ HR.out.lt)
  obtain ⟨x0, x1, x2, x3⟩ := cell4 kX
  obtain ⟨y0, y1, y2, y3⟩ := cell4 kR
  have fX := kX.free 3
  have z0 := kR.free 0
  have z1 := kR.free 1
  have z2 := kR.free 2
  have z3 := kR.free 3
  obtain ⟨w5, hw5⟩ : ∃ w5, w5 = w4.setCell ⟨w.heap.size + 1, 3, none⟩ (.int .i64 u) := ⟨_, rfl⟩
  have hb5 : Below w.heap.size w w5 := by rw [hw5]; exact (Hb3.out.trans (hb4.mono Hb3.out.size)).setCell (Nat.le_succ _) _
  have kR5 : Blk w5 (w.heap.size + 2) [.string ⟨#[]⟩, .int .i64 0, .int .i64 0, .int .i64 0] 75 := by
    rw [hw5]; exact kR.set_other _ (by show w.heap.size + 2 ≠ w.heap.size + 1; omega)
  obtain ⟨wf, hwf, hblk, hbf⟩ := fin4 kR5 hb5 (by omega) (.string ⟨x.key.toArray⟩) (.int .i64 x.dev) (.int .i64 x.seq) (.int .i64 u)
  rw [hw5] at hwf
  have Q := Lib.hid (cell4 hblk)
  have Hbf := Lib.hid hbf; have Hwf := Lib.hid hwf
  clear HU hb4 kX kR kR5 hblk hb5 hw5 hbf hwf
  go_wp2_with fail
  rw [← Hwf.out]
  obtain ⟨q0, q1, q2, q3⟩ := Q.out
  exact bodyPost_ret (v := .agg #[.string ⟨x.key.toArray⟩, .int .i64 x.dev, .int .i64 x.seq, .int .i64 u]) (by simp [results, Tryz.results57, go_sem, q0, q1, q2, q3]) rfl ⟨rfl, Hbf.out⟩
end Go.Proofs.YtbjkkmabafaogaaGreatDoor
