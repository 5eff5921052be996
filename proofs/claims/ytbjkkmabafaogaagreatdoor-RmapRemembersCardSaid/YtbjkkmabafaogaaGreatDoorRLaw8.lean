/- The law RmapAgrees. -/
import Derived.Test.YtbjkkmabafaogaaGreatDoorRRun2
namespace Go.Proofs.YtbjkkmabafaogaaGreatDoor
open Go.RowKit Go.Lib
set_option linter.unusedVariables false
set_option maxRecDepth 20000
attribute [local go_sem ↓] seal_append
attribute [local go_sem] opC upC

/-- the variable O holds the map m, in memory of its own -/
def MO (W : World) (O : Nat) (m : RMap) : Prop := ∃ s1 e1 s2 e2 s3 e3, Blk W O [.slice s1 m.seen.length e1, .slice s2 m.items.length e2, .slice s3 m.gone.length e3] 31 ∧ OwnIn W 0 (.slice s1 m.seen.length e1) (.slice s2 m.items.length e2) (.slice s3 m.gone.length e3) m ∧ Bnd m
theorem MO.keep {W W' : World} {O : Nat} {m : RMap} (h : MO W O m) (hb : Below W.heap.size W W') : MO W' O m := by
  obtain ⟨s1, e1, s2, e2, s3, e3, h1, h2, h3⟩ := h
  exact ⟨s1, e1, s2, e2, s3, e3, h1.keep (hb.block _ h1.lt), h2.below hb, h3⟩
theorem MO.mb {W : World} {O : Nat} {m : RMap} (h : MO W O m) : MB W O m := by
  obtain ⟨s1, e1, s2, e2, s3, e3, h1, h2, h3⟩ := h
  exact ⟨s1, e1, s2, e2, s3, e3, h1, (h2.map h3).mono fun q _ hlt => hlt⟩
theorem laterTC {w w' : World} {T : TypeId} {a : Addr} {x : Value} (h : w.cell? a = some x) (hl : LaterT w.heap.size T w.drew w') : w'.cell? a = some x := laterC h (hl.below (Nat.le_refl _))
theorem LaterT.bel {w w' : World} {T : TypeId} (hl : LaterT w.heap.size T w.drew w') : Below w.heap.size w w' := (Below.refl w.heap.size w).drew.trans (hl.below (Nat.le_refl _))

def O6 (k j : Nat) : Nat := (([[0, 1, 2], [0, 2, 1], [1, 0, 2], [1, 2, 0], [2, 0, 1], [2, 1, 0]] : List (List Nat)).getD k []).getD j 0
theorem O6_lt (k j : Nat) (hk : k < 6) (hj : j < 3) : O6 k j < 3 := by
  have : ∀ k : Fin 6, ∀ j : Fin 3, O6 k.val j.val < 3 := by decide
  exact this ⟨k, hk⟩ ⟨j, hj⟩
theorem O6_all {m : Nat → RMap} (h : ∀ i, i < 3 → Formed (m i)) (k : Nat) (hk : k < 6) : mergeM (mergeM (m (O6 k 0)) (m (O6 k 1))) (m (O6 k 2)) = allM m := by
  obtain ⟨h1, h2, h3, h4, h5⟩ := all_order (h 0 (by omega)) (h 1 (by omega)) (h 2 (by omega))
  have hc : k = 0 ∨ k = 1 ∨ k = 2 ∨ k = 3 ∨ k = 4 ∨ k = 5 := by omega
  rcases hc with rfl | rfl | rfl | rfl | rfl | rfl
  · rfl
  · exact h1
  · exact h2
  · exact h3
  · exact h4
  · exact h5
/-- the orders in memory, ahead of the block F -/
def OrdAt (W : World) (Q F : Nat) : Prop := Q < F ∧ ∀ k, k < 6 → ∃ p, p < F ∧ W.cell? ⟨Q, k, none⟩ = some (.slice (some ⟨p, 0, none⟩) 3 3) ∧ ∀ j, j < 3 → W.cell? ⟨p, j, none⟩ = some (.int .i64 (O6 k j : Int))
theorem ord_row {W : World} {p x y z : Nat} {t : TypeId} (h : Blk W p [.int .i64 (x : Int), .int .i64 (y : Int), .int .i64 (z : Int)] t) (f : Nat → Nat) (h0 : f 0 = x) (h1 : f 1 = y) (h2 : f 2 = z) : ∀ j, j < 3 → W.cell? ⟨p, j, none⟩ = some (.int .i64 (f j : Int)) := fun j hj => by
  obtain ⟨c0, c1, c2⟩ := cell3 h
  have hc : j = 0 ∨ j = 1 ∨ j = 2 := by omega
  rcases hc with rfl | rfl | rfl
  · rw [h0]; exact c0
  · rw [h1]; exact c1
  · rw [h2]; exact c2
theorem ord_start (w1 w2 : World) (T : TypeId) (T2 : TypeId) (hw2 : w2 = ((((((w1.alloc (.cells #[.int .i64 0, .int .i64 1, .int .i64 2] T)).alloc (.cells #[.int .i64 0, .int .i64 2, .int .i64 1] T)).alloc (.cells #[.int .i64 1, .int .i64 0, .int .i64 2] T)).alloc (.cells #[.int .i64 1, .int .i64 2, .int .i64 0] T)).alloc (.cells #[.int .i64 2, .int .i64 0, .int .i64 1] T)).alloc (.cells #[.int .i64 2, .int .i64 1, .int .i64 0] T)).alloc (.cells #[.slice (some ⟨w1.heap.size, 0, none⟩) 3 3, .slice (some ⟨w1.heap.size + 1, 0, none⟩) 3 3, .slice (some ⟨w1.heap.size + 1 + 1, 0, none⟩) 3 3, .slice (some ⟨w1.heap.size + 1 + 1 + 1, 0, none⟩) 3 3, .slice (some ⟨w1.heap.size + 1 + 1 + 1 + 1, 0, none⟩) 3 3, .slice (some ⟨w1.heap.size + 1 + 1 + 1 + 1 + 1, 0, none⟩) 3 3] T2)) :
    OrdAt w2 (w1.heap.size + 1 + 1 + 1 + 1 + 1 + 1) (w1.heap.size + 1 + 1 + 1 + 1 + 1 + 1 + 1) ∧ w2.heap.size = w1.heap.size + 1 + 1 + 1 + 1 + 1 + 1 + 1 ∧ Below w1.heap.size w1 w2 := by
  obtain ⟨a1, h1⟩ : ∃ a, a = w1.alloc (.cells #[.int .i64 0, .int .i64 1, .int .i64 2] T) := ⟨_, rfl⟩
  obtain ⟨a2, h2⟩ : ∃ a, a = a1.alloc (.cells #[.int .i64 0, .int .i64 2, .int .i64 1] T) := ⟨_, rfl⟩
  obtain ⟨a3, h3⟩ : ∃ a, a = a2.alloc (.cells #[.int .i64 1, .int .i64 0, .int .i64 2] T) := ⟨_, rfl⟩
  obtain ⟨a4, h4⟩ : ∃ a, a = a3.alloc (.cells #[.int .i64 1, .int .i64 2, .int .i64 0] T) := ⟨_, rfl⟩
  obtain ⟨a5, h5⟩ : ∃ a, a = a4.alloc (.cells #[.int .i64 2, .int .i64 0, .int .i64 1] T) := ⟨_, rfl⟩
  obtain ⟨a6, h6⟩ : ∃ a, a = a5.alloc (.cells #[.int .i64 2, .int .i64 1, .int .i64 0] T) := ⟨_, rfl⟩
  rw [← h1, ← h2, ← h3, ← h4, ← h5, ← h6] at hw2
  have z1 : a1.heap.size = w1.heap.size + 1 := by rw [h1]; simp
  have z2 : a2.heap.size = w1.heap.size + 1 + 1 := by rw [h2]; simp [z1]
  have z3 : a3.heap.size = w1.heap.size + 1 + 1 + 1 := by rw [h3]; simp [z2]
  have z4 : a4.heap.size = w1.heap.size + 1 + 1 + 1 + 1 := by rw [h4]; simp [z3]
  have z5 : a5.heap.size = w1.heap.size + 1 + 1 + 1 + 1 + 1 := by rw [h5]; simp [z4]
  have z6 : a6.heap.size = w1.heap.size + 1 + 1 + 1 + 1 + 1 + 1 := by rw [h6]; simp [z5]
  have z7 : w2.heap.size = w1.heap.size + 1 + 1 + 1 + 1 + 1 + 1 + 1 := by rw [hw2]; simp [z6]
  have k2 : Below a1.heap.size a1 a2 := by rw [h2]; exact kept_alloc _ _
  have k3 : Below a2.heap.size a2 a3 := by rw [h3]; exact kept_alloc _ _
  have k4 : Below a3.heap.size a3 a4 := by rw [h4]; exact kept_alloc _ _
  have k5 : Below a4.heap.size a4 a5 := by rw [h5]; exact kept_alloc _ _
  have k6 : Below a5.heap.size a5 a6 := by rw [h6]; exact kept_alloc _ _
  have k7 : Below a6.heap.size a6 w2 := by rw [hw2]; exact kept_alloc _ _
  have l6 : Below a5.heap.size a5 w2 := k6.trans (k7.mono k6.size)
  have l5 : Below a4.heap.size a4 w2 := k5.trans (l6.mono k5.size)
  have l4 : Below a3.heap.size a3 w2 := k4.trans (l5.mono k4.size)
  have l3 : Below a2.heap.size a2 w2 := k3.trans (l4.mono k3.size)
  have l2 : Below a1.heap.size a1 w2 := k2.trans (l3.mono k2.size)
  have b1 : Blk a1 w1.heap.size [.int .i64 0, .int .i64 1, .int .i64 2] T := by rw [h1]; exact Blk.new _ #[.int .i64 0, .int .i64 1, .int .i64 2] _
  have b2 : Blk a2 a1.heap.size [.int .i64 0, .int .i64 2, .int .i64 1] T := by rw [h2]; exact Blk.new _ #[.int .i64 0, .int .i64 2, .int .i64 1] _
  have b3 : Blk a3 a2.heap.size [.int .i64 1, .int .i64 0, .int .i64 2] T := by rw [h3]; exact Blk.new _ #[.int .i64 1, .int .i64 0, .int .i64 2] _
  have b4 : Blk a4 a3.heap.size [.int .i64 1, .int .i64 2, .int .i64 0] T := by rw [h4]; exact Blk.new _ #[.int .i64 1, .int .i64 2, .int .i64 0] _
  have b5 : Blk a5 a4.heap.size [.int .i64 2, .int .i64 0, .int .i64 1] T := by rw [h5]; exact Blk.new _ #[.int .i64 2, .int .i64 0, .int .i64 1] _
  have b6 : Blk a6 a5.heap.size [.int .i64 2, .int .i64 1, .int .i64 0] T := by rw [h6]; exact Blk.new _ #[.int .i64 2, .int .i64 1, .int .i64 0] _
  have b7 : Blk w2 a6.heap.size [.slice (some ⟨w1.heap.size, 0, none⟩) 3 3, .slice (some ⟨w1.heap.size + 1, 0, none⟩) 3 3, .slice (some ⟨w1.heap.size + 1 + 1, 0, none⟩) 3 3, .slice (some ⟨w1.heap.size + 1 + 1 + 1, 0, none⟩) 3 3, .slice (some ⟨w1.heap.size + 1 + 1 + 1 + 1, 0, none⟩) 3 3, .slice (some ⟨w1.heap.size + 1 + 1 + 1 + 1 + 1, 0, none⟩) 3 3] T2 := by rw [hw2]; exact Blk.new _ _ _
  replace b1 := b1.keep (l2.block _ b1.lt)
  replace b2 := b2.keep (l3.block _ b2.lt)
  replace b3 := b3.keep (l4.block _ b3.lt)
  replace b4 := b4.keep (l5.block _ b4.lt)
  replace b5 := b5.keep (l6.block _ b5.lt)
  replace b6 := b6.keep (k7.block _ b6.lt)
  rw [z1] at b2
  rw [z2] at b3
  rw [z3] at b4
  rw [z4] at b5
  rw [z5] at b6
  rw [z6] at b7
  refine ⟨⟨by omega, fun k hk => ?_⟩, z7, ?_⟩
  · have hc : k = 0 ∨ k = 1 ∨ k = 2 ∨ k = 3 ∨ k = 4 ∨ k = 5 := by omega
    rcases hc with rfl | rfl | rfl | rfl | rfl | rfl
    · exact ⟨w1.heap.size, by omega, by simpa using b7.cell 0, ord_row (x := 0) (y := 1) (z := 2) b1 _ rfl rfl rfl⟩
    · exact ⟨w1.heap.size + 1, by omega, by simpa using b7.cell 1, ord_row (x := 0) (y := 2) (z := 1) b2 _ rfl rfl rfl⟩
    · exact ⟨w1.heap.size + 1 + 1, by omega, by simpa using b7.cell 2, ord_row (x := 1) (y := 0) (z := 2) b3 _ rfl rfl rfl⟩
    · exact ⟨w1.heap.size + 1 + 1 + 1, by omega, by simpa using b7.cell 3, ord_row (x := 1) (y := 2) (z := 0) b4 _ rfl rfl rfl⟩
    · exact ⟨w1.heap.size + 1 + 1 + 1 + 1, by omega, by simpa using b7.cell 4, ord_row (x := 2) (y := 0) (z := 1) b5 _ rfl rfl rfl⟩
    · exact ⟨w1.heap.size + 1 + 1 + 1 + 1 + 1, by omega, by simpa using b7.cell 5, ord_row (x := 2) (y := 1) (z := 0) b6 _ rfl rfl rfl⟩
  · have k1 : Below w1.heap.size w1 a1 := by rw [h1]; exact kept_alloc _ _
    exact k1.trans (l2.mono k1.size)
theorem Only.cell {F : Blks} {w w' : World} (h : Only F w w') {a : Addr} {x : Value} (hc : w.cell? a = some x) (ha : ¬ F a.block) : w'.cell? a = some x := by
  have hb := h.block a.block (cellLt hc) ha
  unfold World.cell? at *
  rw [hb]; exact hc

def ord11 : List FStep := [.steady 0, .steady 1, .steady 2, .steady 3, .steady 4, .steady 5, .steady 6, .steady 7, .steady 8, .steady 9, .steady 10, .steady 11, .steady 12, .steady 13, .steady 14, .steady 15, .steady 16, .steady 17, .move 18, .steady 19, .steady 20, .steady 21, .float 22, .fixed 23, .steady 24]
def ord12 : List FStep := [.steady 0, .steady 1, .steady 2, .steady 3, .steady 4, .steady 5, .steady 6, .steady 7, .steady 8, .steady 9, .move 10, .steady 11, .steady 12, .steady 13, .float 14, .fixed 15, .steady 16]
def ord19 : List FStep := [.steady 0, .steady 1, .steady 2, .steady 3, .steady 4, .move 5, .steady 6, .steady 7, .steady 8, .float 9, .fixed 10, .steady 11]
set_option maxRecDepth 100000 in
set_option maxHeartbeats 8000000 in
theorem RmapAgrees_walk (v : Value) (w : World) (hv : IsActs w v) (hq : Tabs w ∧ 3 ≤ w.heap.size) :
    Calls Tryz.prog 10 #[v] w fun e w' => e = .returned (.bool true) ∧ Below w.heap.size w w' := by
  obtain ⟨A, hA⟩ := acts_of hv
  have HTb := Lib.hid (show ∀ w', Below w.heap.size w w' → Tabs w' ∧ 3 ≤ w'.heap.size from fun w' hb => ⟨tabs_below hq.1 hq.2 hb, Nat.le_trans hq.2 hb.size⟩)
  obtain ⟨aa, ca, rfl, h9, -⟩ := id hA
  obtain ⟨n, hn⟩ : ∃ n, A.length = n := ⟨_, rfl⟩
  by_cases hn60 : 60 < n
  · have hI : (60 : Int) < (n : Int) := by omega
    rw [hn]
    clear hA hv hn
    go_enter Tryz.func10, Tryz.ntmps10
    go_wp2_with fail
    go_ret
    exact ⟨rfl, Below.refl _ _⟩
  have hI : ¬ (60 : Int) < (n : Int) := by omega
  have hRun := run_any w hq.1 hq.2 w.heap.size _ A hA (Nat.le_refl _) (by omega)
  obtain ⟨m, hm⟩ : ∃ m, runK A A.length = m := ⟨_, rfl⟩
  rw [hm, hn] at hRun
  rw [hn]
  have HRun := Lib.hid hRun
  clear hA hv hRun hq hn hm
  go_enter Tryz.func10, Tryz.ntmps10
  go_wp2_with fail
  refine HRun.out.mono ?_
  rintro e w1 ⟨⟨g, rfl, hm3, hgw, hth⟩, hb1⟩
  clear HRun
  have hgd := hth.good
  have hfm : ∀ i, i < 3 → Formed (m i) := fun i hi => (hgd i hi).formed
  obtain ⟨q, hqd⟩ : ∃ q, w1.heap.size = q := ⟨_, rfl⟩
  obtain ⟨w2, hw2⟩ : ∃ w2, w2 = ((((((w1.alloc (.cells #[.int .i64 0, .int .i64 1, .int .i64 2] 3)).alloc (.cells #[.int .i64 0, .int .i64 2, .int .i64 1] 3)).alloc (.cells #[.int .i64 1, .int .i64 0, .int .i64 2] 3)).alloc (.cells #[.int .i64 1, .int .i64 2, .int .i64 0] 3)).alloc (.cells #[.int .i64 2, .int .i64 0, .int .i64 1] 3)).alloc (.cells #[.int .i64 2, .int .i64 1, .int .i64 0] 3)).alloc (.cells #[.slice (some ⟨w1.heap.size, 0, none⟩) 3 3, .slice (some ⟨w1.heap.size + 1, 0, none⟩) 3 3, .slice (some ⟨w1.heap.size + 1 + 1, 0, none⟩) 3 3, .slice (some ⟨w1.heap.size + 1 + 1 + 1, 0, none⟩) 3 3, .slice (some ⟨w1.heap.size + 1 + 1 + 1 + 1, 0, none⟩) 3 3, .slice (some ⟨w1.heap.size + 1 + 1 + 1 + 1 + 1, 0, none⟩) 3 3] 22) := ⟨_, rfl⟩
  obtain ⟨w3, hw3⟩ : ∃ w3, w3 = w2.alloc (.cells #[.slice none 0 0, .slice none 0 0, .slice none 0 0] 31) := ⟨_, rfl⟩
  clear hqd
  obtain ⟨hord, hz2, hb2⟩ := ord_start w1 w2 _ _ hw2
  have hb3 : Below w2.heap.size w2 w3 := by rw [hw3]; exact kept_alloc _ _
  have hkF : Blk w3 w2.heap.size [.slice none 0 0, .slice none 0 0, .slice none 0 0] 31 := by rw [hw3]; exact Blk.new _ _ _
  rw [hz2] at hkF
  have hb13 : Below w1.heap.size w1 w3 := hb2.trans (hb3.mono (by omega))
  have Hw2 := Lib.hid hw2; have Hw3 := Lib.hid hw3; have HkF := Lib.hid hkF; have Hb13 := Lib.hid hb13; have Hb1 := Lib.hid hb1; have Hm3 := Lib.hid hm3; have Hgd := Lib.hid hgd; have Hfm := Lib.hid hfm; have Hth := Lib.hid hth
  have hord3 : OrdAt w3 (w1.heap.size + 1 + 1 + 1 + 1 + 1 + 1) (w1.heap.size + 1 + 1 + 1 + 1 + 1 + 1 + 1) := by
    refine ⟨hord.1, fun k hk => ?_⟩
    obtain ⟨p, hp, h1, h2⟩ := hord.2 k hk
    exact ⟨p, hp, by rw [hb3.cell (p := ⟨_, k, none⟩) (cellLt h1)]; exact h1, fun j hj => by rw [hb3.cell (p := ⟨p, j, none⟩) (cellLt (h2 j hj))]; exact h2 j hj⟩
  clear hord hw2 hw3 hkF hb13 hb1 hm3 hgd hfm hth
  go_wp2_with fail
  rw [← Hw2.out, ← Hw3.out]
  obtain ⟨Q, hQ⟩ : ∃ Q, w1.heap.size + 1 + 1 + 1 + 1 + 1 + 1 = Q := ⟨_, rfl⟩
  obtain ⟨F, hF⟩ : ∃ F, Q + 1 = F := ⟨_, rfl⟩
  rw [hQ, hF] at hord3 HkF hz2
  rw [hQ, hF]
  have HF := Lib.hid (show w1.heap.size < F by omega)
  have Hord := Lib.hid hord3; have Hz2 := Lib.hid hz2; have Hgw := Lib.hid hgw
  clear hQ hF hord3 hz2 hb2 hb3 Hw2 Hw3 hgw
  go_loopw [7] (fun i wr => ∃ k : Nat, k ≤ 6 ∧ i = .int .i64 (k : Int) ∧ Only (fun b => b = F) w3 wr ∧ ((k = 0 ∧ Blk wr F [.slice none 0 0, .slice none 0 0, .slice none 0 0] 31) ∨ (0 < k ∧ MO wr F (allM m)))) (fun i _ => 6 - (intOf i).toNat)
  case atStart => exact ⟨0, by omega, rfl, Only.refl _ _, .inl ⟨rfl, HkF.out⟩⟩
  case round =>
    obtain ⟨k, hk, rfl, hon, hfirst⟩ := hrel
    have hb1r : Below w1.heap.size w1 wr := Hb13.out.trans (hon.below (fun b hb => by have := HF.out; show w1.heap.size ≤ b; omega) Hb13.out.size)
    have hm3r := Hm3.out.keep hb1r
    have Hon := Lib.hid hon; have Hfirst := Lib.hid hfirst; have Hm3r := Lib.hid hm3r
    have HWr := Lib.hid (show Below w.heap.size w wr from Hb1.out.trans (hb1r.mono Hb1.out.size))
    clear hon hfirst hm3r hb1r HkF
    by_cases hk6 : k < 6
    · have hkI : (k : Int) < 6 := by omega
      obtain ⟨hQF, hor⟩ := Hord.out
      obtain ⟨p, hp, oc, oj⟩ := hor k hk6
      replace oc := Hon.out.cell oc (by show ¬ Q = F; omega)
      have oj0 := Hon.out.cell (oj 0 (by omega)) (by show ¬ p = F; omega)
      have oj1 := Hon.out.cell (oj 1 (by omega)) (by show ¬ p = F; omega)
      have oj2 := Hon.out.cell (oj 2 (by omega)) (by show ¬ p = F; omega)
      have hall := O6_all Hfm.out k hk6
      obtain ⟨o0, ho0⟩ : ∃ o, O6 k 0 = o := ⟨_, rfl⟩
      obtain ⟨o1, ho1⟩ : ∃ o, O6 k 1 = o := ⟨_, rfl⟩
      obtain ⟨o2, ho2⟩ : ∃ o, O6 k 2 = o := ⟨_, rfl⟩
      have h03 : o0 < 3 := by rw [← ho0]; exact O6_lt k 0 hk6 (by omega)
      have h13 : o1 < 3 := by rw [← ho1]; exact O6_lt k 1 hk6 (by omega)
      have h23 : o2 < 3 := by rw [← ho2]; exact O6_lt k 2 hk6 (by omega)
      rw [ho0] at oj0 hall
      rw [ho1] at oj1 hall
      rw [ho2] at oj2 hall
      have h03I : (o0 : Int) < 3 := by omega
      have h13I : (o1 : Int) < 3 := by omega
      have h23I : (o2 : Int) < 3 := by omega
      obtain ⟨s1A, e1A, s2A, e2A, s3A, e3A, z0, z1, z2, hMA⟩ := Hm3r.out.get o0 h03
      obtain ⟨s1B, e1B, s2B, e2B, s3B, e3B, v0, v1, v2, hMB⟩ := Hm3r.out.get o1 h13
      have pz0 : ∀ w', LaterT wr.heap.size 31 wr.drew w' → w'.cell? _ = _ := fun w' hh => laterTC z0 hh
      have pz1 : ∀ w', LaterT wr.heap.size 31 wr.drew w' → w'.cell? _ = _ := fun w' hh => laterTC z1 hh
      have pz2 : ∀ w', LaterT wr.heap.size 31 wr.drew w' → w'.cell? _ = _ := fun w' hh => laterTC z2 hh
      have pv0 : ∀ w', LaterT wr.heap.size 31 wr.drew w' → w'.cell? _ = _ := fun w' hh => laterTC v0 hh
      have pv1 : ∀ w', LaterT wr.heap.size 31 wr.drew w' → w'.cell? _ = _ := fun w' hh => laterTC v1 hh
      have pv2 : ∀ w', LaterT wr.heap.size 31 wr.drew w' → w'.cell? _ = _ := fun w' hh => laterTC v2 hh
      have po : ∀ w', LaterT wr.heap.size 31 wr.drew w' → w'.cell? _ = _ := fun w' hh => laterTC oc hh
      have po0 : ∀ w', LaterT wr.heap.size 31 wr.drew w' → w'.cell? _ = _ := fun w' hh => laterTC oj0 hh
      have po1 : ∀ w', LaterT wr.heap.size 31 wr.drew w' → w'.cell? _ = _ := fun w' hh => laterTC oj1 hh
      have hg0 := Hgd.out o0 h03
      have hg1 := Hgd.out o1 h13
      have hg2 := Hgd.out o2 h23
      have heq1 := mergeR_ok hg0 hg1 (by decide)
      have hg01 := hg0.merge hg1
      have heq2 := mergeR_ok hg01 hg2 (by decide)
      rw [hall] at heq2
      have HMA := Lib.hid hMA; have HMB := Lib.hid hMB
      have Hk0 := Lib.hid (valid_keys (hg0.valid (by decide))); have Hk1 := Lib.hid (valid_keys (hg1.valid (by decide))); have Hk2 := Lib.hid (valid_keys (hg2.valid (by decide))); have Hk01 := Lib.hid (valid_keys (hg01.valid (by decide)))
      have Heq1 := Lib.hid heq1; have Heq2 := Lib.hid heq2; have Hoc := Lib.hid oc; have Hoj2 := Lib.hid oj2
      obtain ⟨m01, hm01⟩ : ∃ m01, mergeM (m o0) (m o1) = m01 := ⟨_, rfl⟩
      rw [hm01] at Heq1 Heq2 Hk01
      clear hor oc oj oj0 oj1 oj2 hall ho0 ho1 ho2 z0 z1 z2 v0 v1 v2 hMA hMB hg0 hg1 hg2 hg01 heq1 heq2 hm01
      go_wp2_with fail
      refine wp_region_fl (LaterT wr.heap.size 31) (FreshT wr.heap.size 31 3) [22] ord11 60 (by kernel_rfl) (by kernel_rfl) (laterT_refl _ _) (laterT_trans _ _) (floats_of #[.slice none 0 0, .slice none 0 0, .slice none 0 0] rfl (Nat.le_refl _) (fun j hj => ?_) (fun i j hi hj hne => ?_)) ?_
      · obtain rfl : j = 22 := by simpa using hj
        exact ⟨_, rfl, rfl, fun a W => by go_simp⟩
      · simp at hi hj
        omega
      unfold ord11
      repeat (refine canF_yes (v := ?_) rfl (wanted_none rfl) (fun w' hC => ?_) (fun K hK => ?_); rotate_left; (focus (go_simp; (try simp (disch := omega) only [IntWalk.i64_in]); first | done | exact rfl)); go_simp; (try simp (disch := omega) only [IntWalk.i64_in]); refine hK _ ?_; clear hK K)
      refine canF_go rfl rfl (fun Wa hWa KK hK => ?_)
      go_simp
      have hba : Below wr.heap.size wr Wa := hWa.bel
      have hwa : Below w.heap.size w Wa := HWr.out.trans (hba.mono HWr.out.size)
      have hU := pmerge_any Wa (HTb.out _ hwa).1 (HTb.out _ hwa).2 _ _ (.agg #[.slice s1A (m o0).seen.length e1A, .slice s2A (m o0).items.length e2A, .slice s3A (m o0).gone.length e3A]) (.agg #[.slice s1B (m o1).seen.length e1B, .slice s2B (m o1).items.length e2B, .slice s3B (m o1).gone.length e3B]) (m o0) (m o1) ⟨_, _, _, rfl, HMA.out.keep (w' := Wa) fun q hq _ => hba.block q hq.1⟩ ⟨_, _, _, rfl, HMB.out.keep (w' := Wa) fun q hq _ => hba.block q hq.1⟩ Hk0.out.1 Hk0.out.2 Hk1.out.1 Hk1.out.2
      rw [Heq1.out] at hU
      refine hU.mono ?_
      rintro e w7 ⟨⟨r1, rfl, ho, hbd⟩, hb7⟩
      refine ⟨_, rfl, LaterT.of_later hb7, hK _ _ ?_⟩
      clear hK KK hU pz0 pz1 pz2 pv0 pv1 pv2 po po0 po1
      go_simp
      obtain ⟨t1, t2, t3, rfl, ho⟩ := ho
      dsimp only at ho hbd
      obtain ⟨n1, m1, rfl⟩ := own_shape ho.seen
      obtain ⟨n2, m2, rfl⟩ := own_shape ho.items
      obtain ⟨n3, m3, rfl⟩ := own_shape ho.gone
      have hb07 : Below wr.heap.size wr w7 := hba.trans (hb7.mono hba.size)
      have Hb07 := Lib.hid hb07; have Ho := Lib.hid ho; have Hbd := Lib.hid hbd
      clear hb07 ho hbd hba hwa hb7 hWa
      repeat (refine canF_yes (v := ?_) rfl (wanted_none rfl) (fun w' hC => ?_) (fun K hK => ?_); rotate_left; (focus (go_simp; (try simp (disch := omega) only [IntWalk.i64_in]); first | done | exact rfl)); go_simp; (try simp (disch := omega) only [IntWalk.i64_in]); refine hK _ ?_; clear hK K)
      refine canF_float rfl (fun vO Wd hWd hZ hU KK hK => ?_)
      obtain ⟨Oa, LO, rfl, hO1, hO2, hO3⟩ := hZ
      refine hK _ _ ?_
      clear hK KK hU
      go_simp
      obtain ⟨x0, x1, x2, rfl⟩ : ∃ x0 x1 x2, LO = [x0, x1, x2] := by
        match LO, hO3 with
        | [x0, x1, x2], _ => exact ⟨x0, x1, x2, rfl⟩
      have hbd' : Below wr.heap.size wr Wd := Hb07.out.trans (hWd.below Hb07.out.size)
      obtain ⟨w8, hw8, hblk8, hb8⟩ := fin3 hO2 hbd' hO1 (.slice n1 m01.seen.length m1) (.slice n2 m01.items.length m2) (.slice n3 m01.gone.length m3)
      have hl8 : LaterT wr.heap.size 31 Wd w8 := by
        rw [hw8]
        exact laterT_trans _ _ _ _ _ (laterT_trans _ _ _ _ _ (LaterT.set hO2 hO1 0 _) (LaterT.set (hO2.set 0 _) hO1 1 _)) (LaterT.set ((hO2.set 0 _).set 1 _) hO1 2 _)
      have hmo : MO w8 Oa m01 := ⟨_, _, _, _, _, _, hblk8, ((Ho.out.laterT hWd).laterT hl8).mono (Nat.zero_le _), Hbd.out⟩
      obtain ⟨y0, y1, y2⟩ := cell3 hO2
      have z0 := hO2.free 0
      have z1 := hO2.free 1
      have z2 := hO2.free 2
      have HMOOa := Lib.hid hmo; have HBw8 := Lib.hid hb8; have Hl8 := Lib.hid hl8; have Hw8 := Lib.hid hw8; have HGOa := Lib.hid hO1
      clear hmo hb8 hl8 hw8 hblk8 hbd' hWd hO2 hO3 Ho Hbd Hb07
      refine canF_fixed rfl rfl (fun KK hK => ?_)
      go_simp
      rw [← Hw8.out]
      refine ⟨Hl8.out, hK _ _ ?_⟩
      clear hK KK y0 y1 y2 z0 z1 z2 Hl8 Hw8 hO1
      go_simp
      repeat (refine canF_yes (v := ?_) rfl (wanted_none rfl) (fun w' hC => ?_) (fun K hK => ?_); rotate_left; (focus (go_simp; (try simp (disch := omega) only [IntWalk.i64_in]); first | done | exact rfl)); go_simp; (try simp (disch := omega) only [IntWalk.i64_in]); refine hK _ ?_; clear hK K)
      refine canF_nil ?_
      have HW8 := Lib.hid (show Below w.heap.size w w8 from HWr.out.trans (HBw8.out.mono HWr.out.size))
      have hm38 := Hm3r.out.keep HBw8.out
      obtain ⟨s1B, e1B, s2B, e2B, s3B, e3B, v0, v1, v2, hMB⟩ := hm38.get o2 h23
      obtain ⟨s1A, e1A, s2A, e2A, s3A, e3A, hBA, hMA⟩ := HMOOa.out.mb
      obtain ⟨z0, z1, z2⟩ := cell3 hBA
      have oc8 := (HBw8.out.cell (p := ⟨Q, k, none⟩) (cellLt Hoc.out)).trans Hoc.out
      have oj8 := (HBw8.out.cell (p := ⟨p, 2, none⟩) (cellLt Hoj2.out)).trans Hoj2.out
      have pz0 : ∀ w', LaterT w8.heap.size 31 w8.drew w' → w'.cell? _ = _ := fun w' hh => laterTC z0 hh
      have pz1 : ∀ w', LaterT w8.heap.size 31 w8.drew w' → w'.cell? _ = _ := fun w' hh => laterTC z1 hh
      have pz2 : ∀ w', LaterT w8.heap.size 31 w8.drew w' → w'.cell? _ = _ := fun w' hh => laterTC z2 hh
      have pv0 : ∀ w', LaterT w8.heap.size 31 w8.drew w' → w'.cell? _ = _ := fun w' hh => laterTC v0 hh
      have pv1 : ∀ w', LaterT w8.heap.size 31 w8.drew w' → w'.cell? _ = _ := fun w' hh => laterTC v1 hh
      have pv2 : ∀ w', LaterT w8.heap.size 31 w8.drew w' → w'.cell? _ = _ := fun w' hh => laterTC v2 hh
      have po : ∀ w', LaterT w8.heap.size 31 w8.drew w' → w'.cell? _ = _ := fun w' hh => laterTC oc8 hh
      have po0 : ∀ w', LaterT w8.heap.size 31 w8.drew w' → w'.cell? _ = _ := fun w' hh => laterTC oj8 hh
      have HMA := Lib.hid hMA; have HMB := Lib.hid hMB
      clear hm38 hMB hBA hMA z0 z1 z2 v0 v1 v2 oc8 oj8
      go_wp2_with fail
      refine wp_region_fl (LaterT w8.heap.size 31) (FreshT w8.heap.size 31 3) [14] ord12 60 (by kernel_rfl) (by kernel_rfl) (laterT_refl _ _) (laterT_trans _ _) (floats_of #[.slice none 0 0, .slice none 0 0, .slice none 0 0] rfl (Nat.le_refl _) (fun j hj => ?_) (fun i j hi hj hne => ?_)) ?_
      · obtain rfl : j = 14 := by simpa using hj
        exact ⟨_, rfl, rfl, fun a W => by go_simp⟩
      · simp at hi hj
        omega
      unfold ord12
      repeat (refine canF_yes (v := ?_) rfl (wanted_none rfl) (fun w' hC => ?_) (fun K hK => ?_); rotate_left; (focus (go_simp; (try simp (disch := omega) only [IntWalk.i64_in]); first | done | exact rfl)); go_simp; (try simp (disch := omega) only [IntWalk.i64_in]); refine hK _ ?_; clear hK K)
      refine canF_go rfl rfl (fun Wa hWa KK hK => ?_)
      go_simp
      have hba : Below w8.heap.size w8 Wa := hWa.bel
      have hwa : Below w.heap.size w Wa := HW8.out.trans (hba.mono HW8.out.size)
      have hU := pmerge_any Wa (HTb.out _ hwa).1 (HTb.out _ hwa).2 _ _ (.agg #[.slice s1A m01.seen.length e1A, .slice s2A m01.items.length e2A, .slice s3A m01.gone.length e3A]) (.agg #[.slice s1B (m o2).seen.length e1B, .slice s2B (m o2).items.length e2B, .slice s3B (m o2).gone.length e3B]) m01 (m o2) ⟨_, _, _, rfl, HMA.out.keep (w' := Wa) fun q hq _ => hba.block q hq⟩ ⟨_, _, _, rfl, HMB.out.keep (w' := Wa) fun q hq _ => hba.block q hq.1⟩ Hk01.out.1 Hk01.out.2 Hk2.out.1 Hk2.out.2
      rw [Heq2.out] at hU
      refine hU.mono ?_
      rintro e w7 ⟨⟨r1, rfl, ho, hbd⟩, hb7⟩
      refine ⟨_, rfl, LaterT.of_later hb7, hK _ _ ?_⟩
      clear hK KK hU pz0 pz1 pz2 pv0 pv1 pv2 po po0
      go_simp
      obtain ⟨t1, t2, t3, rfl, ho⟩ := ho
      dsimp only at ho hbd
      obtain ⟨n1, m1, rfl⟩ := own_shape ho.seen
      obtain ⟨n2, m2, rfl⟩ := own_shape ho.items
      obtain ⟨n3, m3, rfl⟩ := own_shape ho.gone
      have hb07 : Below w8.heap.size w8 w7 := hba.trans (hb7.mono hba.size)
      have Hb07 := Lib.hid hb07; have Ho := Lib.hid ho; have Hbd := Lib.hid hbd
      clear hb07 ho hbd hba hwa hb7 hWa
      repeat (refine canF_yes (v := ?_) rfl (wanted_none rfl) (fun w' hC => ?_) (fun K hK => ?_); rotate_left; (focus (go_simp; (try simp (disch := omega) only [IntWalk.i64_in]); first | done | exact rfl)); go_simp; (try simp (disch := omega) only [IntWalk.i64_in]); refine hK _ ?_; clear hK K)
      refine canF_float rfl (fun vO Wd hWd hZ hU KK hK => ?_)
      obtain ⟨Ob, LO, rfl, hO1, hO2, hO3⟩ := hZ
      refine hK _ _ ?_
      clear hK KK hU
      go_simp
      obtain ⟨x0, x1, x2, rfl⟩ : ∃ x0 x1 x2, LO = [x0, x1, x2] := by
        match LO, hO3 with
        | [x0, x1, x2], _ => exact ⟨x0, x1, x2, rfl⟩
      have hbd' : Below w8.heap.size w8 Wd := Hb07.out.trans (hWd.below Hb07.out.size)
      obtain ⟨w9, hw8, hblk8, hb8⟩ := fin3 hO2 hbd' hO1 (.slice n1 (allM m).seen.length m1) (.slice n2 (allM m).items.length m2) (.slice n3 (allM m).gone.length m3)
      have hl8 : LaterT w8.heap.size 31 Wd w9 := by
        rw [hw8]
        exact laterT_trans _ _ _ _ _ (laterT_trans _ _ _ _ _ (LaterT.set hO2 hO1 0 _) (LaterT.set (hO2.set 0 _) hO1 1 _)) (LaterT.set ((hO2.set 0 _).set 1 _) hO1 2 _)
      have hmo : MO w9 Ob (allM m) := ⟨_, _, _, _, _, _, hblk8, ((Ho.out.laterT hWd).laterT hl8).mono (Nat.zero_le _), Hbd.out⟩
      obtain ⟨y0, y1, y2⟩ := cell3 hO2
      have z0 := hO2.free 0
      have z1 := hO2.free 1
      have z2 := hO2.free 2
      have HMOOb := Lib.hid hmo; have HBw9 := Lib.hid hb8; have Hl8 := Lib.hid hl8; have Hw8 := Lib.hid hw8; have HGOb := Lib.hid hO1
      clear hmo hb8 hl8 hw8 hblk8 hbd' hWd hO2 hO3 Ho Hbd Hb07
      refine canF_fixed rfl rfl (fun KK hK => ?_)
      go_simp
      rw [← Hw8.out]
      refine ⟨Hl8.out, hK _ _ ?_⟩
      clear hK KK y0 y1 y2 z0 z1 z2 Hl8 Hw8 hO1
      go_simp
      repeat (refine canF_yes (v := ?_) rfl (wanted_none rfl) (fun w' hC => ?_) (fun K hK => ?_); rotate_left; (focus (go_simp; (try simp (disch := omega) only [IntWalk.i64_in]); first | done | exact rfl)); go_simp; (try simp (disch := omega) only [IntWalk.i64_in]); refine hK _ ?_; clear hK K)
      refine canF_nil ?_
      have HW9 := Lib.hid (show Below w.heap.size w w9 from HW8.out.trans (HBw9.out.mono HW8.out.size))
      have hbr9 : Below wr.heap.size wr w9 := HBw8.out.trans (HBw9.out.mono HBw8.out.size)
      have hon9 : Only (fun b => b = F) w3 w9 := Hon.out.trans (Only.of_below (F := fun b => b = F) hbr9) (fun i h => .inl h)
      have Hon9 := Lib.hid hon9; have Hbr9 := Lib.hid hbr9
      clear hon9 hbr9
      rcases Hfirst.out with ⟨rfl, hbF⟩ | ⟨hk0, hmo⟩
      · obtain ⟨s1X, e1X, s2X, e2X, s3X, e3X, hBX, hoX, hbX⟩ := HMOOb.out
        obtain ⟨c0X, c1X, c2X⟩ := cell3 hBX
        replace hbF := hbF.keep (Hbr9.out.block _ hbF.lt)
        obtain ⟨w11, hw11⟩ : ∃ w11, w11 = ((w9.setCell ⟨F, 0, none⟩ (.slice s1X (allM m).seen.length e1X)).setCell ⟨F, 1, none⟩ (.slice s2X (allM m).items.length e2X)).setCell ⟨F, 2, none⟩ (.slice s3X (allM m).gone.length e3X) := ⟨_, rfl⟩
        have hmo11 : MO w11 F (allM m) := ⟨s1X, e1X, s2X, e2X, s3X, e3X, by rw [hw11]; exact ((hbF.set 0 _).set 1 _).set 2 _, by rw [hw11]; exact ((hoX.setCell hbF _).setCell (hbF.set 0 _) _).setCell ((hbF.set 0 _).set 1 _) _, hbX⟩
        have hon11 : Only (fun b => b = F) w3 w11 := by
          rw [hw11]
          exact ((Hon9.out.setCell (.inl rfl) _).setCell (.inl rfl) _).setCell (.inl rfl) _
        have fF0 := hbF.free 0
        have fF1 := hbF.free 1
        have fF2 := hbF.free 2
        obtain ⟨yF0, yF1, yF2⟩ := cell3 hbF
        have Hmo11 := Lib.hid hmo11; have Hon11 := Lib.hid hon11; have Hw11 := Lib.hid hw11
        clear hmo11 hon11 hw11 hbF hoX hbX hBX
        go_wp2_with fail
        rw [← Hw11.out]
        clear fF0 fF1 fF2 yF0 yF1 yF2 c0X c1X c2X
        go_roundw
        case rel => exact ⟨0 + 1, by omega, by first | rfl | go_num, Hon11.out, .inr ⟨by omega, Hmo11.out⟩⟩
        case measure => first | (simp [intOf]; done) | (simp [intOf]; omega)
      · have hk0I : (0 : Int) < (k : Int) := by omega
        have hmF := hmo.keep Hbr9.out
        obtain ⟨s1Y, e1Y, s2Y, e2Y, s3Y, e3Y, hBY, hMY⟩ := hmF.mb
        obtain ⟨c0Y, c1Y, c2Y⟩ := cell3 hBY
        obtain ⟨s1X, e1X, s2X, e2X, s3X, e3X, hBX, hMX⟩ := HMOOb.out.mb
        obtain ⟨c0X, c1X, c2X⟩ := cell3 hBX
        have hsm : SmallM (allM m) := by
          have := mergeR_small m01 (m o2)
          rw [Heq2.out] at this
          exact this
        have HE := Lib.hid (equal_any w9 _ _ (.agg #[.slice s1X (allM m).seen.length e1X, .slice s2X (allM m).items.length e2X, .slice s3X (allM m).gone.length e3X]) (.agg #[.slice s1Y (allM m).seen.length e1Y, .slice s2Y (allM m).items.length e2Y, .slice s3Y (allM m).gone.length e3Y]) (allM m) (allM m) ⟨_, _, _, rfl, hMX⟩ ⟨_, _, _, rfl, hMY⟩ hsm.1 hsm.2.1 hsm.2.2 hsm.1 hsm.2.1 hsm.2.2)
        have HmF := Lib.hid hmF
        clear hsm hBX hMX hBY hMY hmF hmo
        go_wp2_with fail
        refine HE.out.mono ?_
        rintro e w10 ⟨r, rfl, hr, hb10⟩
        obtain rfl : r = true := hr.2 rfl
        clear HE hr c0X c1X c2X c0Y c1Y c2Y
        obtain ⟨s1X, e1X, s2X, e2X, s3X, e3X, hBX, hoX, hbX⟩ := HMOOb.out.keep hb10
        obtain ⟨c0X, c1X, c2X⟩ := cell3 hBX
        obtain ⟨_, _, _, _, _, _, hbF, -, -⟩ := HmF.out.keep hb10
        have hon10 : Only (fun b => b = F) w3 w10 := Hon9.out.trans (Only.of_below (F := fun b => b = F) hb10) (fun i h => .inl h)
        obtain ⟨w11, hw11⟩ : ∃ w11, w11 = ((w10.setCell ⟨F, 0, none⟩ (.slice s1X (allM m).seen.length e1X)).setCell ⟨F, 1, none⟩ (.slice s2X (allM m).items.length e2X)).setCell ⟨F, 2, none⟩ (.slice s3X (allM m).gone.length e3X) := ⟨_, rfl⟩
        have hmo11 : MO w11 F (allM m) := ⟨s1X, e1X, s2X, e2X, s3X, e3X, by rw [hw11]; exact ((hbF.set 0 _).set 1 _).set 2 _, by rw [hw11]; exact ((hoX.setCell hbF _).setCell (hbF.set 0 _) _).setCell ((hbF.set 0 _).set 1 _) _, hbX⟩
        have hon11 : Only (fun b => b = F) w3 w11 := by
          rw [hw11]
          exact ((hon10.setCell (.inl rfl) _).setCell (.inl rfl) _).setCell (.inl rfl) _
        have fF0 := hbF.free 0
        have fF1 := hbF.free 1
        have fF2 := hbF.free 2
        obtain ⟨yF0, yF1, yF2⟩ := cell3 hbF
        have Hmo11 := Lib.hid hmo11; have Hon11 := Lib.hid hon11; have Hw11 := Lib.hid hw11
        clear hmo11 hon11 hw11 hbF hoX hbX hBX
        go_wp2_with fail
        rw [← Hw11.out]
        clear fF0 fF1 fF2 yF0 yF1 yF2 c0X c1X c2X
        go_roundw
        case rel => exact ⟨k + 1, by omega, by first | rfl | go_num, Hon11.out, .inr ⟨by omega, Hmo11.out⟩⟩
        case measure => first | (simp [intOf]; done) | (simp [intOf]; omega)
    · have hkI : ¬ (k : Int) < 6 := by omega
      have hmoF : MO wr F (allM m) := by
        rcases Hfirst.out with ⟨h0, -⟩ | ⟨-, h⟩
        · omega
        · exact h
      have HF0 := Lib.hid hmoF
      have HWL := HWr
      obtain ⟨wL, hwL⟩ : ∃ wL, wL = wr := ⟨_, rfl⟩
      have hL0 : Below wL.heap.size wL wr := by rw [hwL]; exact Below.refl _ _
      rw [← hwL] at HF0 HWL Hm3r
      have HL0 := Lib.hid hL0
      have hall := all_ge (Hfm.out 0 (by omega)) (Hfm.out 1 (by omega)) (Hfm.out 2 (by omega))
      have hallF : Good K5 60 (allM m) := ((Hgd.out 0 (by omega)).merge (Hgd.out 1 (by omega))).merge (Hgd.out 2 (by omega))
      have hge : ∀ i, i < 3 → mergeM (allM m) (m i) = allM m := fun i hi => by
        have hc : i = 0 ∨ i = 1 ∨ i = 2 := by omega
        rcases hc with rfl | rfl | rfl
        · exact hall.1
        · exact hall.2.1
        · exact hall.2.2
      have hsn : ∀ i, i < 3 → (allM m).seen.getD i 0 = (m i).seen.getD i 0 := fun i hi => by
        unfold allM
        have f0 := Hfm.out 0 (by omega); have f1 := Hfm.out 1 (by omega); have f2 := Hfm.out 2 (by omega)
        rw [merge_seen _ _ (merge_formed _ _ f0 f1) f2, merge_seen _ _ f0 f1]
        have o0 := Hth.out.own i 0 hi (by omega); have o1 := Hth.out.own i 1 hi (by omega); have o2 := Hth.out.own i 2 hi (by omega)
        have hc : i = 0 ∨ i = 1 ∨ i = 2 := by omega
        rcases hc with rfl | rfl | rfl <;> omega
      have HallF := Lib.hid hallF; have Hge := Lib.hid hge; have Hsn := Lib.hid hsn
      have Hsm := Lib.hid (show SmallM (allM m) from small_valid (hallF.valid (by decide)))
      clear hwL hL0 hall hallF hge hsn hmoF Hfirst Hon HWr
      go_wp2_with fail
      go_loopw [12] (fun i wr => ∃ k : Nat, k ≤ 3 ∧ i = .int .i64 (k : Int) ∧ Below wL.heap.size wL wr) (fun i _ => 3 - (intOf i).toNat)
      case atStart => exact ⟨0, by omega, rfl, HL0.out⟩
      case round =>
        obtain ⟨i, hi, rfl, hbL⟩ := hrel
        have HbL := Lib.hid hbL
        have HWr := Lib.hid (show Below w.heap.size w wr from HWL.out.trans (hbL.mono HWL.out.size))
        by_cases hi3 : i < 3
        · have hiI : (i : Int) < 3 := by omega
          have hm3r := Hm3r.out.keep hbL
          obtain ⟨s1B, e1B, s2B, e2B, s3B, e3B, v0, v1, v2, hMB⟩ := hm3r.get i hi3
          obtain ⟨s1A, e1A, s2A, e2A, s3A, e3A, hBA, hMA⟩ := (HF0.out.keep hbL).mb
          obtain ⟨z0, z1, z2⟩ := cell3 hBA
          have pz0 : ∀ w', LaterT wr.heap.size 31 wr.drew w' → w'.cell? _ = _ := fun w' hh => laterTC z0 hh
          have pz1 : ∀ w', LaterT wr.heap.size 31 wr.drew w' → w'.cell? _ = _ := fun w' hh => laterTC z1 hh
          have pz2 : ∀ w', LaterT wr.heap.size 31 wr.drew w' → w'.cell? _ = _ := fun w' hh => laterTC z2 hh
          have pv0 : ∀ w', LaterT wr.heap.size 31 wr.drew w' → w'.cell? _ = _ := fun w' hh => laterTC v0 hh
          have pv1 : ∀ w', LaterT wr.heap.size 31 wr.drew w' → w'.cell? _ = _ := fun w' hh => laterTC v1 hh
          have pv2 : ∀ w', LaterT wr.heap.size 31 wr.drew w' → w'.cell? _ = _ := fun w' hh => laterTC v2 hh
          have hgi := Hgd.out i hi3
          have heq := mergeR_ok HallF.out hgi (by decide)
          rw [Hge.out i hi3] at heq
          have Heq := Lib.hid heq
          have Hka := Lib.hid (valid_keys (HallF.out.valid (by decide))); have Hki := Lib.hid (valid_keys (hgi.valid (by decide)))
          have HMA := Lib.hid hMA; have HMB := Lib.hid hMB
          have h8a := HallF.out.formed.len
          have h8i := hgi.formed.len
          have H8a := Lib.hid h8a; have H8i := Lib.hid h8i
          clear hm3r z0 z1 z2 v0 v1 v2 hMA hMB hBA hgi heq hbL h8a h8i
          go_wp2_with fail
          refine wp_region_fl (LaterT wr.heap.size 31) (FreshT wr.heap.size 31 3) [9] ord19 60 (by kernel_rfl) (by kernel_rfl) (laterT_refl _ _) (laterT_trans _ _) (floats_of #[.slice none 0 0, .slice none 0 0, .slice none 0 0] rfl (Nat.le_refl _) (fun j hj => ?_) (fun i j hi hj hne => ?_)) ?_
          · obtain rfl : j = 9 := by simpa using hj
            exact ⟨_, rfl, rfl, fun a W => by go_simp⟩
          · simp at hi hj
            omega
          unfold ord19
          repeat (refine canF_yes (v := ?_) rfl (wanted_none rfl) (fun w' hC => ?_) (fun K hK => ?_); rotate_left; (focus (go_simp; (try simp (disch := omega) only [IntWalk.i64_in]); first | done | exact rfl)); go_simp; (try simp (disch := omega) only [IntWalk.i64_in]); refine hK _ ?_; clear hK K)
          refine canF_go rfl rfl (fun Wa hWa KK hK => ?_)
          go_simp
          have hba : Below wr.heap.size wr Wa := hWa.bel
          have hwa : Below w.heap.size w Wa := HWr.out.trans (hba.mono HWr.out.size)
          have hU := pmerge_any Wa (HTb.out _ hwa).1 (HTb.out _ hwa).2 _ _ (.agg #[.slice s1A (allM m).seen.length e1A, .slice s2A (allM m).items.length e2A, .slice s3A (allM m).gone.length e3A]) (.agg #[.slice s1B (m i).seen.length e1B, .slice s2B (m i).items.length e2B, .slice s3B (m i).gone.length e3B]) (allM m) (m i) ⟨_, _, _, rfl, HMA.out.keep (w' := Wa) fun q hq _ => hba.block q hq⟩ ⟨_, _, _, rfl, HMB.out.keep (w' := Wa) fun q hq _ => hba.block q hq.1⟩ Hka.out.1 Hka.out.2 Hki.out.1 Hki.out.2
          rw [Heq.out] at hU
          refine hU.mono ?_
          rintro e w7 ⟨⟨r1, rfl, ho, hbd⟩, hb7⟩
          refine ⟨_, rfl, LaterT.of_later hb7, hK _ _ ?_⟩
          clear hK KK hU pz0 pz1 pz2 pv0 pv1 pv2
          go_simp
          obtain ⟨t1, t2, t3, rfl, ho⟩ := ho
          dsimp only at ho hbd
          obtain ⟨n1, m1, rfl⟩ := own_shape ho.seen
          obtain ⟨n2, m2, rfl⟩ := own_shape ho.items
          obtain ⟨n3, m3, rfl⟩ := own_shape ho.gone
          have hb07 : Below wr.heap.size wr w7 := hba.trans (hb7.mono hba.size)
          have Hb07 := Lib.hid hb07; have Ho := Lib.hid ho; have Hbd := Lib.hid hbd
          clear hb07 ho hbd hba hwa hb7 hWa
          repeat (refine canF_yes (v := ?_) rfl (wanted_none rfl) (fun w' hC => ?_) (fun K hK => ?_); rotate_left; (focus (go_simp; (try simp (disch := omega) only [IntWalk.i64_in]); first | done | exact rfl)); go_simp; (try simp (disch := omega) only [IntWalk.i64_in]); refine hK _ ?_; clear hK K)
          refine canF_float rfl (fun vO Wd hWd hZ hU KK hK => ?_)
          obtain ⟨Oa, LO, rfl, hO1, hO2, hO3⟩ := hZ
          refine hK _ _ ?_
          clear hK KK hU
          go_simp
          obtain ⟨x0, x1, x2, rfl⟩ : ∃ x0 x1 x2, LO = [x0, x1, x2] := by
            match LO, hO3 with
            | [x0, x1, x2], _ => exact ⟨x0, x1, x2, rfl⟩
          have hbd' : Below wr.heap.size wr Wd := Hb07.out.trans (hWd.below Hb07.out.size)
          obtain ⟨w8, hw8, hblk8, hb8⟩ := fin3 hO2 hbd' hO1 (.slice n1 (allM m).seen.length m1) (.slice n2 (allM m).items.length m2) (.slice n3 (allM m).gone.length m3)
          have hl8 : LaterT wr.heap.size 31 Wd w8 := by
            rw [hw8]
            exact laterT_trans _ _ _ _ _ (laterT_trans _ _ _ _ _ (LaterT.set hO2 hO1 0 _) (LaterT.set (hO2.set 0 _) hO1 1 _)) (LaterT.set ((hO2.set 0 _).set 1 _) hO1 2 _)
          have hmo : MO w8 Oa (allM m) := ⟨_, _, _, _, _, _, hblk8, ((Ho.out.laterT hWd).laterT hl8).mono (Nat.zero_le _), Hbd.out⟩
          obtain ⟨y0, y1, y2⟩ := cell3 hO2
          have z0 := hO2.free 0
          have z1 := hO2.free 1
          have z2 := hO2.free 2
          have HMOOa := Lib.hid hmo; have HBw8 := Lib.hid hb8; have Hl8 := Lib.hid hl8; have Hw8 := Lib.hid hw8; have HGOa := Lib.hid hO1
          clear hmo hb8 hl8 hw8 hblk8 hbd' hWd hO2 hO3 Ho Hbd Hb07
          refine canF_fixed rfl rfl (fun KK hK => ?_)
          go_simp
          rw [← Hw8.out]
          refine ⟨Hl8.out, hK _ _ ?_⟩
          clear hK KK y0 y1 y2 z0 z1 z2 Hl8 Hw8 hO1
          go_simp
          repeat (refine canF_yes (v := ?_) rfl (wanted_none rfl) (fun w' hC => ?_) (fun K hK => ?_); rotate_left; (focus (go_simp; (try simp (disch := omega) only [IntWalk.i64_in]); first | done | exact rfl)); go_simp; (try simp (disch := omega) only [IntWalk.i64_in]); refine hK _ ?_; clear hK K)
          refine canF_nil ?_
          have hbL8 : Below wL.heap.size wL w8 := HbL.out.trans (HBw8.out.mono HbL.out.size)
          have HbL8 := Lib.hid hbL8
          have hm38 := Hm3r.out.keep hbL8
          obtain ⟨s1B, e1B, s2B, e2B, s3B, e3B, v0, v1, v2, hMB⟩ := hm38.get i hi3
          obtain ⟨s1A, e1A, s2A, e2A, s3A, e3A, hBA, hMA⟩ := (HF0.out.keep hbL8).mb
          obtain ⟨z0, z1, z2⟩ := cell3 hBA
          obtain ⟨s1X, e1X, s2X, e2X, s3X, e3X, hBX, hMX⟩ := HMOOa.out.mb
          obtain ⟨x0, x1, x2⟩ := cell3 hBX
          have hall : ∀ w', Later w8.drew w' → Below w8.heap.size w8 w' := fun w' hh => (Below.refl w8.heap.size w8).drew.trans hh
          have pz0 : ∀ w', Later w8.drew w' → w'.cell? _ = _ := fun w' hh => laterC z0 hh
          have pz1 : ∀ w', Later w8.drew w' → w'.cell? _ = _ := fun w' hh => laterC z1 hh
          have pz2 : ∀ w', Later w8.drew w' → w'.cell? _ = _ := fun w' hh => laterC z2 hh
          have pv0 : ∀ w', Later w8.drew w' → w'.cell? _ = _ := fun w' hh => laterC v0 hh
          have px0 : ∀ w', Later w8.drew w' → w'.cell? _ = _ := fun w' hh => laterC x0 hh
          have px1 : ∀ w', Later w8.drew w' → w'.cell? _ = _ := fun w' hh => laterC x1 hh
          have px2 : ∀ w', Later w8.drew w' → w'.cell? _ = _ := fun w' hh => laterC x2 hh
          obtain ⟨n8, hn8⟩ : ∃ n8, (allM m).seen.length = n8 := ⟨_, rfl⟩
          have hn8i : (m i).seen.length = n8 := by rw [← hn8, H8a.out, H8i.out]
          have hn88 : n8 = 8 := by rw [← hn8, H8a.out]
          have hi8 : i < n8 := by omega
          have hi8I : (i : Int) < (n8 : Int) := by omega
          obtain ⟨sv, hsv⟩ : ∃ sv, (m i).seen.getD i 0 = sv := ⟨_, rfl⟩
          obtain ⟨bA, oA, hbA, -, -, hcA⟩ := int_cell hMA.seen (by rw [hn8]; omega)
          obtain ⟨bB, oB, hbB, -, -, hcB⟩ := int_cell hMB.seen (by rw [hn8i]; omega)
          have eA := hcA i (by rw [hn8]; exact hi8)
          have eB := hcB i (by rw [hn8i]; exact hi8)
          rw [show (allM m).seen[i]'(by rw [hn8]; exact hi8) = sv by
            rw [← hsv, ← Hsn.out i hi3, List.getD_eq_getElem?_getD, List.getElem?_eq_getElem (by rw [hn8]; exact hi8)]; rfl] at eA
          rw [show (m i).seen[i]'(by rw [hn8i]; exact hi8) = sv by
            rw [← hsv, List.getD_eq_getElem?_getD, List.getElem?_eq_getElem (by rw [hn8i]; exact hi8)]; rfl] at eB
          have peA : ∀ w', Later w8.drew w' → w'.cell? _ = _ := fun w' hh => laterC eA hh
          have peB : ∀ w', Later w8.drew w' → w'.cell? _ = _ := fun w' hh => laterC eB hh
          subst hbA hbB
          have HE := Lib.hid (show ∀ W, Below w8.heap.size w8 W → Calls Tryz.prog 33 #[.agg #[.slice s1X (allM m).seen.length e1X, .slice s2X (allM m).items.length e2X, .slice s3X (allM m).gone.length e3X], .agg #[.slice (some ⟨bA, oA, none⟩) (allM m).seen.length e1A, .slice s2A (allM m).items.length e2A, .slice s3A (allM m).gone.length e3A]] W (fun e w' => e = .returned (.bool true) ∧ Below W.heap.size W w') from fun W hW =>
            (equal_any W _ _ (.agg #[.slice s1X (allM m).seen.length e1X, .slice s2X (allM m).items.length e2X, .slice s3X (allM m).gone.length e3X]) (.agg #[.slice (some ⟨bA, oA, none⟩) (allM m).seen.length e1A, .slice s2A (allM m).items.length e2A, .slice s3A (allM m).gone.length e3A]) (allM m) (allM m) ⟨_, _, _, rfl, hMX.keep (w' := W) fun q hq _ => hW.block q hq⟩ ⟨_, _, _, rfl, hMA.keep (w' := W) fun q hq _ => hW.block q hq⟩ Hsm.out.1 Hsm.out.2.1 Hsm.out.2.2 Hsm.out.1 Hsm.out.2.1 Hsm.out.2.2).mono fun e w' ⟨r, h1, h2, h3⟩ => ⟨by rw [h1, h2.2 rfl], h3⟩)
          rw [hn8] at pz0 px0 HE
          rw [hn8i] at pv0
          have hfb := HbL8.out
          clear hm38 hbL8 v0 v1 v2 z0 z1 z2 x0 x1 x2 hBA hMA hMB hBX hMX hcA hcB eA eB hsv hn8 hn8i hn88 hi8 hfb
          go_wp2_with fail
          refine wp_region_can Later [(0, true), (1, true), (2, true), (3, true), (4, true), (5, false), (6, true), (7, true), (8, true), (9, true), (10, true), (11, true), (12, true), (13, true), (14, true), (15, true), (16, true), (17, true), (18, true), (19, true), (20, true), (21, true), (22, true), (23, true), (24, true), (25, true), (26, true), (27, true), (28, true), (29, true), (30, true), (31, true), (32, true), (33, true), (34, true), (35, true), (36, true), (37, true), (38, true), (39, true), (40, true), (41, true), (42, true)] (by kernel_rfl) (by kernel_rfl) later_refl later_trans ?_
          repeat (first
            | (refine can_yes (v := ?_) rfl (wanted_none rfl) (fun w' hC => ?_) (fun K hK => ?_); rotate_left; (focus (go_simp; (try simp (disch := omega) only [IntWalk.i64_in]); first | done | exact rfl)); go_simp; (try simp (disch := omega) only [IntWalk.i64_in]); refine hK _ ?_; clear hK K)
            | (refine can_guard rfl (fun A B hA hB => ?_); go_simp; first | (refine hA ⟨?_, fun w' hC => ?_, fun K hK => ?_⟩; rotate_left; (focus (go_simp; (try simp (disch := omega) only [IntWalk.i64_in]); first | done | exact rfl)); go_simp; (try simp (disch := omega) only [IntWalk.i64_in]); refine hK _ ?_; clear hK K hA hB A B) | (refine hB (fun K hK => ?_); go_simp; (try simp (disch := omega) only [IntWalk.i64_in]); refine hK _ ?_; clear hK K hA hB A B))
            | (refine can_guard_go rfl (fun A B hA hB => ?_); go_simp; refine hB (fun K hK => ?_); go_simp; (try simp (disch := omega) only [IntWalk.i64_in]); refine hK _ ?_; clear hK K hA hB A B))
          refine can_go rfl rfl (fun KK hK => ?_)
          go_simp
          refine (HE.out _ (Below.refl w8.heap.size w8).drew).mono ?_
          rintro e w9 ⟨rfl, hb9⟩
          refine ⟨_, rfl, hb9, hK _ _ ?_⟩
          have HbL9 := Lib.hid (show Below wL.heap.size wL w9 from HbL8.out.trans (((Below.refl w8.heap.size w8).drew.trans hb9).mono HbL8.out.size))
          replace pz0 : ∀ w', Later w9 w' → _ := fun w' hh => pz0 w' (later_trans _ _ _ hb9 hh)
          replace pv0 : ∀ w', Later w9 w' → _ := fun w' hh => pv0 w' (later_trans _ _ _ hb9 hh)
          replace peA : ∀ w', Later w9 w' → _ := fun w' hh => peA w' (later_trans _ _ _ hb9 hh)
          replace peB : ∀ w', Later w9 w' → _ := fun w' hh => peB w' (later_trans _ _ _ hb9 hh)
          clear hK KK hb9 pz1 pz2 px0 px1 px2 hall
          go_simp
          repeat (first
            | (refine can_yes (v := ?_) rfl (wanted_none rfl) (fun w' hC => ?_) (fun K hK => ?_); rotate_left; (focus (go_simp; (try simp (disch := omega) only [IntWalk.i64_in]); first | done | exact rfl)); go_simp; (try simp (disch := omega) only [IntWalk.i64_in]); refine hK _ ?_; clear hK K)
            | (refine can_guard rfl (fun A B hA hB => ?_); go_simp; first | (refine hA ⟨?_, fun w' hC => ?_, fun K hK => ?_⟩; rotate_left; (focus (go_simp; (try simp (disch := omega) only [IntWalk.i64_in]); first | done | exact rfl)); go_simp; (try simp (disch := omega) only [IntWalk.i64_in]); refine hK _ ?_; clear hK K hA hB A B) | (refine hB (fun K hK => ?_); go_simp; (try simp (disch := omega) only [IntWalk.i64_in]); refine hK _ ?_; clear hK K hA hB A B))
            | (refine can_guard_go rfl (fun A B hA hB => ?_); go_simp; refine hB (fun K hK => ?_); go_simp; (try simp (disch := omega) only [IntWalk.i64_in]); refine hK _ ?_; clear hK K hA hB A B))
          refine can_nil ?_
          clear pz0 pv0 peA peB
          go_wp2_with fail
          go_roundw
          case rel => exact ⟨i + 1, by omega, by go_num, HbL9.out⟩
          case measure => simp [intOf]; omega
        · have hiI : ¬ (i : Int) < 3 := by omega
          clear hbL
          have HW := Lib.hid (works_any wr (HTb.out _ HWr.out).1 (HTb.out _ HWr.out).2)
          go_wp2_with fail
          skip
          refine HW.out.mono ?_
          rintro e wf ⟨rfl, hbf⟩
          clear HW
          go_wp2_with fail
          go_ret
          exact ⟨rfl, HWr.out.trans (hbf.mono HWr.out.size)⟩
end Go.Proofs.YtbjkkmabafaogaaGreatDoor
