/-
  RRef4
-/
import Derived.Test.YtkkacnfpdafadaaGreatDoorP37
namespace Go.Proofs.YtkkacnfpdafadaaGreatDoor
open Go.RowKit
set_option linter.unusedVariables false
set_option maxRecDepth 20000
attribute [local go_sem ↓] seal_append

structure RefIn (w : World) (base : Nat) (s1 s2 s3 : Value) (m : RMap) : Prop where
  seen : w.ownsRow base 3 1 s1 m.seen.length (m.seen.map eI)
  items : w.ownsRow base 92 4 s2 m.items.length (m.items.flatMap encIt)
  gone : w.ownsRow base 94 3 s3 m.gone.length (m.gone.flatMap encGo)
theorem RefIn.map {w : World} {base : Nat} {s1 s2 s3 : Value} {m : RMap} (h : RefIn w base s1 s2 s3 m) (hb : Bnd m) : MapIn (fun b => base ≤ b) w s1 s2 s3 m :=
  ⟨(Rows.of_owns h.seen).mono (fun b h _ => h.1), (Rows.of_owns h.items).mono (fun b h _ => h.1), (Rows.of_owns h.gone).mono (fun b h _ => h.1), hb.seenB, hb.itemsB, hb.goneB⟩
theorem RefIn.below {w w' : World} {base : Nat} {s1 s2 s3 : Value} {m : RMap} (h : RefIn w base s1 s2 s3 m) (hb : Below w.heap.size w w') : RefIn w' base s1 s2 s3 m :=
  ⟨own_below h.seen hb, own_below h.items hb, own_below h.gone hb⟩
theorem RefIn.mono {w : World} {base base' : Nat} {s1 s2 s3 : Value} {m : RMap} (h : RefIn w base s1 s2 s3 m) (hb : base' ≤ base) : RefIn w base' s1 s2 s3 m :=
  ⟨own_base h.seen hb, own_base h.items hb, own_base h.gone hb⟩
theorem RefIn.setCell {w : World} {base b i : Nat} {s1 s2 s3 : Value} {m : RMap} {L : List Value} (h : RefIn w base s1 s2 s3 m) (hb : Blk w b L 26) (u : Value) : RefIn (w.setCell ⟨b, i, none⟩ u) base s1 s2 s3 m :=
  ⟨own_setCell h.seen hb (by decide) u, own_setCell h.items hb (by decide) u, own_setCell h.gone hb (by decide) u⟩

set_option maxRecDepth 100000 in
set_option maxHeartbeats 1500000 in
theorem rcopy_any (w : World) (F : Blks) (v : Value) (m : RMap) (h : MapV F w v m) (hs : m.seen.length ≤ 1000000) (hi : m.items.length ≤ 1000000) (hg : m.gone.length ≤ 1000000) :
    Calls Tryz.prog 47 #[v] w fun e w' => (∃ s1 s2 s3, e = .returned (.agg #[s1, s2, s3]) ∧ RefIn w' w.heap.size s1 s2 s3 m) ∧ Below w.heap.size w w' := by
  replace h := h.mono (G := fun b => b < w.heap.size) fun b _ hlt => hlt
  obtain ⟨s1, s2, s3, rfl, h⟩ := h
  obtain ⟨a1, p1, rfl, -⟩ := h.seen.shape
  obtain ⟨a2, p2, rfl, -⟩ := h.items.shape
  obtain ⟨a3, p3, rfl, -⟩ := h.gone.shape
  obtain ⟨wx, hwx⟩ : ∃ wx, wx = w.alloc (.cells #[.slice a1 m.seen.length p1, .slice a2 m.items.length p2, .slice a3 m.gone.length p3] 26) := ⟨_, rfl⟩
  have hbx : Below w.heap.size w wx := by rw [hwx]; exact kept_alloc _ _
  have hzx : wx.heap.size = w.heap.size + 1 := by rw [hwx]; simp
  have hx := h.keep (w' := wx) fun b _ hlt => hbx.block b hlt
  have hnx : Blk wx w.heap.size [.slice a1 m.seen.length p1, .slice a2 m.items.length p2, .slice a3 m.gone.length p3] 26 := by rw [hwx]; exact Blk.new _ _ _
  have Hx := Lib.hid hx
  have Hwx := Lib.hid hwx; have Hbx := Lib.hid hbx; have Hzx := Lib.hid hzx
  have Hnx := Lib.hid hnx
  clear hx hwx hbx hnx hzx h
  obtain ⟨w2, hw2⟩ : ∃ w2, w2 = (wx.alloc (.cells #[.slice none 0 0, .slice none 0 0, .slice none 0 0] 26)).alloc (.cells #[.slice none 0 0, .slice none 0 0, .slice none 0 0] 26) := ⟨_, rfl⟩
  have hb2 : Below w.heap.size w w2 := by rw [hw2]; exact (Hbx.out.alloc Hbx.out.size _).alloc (by have := Hbx.out.size; simp; omega) _
  have hz2 : w2.heap.size = w.heap.size + 3 := by rw [hw2]; simp [Hzx.out]
  have k1 : Blk w2 w.heap.size [.slice a1 m.seen.length p1, .slice a2 m.items.length p2, .slice a3 m.gone.length p3] 26 := by rw [hw2]; exact (Hnx.out.alloc _).alloc _
  have k2 : Blk w2 (w.heap.size + 1) [.slice none 0 0, .slice none 0 0, .slice none 0 0] 26 := by
    have := (Blk.new wx #[.slice none 0 0, .slice none 0 0, .slice none 0 0] 26).alloc (.cells #[.slice none 0 0, .slice none 0 0, .slice none 0 0] 26)
    rw [hw2, ← Hzx.out]; exact this
  have k3 : Blk w2 (w.heap.size + 1 + 1) [.slice none 0 0, .slice none 0 0, .slice none 0 0] 26 := by
    have := Blk.new (wx.alloc (.cells #[.slice none 0 0, .slice none 0 0, .slice none 0 0] 26)) #[.slice none 0 0, .slice none 0 0, .slice none 0 0] 26
    simp only [World.size_alloc, Hzx.out] at this
    rw [hw2]; exact this
  have HM := Lib.hid (show ∀ W, Below w.heap.size w W → MapIn (fun b => b < w.heap.size) W (.slice a1 m.seen.length p1) (.slice a2 m.items.length p2) (.slice a3 m.gone.length p3) m from fun W hb => Hx.out.keep (w' := W) fun b hlt _ => (hb.block b hlt).trans (Hbx.out.block b hlt).symm)
  have Hw2 := Lib.hid hw2; have Hb2 := Lib.hid hb2; have Hz2 := Lib.hid hz2; have K1 := Lib.hid k1; have K2 := Lib.hid k2; have K3 := Lib.hid k3
  clear hw2 hb2 hz2 k1 k2 k3
  go_enter Tryz.func47, Tryz.ntmps47
  go_wp2_with fail
  rw [← Hwx.out, ← Hw2.out]
  obtain ⟨i0, q1, q2, q3, q4⟩ := info_parts infoI
  have hno : w2.ownsRow w2.heap.size 3 1 (.slice none 0 0) 0 [] := World.ownsRow_nil _ _ _ _
  obtain ⟨v1, w3, hr, ho1, hg3⟩ := run_append_rows (P := Tryz.prog) w2 w2.heap.size 22 3 Tryz.underlying22 q1 q2 q3 q4 rfl (by decide) _ _ _ hno _ _ _ _ (HM.out w2 Hb2.out).seen (one_eI _) (by unfold maxLen; omega) (by omega) (Nat.le_refl _)
  rw [Nat.zero_add, List.nil_append] at ho1
  have hgb : Below w2.heap.size w2 w3 := Below.grownOwn hno hg3 (Nat.le_refl _) (Nat.le_refl _)
  obtain ⟨b0, d0, rfl⟩ := own_shape ho1
  have k13 := K1.out.grownNe hno (by decide) hg3
  have k23 := K2.out.grownNe hno (by decide) hg3
  have k33 := K3.out.grownNe hno (by decide) hg3
  have hb3 : Below w.heap.size w w3 := Hb2.out.trans (hgb.mono Hb2.out.size)
  obtain ⟨w4, hw4⟩ : ∃ w4, w4 = w3.setCell ⟨w.heap.size + 1 + 1, 0, none⟩ (.slice b0 m.seen.length d0) := ⟨_, rfl⟩
  have k14 : Blk w4 w.heap.size [.slice a1 m.seen.length p1, .slice a2 m.items.length p2, .slice a3 m.gone.length p3] 26 := by rw [hw4]; exact k13.set_other _ (by show w.heap.size ≠ w.heap.size + 1 + 1; omega)
  have k24 : Blk w4 (w.heap.size + 1) [.slice none 0 0, .slice none 0 0, .slice none 0 0] 26 := by rw [hw4]; exact k23.set_other _ (by show w.heap.size + 1 ≠ w.heap.size + 1 + 1; omega)
  have k34 : Blk w4 (w.heap.size + 1 + 1) [.slice b0 m.seen.length d0, .slice none 0 0, .slice none 0 0] 26 := by rw [hw4]; exact k33.set 0 _
  have ho14 : w4.ownsRow w.heap.size 3 1 (.slice b0 m.seen.length d0) m.seen.length (m.seen.map eI) := by rw [hw4]; exact own_base (own_setCell ho1 k33 (by decide) _) Hb2.out.size
  have hb4 : Below w.heap.size w w4 := by rw [hw4]; exact hb3.setCell (by show w.heap.size ≤ w.heap.size + 1 + 1; omega) _
  try clear c0 c1 c2
  try clear g0 g1 g2 g3 g4 g5
  try clear e0 e1 e2 f0
  obtain ⟨e0, e1, e2⟩ := cell3 k33
  have f0 := k33.free 0
  obtain ⟨c0, c1, c2⟩ := cell3 k13
  obtain ⟨g0, g1, g2⟩ := cell3 k23
  have g3 := k23.free 0; have g4 := k23.free 1; have g5 := k23.free 2
  have Hww4 := Lib.hid hw4; have K1w4 := Lib.hid k14; have K2w4 := Lib.hid k24; have K3w4 := Lib.hid k34; have How4 := Lib.hid ho14; have HBw4 := Lib.hid hb4
  have HCw4 := Lib.hid (show ∀ (te : TypeId) (k n : Nat) (u : Value) (xs : List Value), w2.ownsRow w.heap.size te k u n xs → te ≠ 26 → w4.ownsRow w.heap.size te k u n xs from fun _ _ _ _ _ ho hne => by rw [hw4]; exact own_setCell (own_below ho hgb) k33 hne _)
  clear hno hg3 k13 k23 k33 hb3 hw4 k14 k24 k34 ho14 hb4 q1 q2 q3 q4 ho1 hgb
  go_simp
  go_wp2_with fail
  rw [← Hww4.out]
  clear hr
  obtain ⟨i0, q1, q2, q3, q4⟩ := info_parts infoItR
  have hno : w4.ownsRow w4.heap.size 92 4 (.slice none 0 0) 0 [] := World.ownsRow_nil _ _ _ _
  obtain ⟨v1, w5, hr, ho1, hg3⟩ := run_append_rows (P := Tryz.prog) w4 w4.heap.size 23 92 Tryz.underlying23 q1 q2 q3 q4 rfl (by decide) _ _ _ hno _ _ _ _ (HM.out w4 HBw4.out).items (one_encIt _) (by unfold maxLen; omega) (by omega) (Nat.le_refl _)
  rw [Nat.zero_add, List.nil_append] at ho1
  have hgb : Below w4.heap.size w4 w5 := Below.grownOwn hno hg3 (Nat.le_refl _) (Nat.le_refl _)
  obtain ⟨b1, d1, rfl⟩ := own_shape ho1
  have k13 := K1w4.out.grownNe hno (by decide) hg3
  have k23 := K2w4.out.grownNe hno (by decide) hg3
  have k33 := K3w4.out.grownNe hno (by decide) hg3
  have hb3 : Below w.heap.size w w5 := HBw4.out.trans (hgb.mono HBw4.out.size)
  obtain ⟨w6, hw4⟩ : ∃ w4, w4 = w5.setCell ⟨w.heap.size + 1 + 1, 1, none⟩ (.slice b1 m.items.length d1) := ⟨_, rfl⟩
  have k14 : Blk w6 w.heap.size [.slice a1 m.seen.length p1, .slice a2 m.items.length p2, .slice a3 m.gone.length p3] 26 := by rw [hw4]; exact k13.set_other _ (by show w.heap.size ≠ w.heap.size + 1 + 1; omega)
  have k24 : Blk w6 (w.heap.size + 1) [.slice none 0 0, .slice none 0 0, .slice none 0 0] 26 := by rw [hw4]; exact k23.set_other _ (by show w.heap.size + 1 ≠ w.heap.size + 1 + 1; omega)
  have k34 : Blk w6 (w.heap.size + 1 + 1) [.slice b0 m.seen.length d0, .slice b1 m.items.length d1, .slice none 0 0] 26 := by rw [hw4]; exact k33.set 1 _
  have ho14 : w6.ownsRow w.heap.size 92 4 (.slice b1 m.items.length d1) m.items.length (m.items.flatMap encIt) := by rw [hw4]; exact own_base (own_setCell ho1 k33 (by decide) _) HBw4.out.size
  have hb4 : Below w.heap.size w w6 := by rw [hw4]; exact hb3.setCell (by show w.heap.size ≤ w.heap.size + 1 + 1; omega) _
  try clear c0 c1 c2
  try clear g0 g1 g2 g3 g4 g5
  try clear e0 e1 e2 f0
  obtain ⟨e0, e1, e2⟩ := cell3 k33
  have f0 := k33.free 1
  obtain ⟨c0, c1, c2⟩ := cell3 k13
  obtain ⟨g0, g1, g2⟩ := cell3 k23
  have g3 := k23.free 0; have g4 := k23.free 1; have g5 := k23.free 2
  have Hww6 := Lib.hid hw4; have K1w6 := Lib.hid k14; have K2w6 := Lib.hid k24; have K3w6 := Lib.hid k34; have How6 := Lib.hid ho14; have HBw6 := Lib.hid hb4
  have HCw6 := Lib.hid (show ∀ (te : TypeId) (k n : Nat) (u : Value) (xs : List Value), w4.ownsRow w.heap.size te k u n xs → te ≠ 26 → w6.ownsRow w.heap.size te k u n xs from fun _ _ _ _ _ ho hne => by rw [hw4]; exact own_setCell (own_below ho hgb) k33 hne _)
  clear hno hg3 k13 k23 k33 hb3 hw4 k14 k24 k34 ho14 hb4 q1 q2 q3 q4 ho1 hgb
  go_simp
  go_wp2_with fail
  rw [← Hww6.out]
  clear hr
  obtain ⟨i0, q1, q2, q3, q4⟩ := info_parts infoGoR
  have hno : w6.ownsRow w6.heap.size 94 3 (.slice none 0 0) 0 [] := World.ownsRow_nil _ _ _ _
  obtain ⟨v1, w7, hr, ho1, hg3⟩ := run_append_rows (P := Tryz.prog) w6 w6.heap.size 24 94 Tryz.underlying24 q1 q2 q3 q4 rfl (by decide) _ _ _ hno _ _ _ _ (HM.out w6 HBw6.out).gone (one_encGo _) (by unfold maxLen; omega) (by omega) (Nat.le_refl _)
  rw [Nat.zero_add, List.nil_append] at ho1
  have hgb : Below w6.heap.size w6 w7 := Below.grownOwn hno hg3 (Nat.le_refl _) (Nat.le_refl _)
  obtain ⟨b2, d2, rfl⟩ := own_shape ho1
  have k13 := K1w6.out.grownNe hno (by decide) hg3
  have k23 := K2w6.out.grownNe hno (by decide) hg3
  have k33 := K3w6.out.grownNe hno (by decide) hg3
  have hb3 : Below w.heap.size w w7 := HBw6.out.trans (hgb.mono HBw6.out.size)
  obtain ⟨w8, hw4⟩ : ∃ w4, w4 = w7.setCell ⟨w.heap.size + 1 + 1, 2, none⟩ (.slice b2 m.gone.length d2) := ⟨_, rfl⟩
  have k14 : Blk w8 w.heap.size [.slice a1 m.seen.length p1, .slice a2 m.items.length p2, .slice a3 m.gone.length p3] 26 := by rw [hw4]; exact k13.set_other _ (by show w.heap.size ≠ w.heap.size + 1 + 1; omega)
  have k24 : Blk w8 (w.heap.size + 1) [.slice none 0 0, .slice none 0 0, .slice none 0 0] 26 := by rw [hw4]; exact k23.set_other _ (by show w.heap.size + 1 ≠ w.heap.size + 1 + 1; omega)
  have k34 : Blk w8 (w.heap.size + 1 + 1) [.slice b0 m.seen.length d0, .slice b1 m.items.length d1, .slice b2 m.gone.length d2] 26 := by rw [hw4]; exact k33.set 2 _
  have ho14 : w8.ownsRow w.heap.size 94 3 (.slice b2 m.gone.length d2) m.gone.length (m.gone.flatMap encGo) := by rw [hw4]; exact own_base (own_setCell ho1 k33 (by decide) _) HBw6.out.size
  have hb4 : Below w.heap.size w w8 := by rw [hw4]; exact hb3.setCell (by show w.heap.size ≤ w.heap.size + 1 + 1; omega) _
  try clear c0 c1 c2
  try clear g0 g1 g2 g3 g4 g5
  try clear e0 e1 e2 f0
  obtain ⟨e0, e1, e2⟩ := cell3 k33
  have f0 := k33.free 2
  obtain ⟨c0, c1, c2⟩ := cell3 k13
  obtain ⟨g0, g1, g2⟩ := cell3 k23
  have g3 := k23.free 0; have g4 := k23.free 1; have g5 := k23.free 2
  have Hww8 := Lib.hid hw4; have K1w8 := Lib.hid k14; have K2w8 := Lib.hid k24; have K3w8 := Lib.hid k34; have How8 := Lib.hid ho14; have HBw8 := Lib.hid hb4
  have HCw8 := Lib.hid (show ∀ (te : TypeId) (k n : Nat) (u : Value) (xs : List Value), w6.ownsRow w.heap.size te k u n xs → te ≠ 26 → w8.ownsRow w.heap.size te k u n xs from fun _ _ _ _ _ ho hne => by rw [hw4]; exact own_setCell (own_below ho hgb) k33 hne _)
  clear hno hg3 k13 k23 k33 hb3 hw4 k14 k24 k34 ho14 hb4 q1 q2 q3 q4 ho1 hgb
  go_simp
  go_wp2_with fail
  rw [← Hww8.out]
  clear hr
  obtain ⟨wf, hwf, hblk, hbf⟩ := fin3 K2w8.out HBw8.out (Nat.le_succ _) (.slice b0 m.seen.length d0) (.slice b1 m.items.length d1) (.slice b2 m.gone.length d2)
  rw [← hwf]
  obtain ⟨t0, t1, t2⟩ := cell3 hblk
  have hin : RefIn w8 w.heap.size (.slice b0 m.seen.length d0) (.slice b1 m.items.length d1) (.slice b2 m.gone.length d2) m := ⟨HCw8.out _ _ _ _ _ (HCw6.out _ _ _ _ _ How4.out (by decide)) (by decide), HCw8.out _ _ _ _ _ How6.out (by decide), How8.out⟩
  have hfin : RefIn wf w.heap.size (.slice b0 m.seen.length d0) (.slice b1 m.items.length d1) (.slice b2 m.gone.length d2) m := by
    rw [hwf]
    exact ((hin.setCell K2w8.out _).setCell (K2w8.out.set 0 _) _).setCell ((K2w8.out.set 0 _).set 1 _) _
  exact bodyPost_ret (v := .agg #[.slice b0 m.seen.length d0, .slice b1 m.items.length d1, .slice b2 m.gone.length d2]) (by simp [results, Tryz.results47, go_sem, t0, t1, t2]) rfl ⟨⟨_, _, _, rfl, hfin⟩, hbf⟩

set_option maxRecDepth 100000 in
set_option maxHeartbeats 1500000 in
theorem rfull_any (w : World) (F : Blks) (v : Value) (m : RMap) (h : MapV F w v m) (hki : ∀ x ∈ m.items, x.key.length ≤ 1000000000) (hkg : ∀ x ∈ m.gone, x.key.length ≤ 1000000000) :
    Calls Tryz.prog 93 #[v] w fun e w' => e = .returned (.tuple #[if validR m then v else .agg #[.slice none 0 0, .slice none 0 0, .slice none 0 0], .int .i64 (if validR m then 0 else 7)]) ∧ Below w.heap.size w w' := by
  replace h := h.mono (G := fun b => b < w.heap.size) fun b _ hlt => hlt
  obtain ⟨s1, s2, s3, rfl, h⟩ := h
  obtain ⟨a1, p1, rfl, -⟩ := h.seen.shape
  obtain ⟨a2, p2, rfl, -⟩ := h.items.shape
  obtain ⟨a3, p3, rfl, -⟩ := h.gone.shape
  have l1 := h.seen.len
  have l2 := h.items.len
  have l3 := h.gone.len
  unfold maxLen at l1 l2 l3
  obtain ⟨n1, hn1⟩ : ∃ n, m.seen.length = n := ⟨_, rfl⟩
  obtain ⟨n2, hn2⟩ : ∃ n, m.items.length = n := ⟨_, rfl⟩
  obtain ⟨n3, hn3⟩ : ∃ n, m.gone.length = n := ⟨_, rfl⟩
  rw [hn1, hn2, hn3] at h
  rw [hn1] at l1 ⊢
  rw [hn2] at l2 ⊢
  rw [hn3] at l3 ⊢
  obtain ⟨wx, hwx⟩ : ∃ wx, wx = w.alloc (.cells #[.slice a1 n1 p1, .slice a2 n2 p2, .slice a3 n3 p3] 26) := ⟨_, rfl⟩
  have hbx : Below w.heap.size w wx := by rw [hwx]; exact kept_alloc _ _
  have hzx : wx.heap.size = w.heap.size + 1 := by rw [hwx]; simp
  have hx := h.keep (w' := wx) fun b _ hlt => hbx.block b hlt
  have hnx : Blk wx w.heap.size [.slice a1 n1 p1, .slice a2 n2 p2, .slice a3 n3 p3] 26 := by rw [hwx]; exact Blk.new _ _ _
  have Hx := Lib.hid hx; have Hn1 := Lib.hid hn1; have Hn2 := Lib.hid hn2; have Hn3 := Lib.hid hn3
  have Hwx := Lib.hid hwx; have Hbx := Lib.hid hbx; have Hzx := Lib.hid hzx
  have c0 := hnx.cell 0
  have c1 := hnx.cell 1
  have c2 := hnx.cell 2
  simp at c0 c1 c2
  have Hnx := Lib.hid hnx
  clear hx hn1 hn2 hn3 hwx hbx hnx hzx
  clear h
  obtain ⟨w2, hw2⟩ : ∃ w2, w2 = wx.alloc (.cells #[.slice none 0 0, .slice none 0 0, .slice none 0 0] 26) := ⟨_, rfl⟩
  have hb2 : Below w.heap.size w w2 := by rw [hw2]; exact Hbx.out.alloc Hbx.out.size _
  have hz2 : w2.heap.size = w.heap.size + 2 := by rw [hw2]; simp [Hzx.out]
  have k1 : Blk w2 w.heap.size [.slice a1 n1 p1, .slice a2 n2 p2, .slice a3 n3 p3] 26 := by rw [hw2]; exact Hnx.out.alloc _
  have k2 : Blk w2 (w.heap.size + 1) [.slice none 0 0, .slice none 0 0, .slice none 0 0] 26 := by
    have := Blk.new wx #[.slice none 0 0, .slice none 0 0, .slice none 0 0] 26
    rw [hw2, ← Hzx.out]; exact this
  have hm2 := Hx.out.keep (w' := w2) fun b _ hlt => by rw [hw2]; exact Below.heap_alloc _ _ _ hlt
  have HC := Lib.hid (rvalid2_any w2 _ (.agg #[.slice a1 n1 p1, .slice a2 n2 p2, .slice a3 n3 p3]) m ⟨_, _, _, rfl, hm2⟩ hki hkg)
  obtain ⟨ok, hok⟩ : ∃ ok, validR m = ok := ⟨_, rfl⟩
  rw [hok] at HC ⊢
  have Hw2 := Lib.hid hw2; have Hb2 := Lib.hid hb2; have K1 := Lib.hid k1; have K2 := Lib.hid k2; have Hz2 := Lib.hid hz2
  clear hw2 hb2 k1 k2 hm2 hz2 Hx Hnx hok hki hkg c0 c1 c2
  go_enter Tryz.func93, Tryz.ntmps93
  go_wp2_with fail
  rw [← Hwx.out, ← Hw2.out]
  refine HC.out.mono ?_
  rintro e w3 ⟨rfl, hb3⟩
  have kk := K1.out.keep (hb3.block _ K1.out.lt)
  have kr := K2.out.keep (hb3.block _ K2.out.lt)
  have d0 := kk.cell 0
  have d1 := kk.cell 1
  have d2 := kk.cell 2
  simp at d0 d1 d2
  have y0 := kr.cell 0
  have y1 := kr.cell 1
  have y2 := kr.cell 2
  have z0 := kr.free 0
  have z1 := kr.free 1
  have z2 := kr.free 2
  simp at y0 y1 y2
  have hb3' : Below w.heap.size w w3 := Hb2.out.trans (hb3.mono Hb2.out.size)
  have hfin : ∀ s1 s2 s3 : Value, ∃ wf, wf = ((w3.setCell ⟨w.heap.size + 1, 0, none⟩ s1).setCell ⟨w.heap.size + 1, 1, none⟩ s2).setCell ⟨w.heap.size + 1, 2, none⟩ s3 ∧ Blk wf (w.heap.size + 1) [s1, s2, s3] 26 ∧ Below w.heap.size w wf := fun s1 s2 s3 =>
    ⟨_, rfl, set3 _ kr rfl, ((hb3'.setCell (p := ⟨w.heap.size + 1, 0, none⟩) (Nat.le_succ _) _).setCell (p := ⟨w.heap.size + 1, 1, none⟩) (Nat.le_succ _) _).setCell (p := ⟨w.heap.size + 1, 2, none⟩) (Nat.le_succ _) _⟩
  cases ok with
  | true =>
    obtain ⟨wf, hwf, hblk, hbf⟩ := hfin (.slice a1 n1 p1) (.slice a2 n2 p2) (.slice a3 n3 p3)
    have Q0 := Lib.hid (hblk.cell 0); have Q1 := Lib.hid (hblk.cell 1); have Q2 := Lib.hid (hblk.cell 2)
    have Hbf := Lib.hid hbf; have Hwf := Lib.hid hwf
    clear hfin hwf hblk hbf kk kr HC hb3 hb3'
    go_wp2_with fail
    rw [← Hwf.out]
    have q0 := Q0.out
    have q1 := Q1.out
    have q2 := Q2.out
    simp at q0 q1 q2
    refine bodyPost_ret (v := .tuple #[.agg #[.slice a1 n1 p1, .slice a2 n2 p2, .slice a3 n3 p3], .int .i64 0]) (by simp [results, Tryz.results93, go_sem, q0, q1, q2]) rfl ⟨rfl, Hbf.out⟩
  | false =>
    obtain ⟨wf, hwf, hblk, hbf⟩ := hfin (.slice none 0 0) (.slice none 0 0) (.slice none 0 0)
    have Q0 := Lib.hid (hblk.cell 0); have Q1 := Lib.hid (hblk.cell 1); have Q2 := Lib.hid (hblk.cell 2)
    have Hbf := Lib.hid hbf; have Hwf := Lib.hid hwf
    clear hfin hwf hblk hbf kk kr HC hb3 hb3'
    go_wp2_with fail
    rw [← Hwf.out]
    have q0 := Q0.out
    have q1 := Q1.out
    have q2 := Q2.out
    simp at q0 q1 q2
    refine bodyPost_ret (v := .tuple #[.agg #[.slice none 0 0, .slice none 0 0, .slice none 0 0], .int .i64 7]) (by simp [results, Tryz.results93, go_sem, q0, q1, q2]) rfl ⟨rfl, Hbf.out⟩
end Go.Proofs.YtkkacnfpdafadaaGreatDoor
/- The reference: Use. -/
namespace Go.Proofs.YtkkacnfpdafadaaGreatDoor
open Go.RowKit
set_option linter.unusedVariables false
set_option maxRecDepth 20000
attribute [local go_sem ↓] seal_append
attribute [local go_sem] opC upC

theorem put_len {α : Type} (pl : α → RPl) (l : List α) (x : α) : (putL pl l x).length ≤ l.length + 1 := by
  unfold putL
  rw [List.length_append, List.length_cons]
  have h1 := List.length_filter_le (fun e => decide (pl e ≠ pl x)) (l.dropWhile fun e => decide (plt (pl e) (pl x)))
  have h2 := congrArg List.length (List.takeWhile_append_dropWhile (p := fun e => decide (plt (pl e) (pl x))) (l := l))
  rw [List.length_append] at h2
  omega
def RPost (w : World) (mr : RMap × Int) (e : Ending) (w' : World) : Prop := ∃ r, e = .returned (.tuple #[r, .int .i64 mr.2]) ∧ MapV (fun b => w.heap.size ≤ b) w' r mr.1 ∧ Below w.heap.size w w'
theorem mapV_empty (F : Blks) (w : World) : MapV F w (.agg #[.slice none 0 0, .slice none 0 0, .slice none 0 0]) .empty := ⟨_, _, _, rfl, Rows.nil _ _ _, Rows.nil _ _ _, Rows.nil _ _ _, nofun, nofun, nofun⟩

end Go.Proofs.YtkkacnfpdafadaaGreatDoor
