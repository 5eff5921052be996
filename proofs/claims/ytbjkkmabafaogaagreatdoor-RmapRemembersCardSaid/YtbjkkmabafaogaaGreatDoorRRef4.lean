/- The reference: Copy, full. -/
import Derived.Test.YtbjkkmabafaogaaGreatDoorRRef2
namespace Go.Proofs.YtbjkkmabafaogaaGreatDoor
open Go.RowKit
set_option linter.unusedVariables false
set_option maxRecDepth 20000
attribute [local go_sem ↓] seal_append

/-- a map of the reference in memory that may be written -/
structure RefIn (w : World) (base : Nat) (s1 s2 s3 : Value) (m : RMap) : Prop where
  seen : w.ownsRow base 3 1 s1 m.seen.length (m.seen.map eI)
  items : w.ownsRow base 72 4 s2 m.items.length (m.items.flatMap encIt)
  gone : w.ownsRow base 74 3 s3 m.gone.length (m.gone.flatMap encGo)
theorem RefIn.map {w : World} {base : Nat} {s1 s2 s3 : Value} {m : RMap} (h : RefIn w base s1 s2 s3 m) (hb : Bnd m) : MapIn (fun b => base ≤ b) w s1 s2 s3 m :=
  ⟨(Rows.of_owns h.seen).mono (fun b h _ => h.1), (Rows.of_owns h.items).mono (fun b h _ => h.1), (Rows.of_owns h.gone).mono (fun b h _ => h.1), hb.seenB, hb.itemsB, hb.goneB⟩
theorem RefIn.below {w w' : World} {base : Nat} {s1 s2 s3 : Value} {m : RMap} (h : RefIn w base s1 s2 s3 m) (hb : Below w.heap.size w w') : RefIn w' base s1 s2 s3 m :=
  ⟨own_below h.seen hb, own_below h.items hb, own_below h.gone hb⟩
theorem RefIn.mono {w : World} {base base' : Nat} {s1 s2 s3 : Value} {m : RMap} (h : RefIn w base s1 s2 s3 m) (hb : base' ≤ base) : RefIn w base' s1 s2 s3 m :=
  ⟨own_base h.seen hb, own_base h.items hb, own_base h.gone hb⟩
theorem RefIn.setCell {w : World} {base b i : Nat} {s1 s2 s3 : Value} {m : RMap} {L : List Value} (h : RefIn w base s1 s2 s3 m) (hb : Blk w b L 26) (u : Value) : RefIn (w.setCell ⟨b, i, none⟩ u) base s1 s2 s3 m :=
  ⟨own_setCell h.seen hb (by decide) u, own_setCell h.items hb (by decide) u, own_setCell h.gone hb (by decide) u⟩

set_option maxRecDepth 100000 in
set_option maxHeartbeats 1500000 in
theorem rcopy_any (w : World) (F : Blks) (v : Value) (m : RMap) (h : MapV F w v m) (hs : m.seen.length ≤ 1000000) (hi : m.items.length ≤ 1000000) (hg : m.gone.length ≤ 1000000) :
    Calls Tryz.prog 61 #[v] w fun e w' => (∃ s1 s2 s3, e = .returned (.agg #[s1, s2, s3]) ∧ RefIn w' w.heap.size s1 s2 s3 m) ∧ Below w.heap.size w w' := by
  replace h := h.mono (G := fun b => b < w.heap.size) fun b _ hlt => hlt
  obtain ⟨s1, s2, s3, rfl, h⟩ := h
  obtain ⟨a1, p1, rfl, -⟩ := h.seen.shape
  obtain ⟨a2, p2, rfl, -⟩ := h.items.shape
  obtain ⟨a3, p3, rfl, -⟩ := h.gone.shape
  obtain ⟨wx, hwx⟩ : ∃ wx, wx = w.alloc (.cells #[.slice a1 m.seen.length p1, .slice a2 m.items.length p2, .slice a3 m.gone.length p3] 26) := ⟨_, rfl⟩
  have hbx : Below w.heap.size w wx := by rw [hwx]; exact kept_alloc _ _
  have hzx : wx.heap.size = w.heap.size + 1 := by rw [hwx]; simp
  have hx := h.keep (w' := wx) fun b _ hlt => hbx.block b hlt
  have hnx : Blk wx w.heap.size [.slice a1 m.seen.length p1, .slice a2 m.items.length p2, .slice a3 m.gone.length p3] 26 := by rw [hwx]; exact Blk.new _ _ _
  have Hx := Lib.hid hx
  have Hwx := Lib.hid hwx; have Hbx := Lib.hid hbx; have Hzx := Lib.hid hzx
  have Hnx := Lib.hid hnx
  clear hx hwx hbx hnx hzx h
  obtain ⟨w2, hw2⟩ : ∃ w2, w2 = (wx.alloc (.cells #[.slice none 0 0, .slice none 0 0, .slice none 0 0] 26)).alloc (.cells #[.slice none 0 0, .slice none 0 0, .slice none 0 0] 26) := ⟨_, rfl⟩
  have hb2 : Below w.heap.size w w2 := by rw [hw2]; exact (Hbx.out.alloc Hbx.out.size _).alloc (by have := Hbx.out.size; simp; omega) _
  have hz2 : w2.heap.size = w.heap.size + 3 := by rw [hw2]; simp [Hzx.out]
  have k1 : Blk w2 w.heap.size [.slice a1 m.seen.length p1, .slice a2 m.items.length p2, .slice a3 m.gone.length p3] 26 := by rw [hw2]; exact (Hnx.out.alloc _).alloc _
  have k2 : Blk w2 (w.heap.size + 1) [.slice none 0 0, .slice none 0 0, .slice none 0 0] 26 := by
    have := (Blk.new wx #[.slice none 0 0, .slice none 0 0, .slice none 0 0] 26).alloc (.cells #[.slice none 0 0, .slice none 0 0, .slice none 0 0] 26)
    rw [hw2, ← Hzx.out]; exact this
  have k3 : Blk w2 (w.heap.size + 1 + 1) [.slice none 0 0, .slice none 0 0, .slice none 0 0] 26 := by
    have := Blk.new (wx.alloc (.cells #[.slice none 0 0, .slice none 0 0, .slice none 0 0] 26)) #[.slice none 0 0, .slice none 0 0, .slice none 0 0] 26
    simp only [World.size_alloc, Hzx.out] at this
    rw [hw2]; exact this
  have HM := Lib.hid (show ∀ W, Below w.heap.size w W → MapIn (fun b => b < w.heap.size) W (.slice a1 m.seen.length p1) (.slice a2 m.items.length p2) (.slice a3 m.gone.length p3) m from fun W hb => Hx.out.keep (w' := W) fun b hlt _ => (hb.block b hlt).trans (Hbx.out.block b hlt).symm)
  have Hw2 := Lib.hid hw2; have Hb2 := Lib.hid hb2; have Hz2 := Lib.hid hz2; have K1 := Lib.hid k1; have K2 := Lib.hid k2; have K3 := Lib.hid k3
  clear hw2 hb2 hz2 k1 k2 k3
  go_enter Tryz.func61, Tryz.ntmps61
  go_wp2_with fail
  rw [← Hwx.out, ← Hw2.out]
  obtain ⟨i0, q1, q2, q3, q4⟩ := info_parts infoI
  have hno : w2.ownsRow w2.heap.size 3 1 (.slice none 0 0) 0 [] := World.ownsRow_nil _ _ _ _
  obtain ⟨v1, w3, hr, ho1, hg3⟩ := run_append_rows (P := Tryz.prog) w2 w2.heap.size 22 3 Tryz.underlying22 q1 q2 q3 q4 rfl (by decide) _ _ _ hno _ _ _ _ (HM.out w2 Hb2.out).seen (one_eI _) (by unfold maxLen; omega) (by omega) (Nat.le_refl _)
  rw [Nat.zero_add, List.nil_append] at ho1
  have hgb : Below w2.heap.size w2 w3 := Below.grownOwn hno hg3 (Nat.le_refl _) (Nat.le_refl _)
  obtain ⟨b0, d0, rfl⟩ := own_shape ho1
  have k13 := K1.out.grownNe hno (by decide) hg3
  have k23 := K2.out.grownNe hno (by decide) hg3
  have k33 := K3.out.grownNe hno (by decide) hg3
  have hb3 : Below w.heap.size w w3 := Hb2.out.trans (hgb.mono Hb2.out.size)
  obtain ⟨w4, hw4⟩ : ∃ w4, w4 = w3.setCell ⟨w.heap.size + 1 + 1, 0, none⟩ (.slice b0 m.seen.length d0) := ⟨_, rfl⟩
  have k14 : Blk w4 w.heap.size [.slice a1 m.seen.length p1, .slice a2 m.items.length p2, .slice a3 m.gone.length p3] 26 := by rw [hw4]; exact k13.set_other _ (by show w.heap.size ≠ w.heap.size + 1 + 1; omega)
  have k24 : Blk w4 (w.heap.size + 1) [.slice none 0 0, .slice none 0 0, .slice none 0 0] 26 := by rw [hw4]; exact k23.set_other _ (by show w.heap.size + 1 ≠ w.heap.size + 1 + 1; omega)
  have k34 : Blk w4 (w.heap.size + 1 + 1) [.slice b0 m.seen.length d0, .slice none 0 0, .slice none 0 0] 26 := by rw [hw4]; exact k33.set 0 _
  have ho14 : w4.ownsRow w.heap.size 3 1 (.slice b0 m.seen.length d0) m.seen.length (m.seen.map eI) := by rw [hw4]; exact own_base (own_setCell ho1 k33 (by decide) _) Hb2.out.size
  have hb4 : Below w.heap.size w w4 := by rw [hw4]; exact hb3.setCell (by show w.heap.size ≤ w.heap.size + 1 + 1; omega) _
  try clear c0 c1 c2
  try clear g0 g1 g2 g3 g4 g5
  try clear e0 e1 e2 f0
  obtain ⟨e0, e1, e2⟩ := cell3 k33
  have f0 := k33.free 0
  obtain ⟨c0, c1, c2⟩ := cell3 k13
  obtain ⟨g0, g1, g2⟩ := cell3 k23
  have g3 := k23.free 0; have g4 := k23.free 1; have g5 := k23.free 2
  have Hww4 := Lib.hid hw4; have K1w4 := Lib.hid k14; have K2w4 := Lib.hid k24; have K3w4 := Lib.hid k34; have How4 := Lib.hid ho14; have HBw4 := Lib.hid hb4
  have HCw4 := Lib.hid (show ∀ (te : TypeId) (k n : Nat) (u : Value) (xs : List Value), w2.ownsRow w.heap.size te k u n xs → te ≠ 26 → w4.ownsRow w.heap.size te k u n xs from fun _ _ _ _ _ ho hne => by rw [hw4]; exact own_setCell (own_below ho hgb) k33 hne _)
  clear hno hg3 k13 k23 k33 hb3 hw4 k14 k24 k34 ho14 hb4 q1 q2 q3 q4 ho1 hgb
  go_simp
  go_wp2_with fail
  rw [← Hww4.out]
  clear hr
  obtain ⟨i0, q1, q2, q3, q4⟩ := info_parts infoItR
  have hno : w4.ownsRow w4.heap.size 72 4 (.slice none 0 0) 0 [] := World.ownsRow_nil _ _ _ _
  obtain ⟨v1, w5, hr, ho1, hg3⟩ := run_append_rows (P := Tryz.prog) w4 w4.heap.size 23 72 Tryz.underlying23 q1 q2 q3 q4 rfl (by decide) _ _ _ hno _ _ _ _ (HM.out w4 HBw4.out).items (one_encIt _) (by unfold maxLen; omega) (by omega) (Nat.le_refl _)
  rw [Nat.zero_add, List.nil_append] at ho1
  have hgb : Below w4.heap.size w4 w5 := Below.grownOwn hno hg3 (Nat.le_refl _) (Nat.le_refl _)
  obtain ⟨b1, d1, rfl⟩ := own_shape ho1
  have k13 := K1w4.out.grownNe hno (by decide) hg3
  have k23 := K2w4.out.grownNe hno (by decide) hg3
  have k33 := K3w4.out.grownNe hno (by decide) hg3
  have hb3 : Below w.heap.size w w5 := HBw4.out.trans (hgb.mono HBw4.out.size)
  obtain ⟨w6, hw4⟩ : ∃ w4, w4 = w5.setCell ⟨w.heap.size + 1 + 1, 1, none⟩ (.slice b1 m.items.length d1) := ⟨_, rfl⟩
  have k14 : Blk w6 w.heap.size [.slice a1 m.seen.length p1, .slice a2 m.items.length p2, .slice a3 m.gone.length p3] 26 := by rw [hw4]; exact k13.set_other _ (by show w.heap.size ≠ w.heap.size + 1 + 1; omega)
  have k24 : Blk w6 (w.heap.size + 1) [.slice none 0 0, .slice none 0 0, .slice none 0 0] 26 := by rw [hw4]; exact k23.set_other _ (by show w.heap.size + 1 ≠ w.heap.size + 1 + 1; omega)
  have k34 : Blk w6 (w.heap.size + 1 + 1) [.slice b0 m.seen.length d0, .slice b1 m.items.length d1, .slice none 0 0] 26 := by rw [hw4]; exact k33.set 1 _
  have ho14 : w6.ownsRow w.heap.size 72 4 (.slice b1 m.items.length d1) m.items.length (m.items.flatMap encIt) := by rw [hw4]; exact own_base (own_setCell ho1 k33 (by decide) _) HBw4.out.size
  have hb4 : Below w.heap.size w w6 := by rw [hw4]; exact hb3.setCell (by show w.heap.size ≤ w.heap.size + 1 + 1; omega) _
  try clear c0 c1 c2
  try clear g0 g1 g2 g3 g4 g5
  try clear e0 e1 e2 f0
  obtain ⟨e0, e1, e2⟩ := cell3 k33
  have f0 := k33.free 1
  obtain ⟨c0, c1, c2⟩ := cell3 k13
  obtain ⟨g0, g1, g2⟩ := cell3 k23
  have g3 := k23.free 0; have g4 := k23.free 1; have g5 := k23.free 2
  have Hww6 := Lib.hid hw4; have K1w6 := Lib.hid k14; have K2w6 := Lib.hid k24; have K3w6 := Lib.hid k34; have How6 := Lib.hid ho14; have HBw6 := Lib.hid hb4
  have HCw6 := Lib.hid (show ∀ (te : TypeId) (k n : Nat) (u : Value) (xs : List Value), w4.ownsRow w.heap.size te k u n xs → te ≠ 26 → w6.ownsRow w.heap.size te k u n xs from fun _ _ _ _ _ ho hne => by rw [hw4]; exact own_setCell (own_below ho hgb) k33 hne _)
  clear hno hg3 k13 k23 k33 hb3 hw4 k14 k24 k34 ho14 hb4 q1 q2 q3 q4 ho1 hgb
  go_simp
  go_wp2_with fail
  rw [← Hww6.out]
  clear hr
  obtain ⟨i0, q1, q2, q3, q4⟩ := info_parts infoGoR
  have hno : w6.ownsRow w6.heap.size 74 3 (.slice none 0 0) 0 [] := World.ownsRow_nil _ _ _ _
  obtain ⟨v1, w7, hr, ho1, hg3⟩ := run_append_rows (P := Tryz.prog) w6 w6.heap.size 24 74 Tryz.underlying24 q1 q2 q3 q4 rfl (by decide) _ _ _ hno _ _ _ _ (HM.out w6 HBw6.out).gone (one_encGo _) (by unfold maxLen; omega) (by omega) (Nat.le_refl _)
  rw [Nat.zero_add, List.nil_append] at ho1
  have hgb : Below w6.heap.size w6 w7 := Below.grownOwn hno hg3 (Nat.le_refl _) (Nat.le_refl _)
  obtain ⟨b2, d2, rfl⟩ := own_shape ho1
  have k13 := K1w6.out.grownNe hno (by decide) hg3
  have k23 := K2w6.out.grownNe hno (by decide) hg3
  have k33 := K3w6.out.grownNe hno (by decide) hg3
  have hb3 : Below w.heap.size w w7 := HBw6.out.trans (hgb.mono HBw6.out.size)
  obtain ⟨w8, hw4⟩ : ∃ w4, w4 = w7.setCell ⟨w.heap.size + 1 + 1, 2, none⟩ (.slice b2 m.gone.length d2) := ⟨_, rfl⟩
  have k14 : Blk w8 w.heap.size [.slice a1 m.seen.length p1, .slice a2 m.items.length p2, .slice a3 m.gone.length p3] 26 := by rw [hw4]; exact k13.set_other _ (by show w.heap.size ≠ w.heap.size + 1 + 1; omega)
  have k24 : Blk w8 (w.heap.size + 1) [.slice none 0 0, .slice none 0 0, .slice none 0 0] 26 := by rw [hw4]; exact k23.set_other _ (by show w.heap.size + 1 ≠ w.heap.size + 1 + 1; omega)
  have k34 : Blk w8 (w.heap.size + 1 + 1) [.slice b0 m.seen.length d0, .slice b1 m.items.length d1, .slice b2 m.gone.length d2] 26 := by rw [hw4]; exact k33.set 2 _
  have ho14 : w8.ownsRow w.heap.size 74 3 (.slice b2 m.gone.length d2) m.gone.length (m.gone.flatMap encGo) := by rw [hw4]; exact own_base (own_setCell ho1 k33 (by decide) _) HBw6.out.size
  have hb4 : Below w.heap.size w w8 := by rw [hw4]; exact hb3.setCell (by show w.heap.size ≤ w.heap.size + 1 + 1; omega) _
  try clear c0 c1 c2
  try clear g0 g1 g2 g3 g4 g5
  try clear e0 e1 e2 f0
  obtain ⟨e0, e1, e2⟩ := cell3 k33
  have f0 := k33.free 2
  obtain ⟨c0, c1, c2⟩ := cell3 k13
  obtain ⟨g0, g1, g2⟩ := cell3 k23
  have g3 := k23.free 0; have g4 := k23.free 1; have g5 := k23.free 2
  have Hww8 := Lib.hid hw4; have K1w8 := Lib.hid k14; have K2w8 := Lib.hid k24; have K3w8 := Lib.hid k34; have How8 := Lib.hid ho14; have HBw8 := Lib.hid hb4
  have HCw8 := Lib.hid (show ∀ (te : TypeId) (k n : Nat) (u : Value) (xs : List Value), w6.ownsRow w.heap.size te k u n xs → te ≠ 26 → w8.ownsRow w.heap.size te k u n xs from fun _ _ _ _ _ ho hne => by rw [hw4]; exact own_setCell (own_below ho hgb) k33 hne _)
  clear hno hg3 k13 k23 k33 hb3 hw4 k14 k24 k34 ho14 hb4 q1 q2 q3 q4 ho1 hgb
  go_simp
  go_wp2_with fail
  rw [← Hww8.out]
  clear hr
  obtain ⟨wf, hwf, hblk, hbf⟩ := fin3 K2w8.out HBw8.out (Nat.le_succ _) (.slice b0 m.seen.length d0) (.slice b1 m.items.length d1) (.slice b2 m.gone.length d2)
  rw [← hwf]
  obtain ⟨t0, t1, t2⟩ := cell3 hblk
  have hin : RefIn w8 w.heap.size (.slice b0 m.seen.length d0) (.slice b1 m.items.length d1) (.slice b2 m.gone.length d2) m := ⟨HCw8.out _ _ _ _ _ (HCw6.out _ _ _ _ _ How4.out (by decide)) (by decide), HCw8.out _ _ _ _ _ How6.out (by decide), How8.out⟩
  have hfin : RefIn wf w.heap.size (.slice b0 m.seen.length d0) (.slice b1 m.items.length d1) (.slice b2 m.gone.length d2) m := by
    rw [hwf]
    exact ((hin.setCell K2w8.out _).setCell (K2w8.out.set 0 _) _).setCell ((K2w8.out.set 0 _).set 1 _) _
  exact bodyPost_ret (v := .agg #[.slice b0 m.seen.length d0, .slice b1 m.items.length d1, .slice b2 m.gone.length d2]) (by simp [results, Tryz.results61, go_sem, t0, t1, t2]) rfl ⟨⟨_, _, _, rfl, hfin⟩, hbf⟩

set_option maxRecDepth 100000 in
set_option maxHeartbeats 1500000 in
theorem rfull_any (w : World) (F : Blks) (v : Value) (m : RMap) (h : MapV F w v m) (hki : ∀ x ∈ m.items, x.key.length ≤ 1000000000) (hkg : ∀ x ∈ m.gone, x.key.length ≤ 1000000000) :
    Calls Tryz.prog 64 #[v] w fun e w' => e = .returned (.tuple #[if validR m then v else .agg #[.slice none 0 0, .slice none 0 0, .slice none 0 0], .int .i64 (if validR m then 0 else 7)]) ∧ Below w.heap.size w w' := by
  replace h := h.mono (G := fun b => b < w.heap.size) fun b _ hlt => hlt
  obtain ⟨s1, s2, s3, rfl, h⟩ := h
  obtain ⟨a1, p1, rfl, -⟩ := h.seen.shape
  obtain ⟨a2, p2, rfl, -⟩ := h.items.shape
  obtain ⟨a3, p3, rfl, -⟩ := h.gone.shape
  have l1 := h.seen.len
  have l2 := h.items.len
  have l3 := h.gone.len
  unfold maxLen at l1 l2 l3
  obtain ⟨n1, hn1⟩ : ∃ n, m.seen.length = n := ⟨_, rfl⟩
  obtain ⟨n2, hn2⟩ : ∃ n, m.items.length = n := ⟨_, rfl⟩
  obtain ⟨n3, hn3⟩ : ∃ n, m.gone.length = n := ⟨_, rfl⟩
  rw [hn1, hn2, hn3] at h
  rw [hn1] at l1 ⊢
  rw [hn2] at l2 ⊢
  rw [hn3] at l3 ⊢
  obtain ⟨wx, hwx⟩ : ∃ wx, wx = w.alloc (.cells #[.slice a1 n1 p1, .slice a2 n2 p2, .slice a3 n3 p3] 26) := ⟨_, rfl⟩
  have hbx : Below w.heap.size w wx := by rw [hwx]; exact kept_alloc _ _
  have hzx : wx.heap.size = w.heap.size + 1 := by rw [hwx]; simp
  have hx := h.keep (w' := wx) fun b _ hlt => hbx.block b hlt
  have hnx : Blk wx w.heap.size [.slice a1 n1 p1, .slice a2 n2 p2, .slice a3 n3 p3] 26 := by rw [hwx]; exact Blk.new _ _ _
  have Hx := Lib.hid hx; have Hn1 := Lib.hid hn1; have Hn2 := Lib.hid hn2; have Hn3 := Lib.hid hn3
  have Hwx := Lib.hid hwx; have Hbx := Lib.hid hbx; have Hzx := Lib.hid hzx
  have c0 := hnx.cell 0
  have c1 := hnx.cell 1
  have c2 := hnx.cell 2
  simp at c0 c1 c2
  have Hnx := Lib.hid hnx
  clear hx hn1 hn2 hn3 hwx hbx hnx hzx
  clear h
  obtain ⟨w2, hw2⟩ : ∃ w2, w2 = wx.alloc (.cells #[.slice none 0 0, .slice none 0 0, .slice none 0 0] 26) := ⟨_, rfl⟩
  have hb2 : Below w.heap.size w w2 := by rw [hw2]; exact Hbx.out.alloc Hbx.out.size _
  have hz2 : w2.heap.size = w.heap.size + 2 := by rw [hw2]; simp [Hzx.out]
  have k1 : Blk w2 w.heap.size [.slice a1 n1 p1, .slice a2 n2 p2, .slice a3 n3 p3] 26 := by rw [hw2]; exact Hnx.out.alloc _
  have k2 : Blk w2 (w.heap.size + 1) [.slice none 0 0, .slice none 0 0, .slice none 0 0] 26 := by
    have := Blk.new wx #[.slice none 0 0, .slice none 0 0, .slice none 0 0] 26
    rw [hw2, ← Hzx.out]; exact this
  have hm2 := Hx.out.keep (w' := w2) fun b _ hlt => by rw [hw2]; exact Below.heap_alloc _ _ _ hlt
  have HC := Lib.hid (rvalid2_any w2 _ (.agg #[.slice a1 n1 p1, .slice a2 n2 p2, .slice a3 n3 p3]) m ⟨_, _, _, rfl, hm2⟩ hki hkg)
  obtain ⟨ok, hok⟩ : ∃ ok, validR m = ok := ⟨_, rfl⟩
  rw [hok] at HC ⊢
  have Hw2 := Lib.hid hw2; have Hb2 := Lib.hid hb2; have K1 := Lib.hid k1; have K2 := Lib.hid k2; have Hz2 := Lib.hid hz2
  clear hw2 hb2 k1 k2 hm2 hz2 Hx Hnx hok hki hkg c0 c1 c2
  go_enter Tryz.func64, Tryz.ntmps64
  go_wp2_with fail
  rw [← Hwx.out, ← Hw2.out]
  refine HC.out.mono ?_
  rintro e w3 ⟨rfl, hb3⟩
  have kk := K1.out.keep (hb3.block _ K1.out.lt)
  have kr := K2.out.keep (hb3.block _ K2.out.lt)
  have d0 := kk.cell 0
  have d1 := kk.cell 1
  have d2 := kk.cell 2
  simp at d0 d1 d2
  have y0 := kr.cell 0
  have y1 := kr.cell 1
  have y2 := kr.cell 2
  have z0 := kr.free 0
  have z1 := kr.free 1
  have z2 := kr.free 2
  simp at y0 y1 y2
  have hb3' : Below w.heap.size w w3 := Hb2.out.trans (hb3.mono Hb2.out.size)
  have hfin : ∀ s1 s2 s3 : Value, ∃ wf, wf = ((w3.setCell ⟨w.heap.size + 1, 0, none⟩ s1).setCell ⟨w.heap.size + 1, 1, none⟩ s2).setCell ⟨w.heap.size + 1, 2, none⟩ s3 ∧ Blk wf (w.heap.size + 1) [s1, s2, s3] 26 ∧ Below w.heap.size w wf := fun s1 s2 s3 =>
    ⟨_, rfl, set3 _ kr rfl, ((hb3'.setCell (p := ⟨w.heap.size + 1, 0, none⟩) (Nat.le_succ _) _).setCell (p := ⟨w.heap.size + 1, 1, none⟩) (Nat.le_succ _) _).setCell (p := ⟨w.heap.size + 1, 2, none⟩) (Nat.le_succ _) _⟩
  cases ok with
  | true =>
    obtain ⟨wf, hwf, hblk, hbf⟩ := hfin (.slice a1 n1 p1) (.slice a2 n2 p2) (.slice a3 n3 p3)
    have Q0 := Lib.hid (hblk.cell 0); have Q1 := Lib.hid (hblk.cell 1); have Q2 := Lib.hid (hblk.cell 2)
    have Hbf := Lib.hid hbf; have Hwf := Lib.hid hwf
    clear hfin hwf hblk hbf kk kr HC hb3 hb3'
    go_wp2_with fail
    rw [← Hwf.out]
    have q0 := Q0.out
    have q1 := Q1.out
    have q2 := Q2.out
    simp at q0 q1 q2
    refine bodyPost_ret (v := .tuple #[.agg #[.slice a1 n1 p1, .slice a2 n2 p2, .slice a3 n3 p3], .int .i64 0]) (by simp [results, Tryz.results64, go_sem, q0, q1, q2]) rfl ⟨rfl, Hbf.out⟩
  | false =>
    obtain ⟨wf, hwf, hblk, hbf⟩ := hfin (.slice none 0 0) (.slice none 0 0) (.slice none 0 0)
    have Q0 := Lib.hid (hblk.cell 0); have Q1 := Lib.hid (hblk.cell 1); have Q2 := Lib.hid (hblk.cell 2)
    have Hbf := Lib.hid hbf; have Hwf := Lib.hid hwf
    clear hfin hwf hblk hbf kk kr HC hb3 hb3'
    go_wp2_with fail
    rw [← Hwf.out]
    have q0 := Q0.out
    have q1 := Q1.out
    have q2 := Q2.out
    simp at q0 q1 q2
    refine bodyPost_ret (v := .tuple #[.agg #[.slice none 0 0, .slice none 0 0, .slice none 0 0], .int .i64 7]) (by simp [results, Tryz.results64, go_sem, q0, q1, q2]) rfl ⟨rfl, Hbf.out⟩
end Go.Proofs.YtbjkkmabafaogaaGreatDoor
/- The reference: Use. -/
namespace Go.Proofs.YtbjkkmabafaogaaGreatDoor
open Go.RowKit
set_option linter.unusedVariables false
set_option maxRecDepth 20000
attribute [local go_sem ↓] seal_append
attribute [local go_sem] opC upC

theorem put_len {α : Type} (pl : α → RPl) (l : List α) (x : α) : (putL pl l x).length ≤ l.length + 1 := by
  unfold putL
  rw [List.length_append, List.length_cons]
  have h1 := List.length_filter_le (fun e => decide (pl e ≠ pl x)) (l.dropWhile fun e => decide (plt (pl e) (pl x)))
  have h2 := congrArg List.length (List.takeWhile_append_dropWhile (p := fun e => decide (plt (pl e) (pl x))) (l := l))
  rw [List.length_append] at h2
  omega
def scanStep (d now : Int) (key : RKey) (v : Int) (x : RIt) : Int := if x.pl = (key, d) then decUse x.val (now - x.seq) else v
def scanV (l : List RIt) (d now : Int) (key : RKey) (j : Nat) : Int := (l.take j).foldl (scanStep d now key) 65536
theorem scan_zero (l : List RIt) (d now : Int) (key : RKey) : scanV l d now key 0 = 65536 := rfl
theorem scan_succ (l : List RIt) (d now : Int) (key : RKey) (j : Nat) (h : j < l.length) : scanV l d now key (j + 1) = scanStep d now key (scanV l d now key j) l[j] := by
  unfold scanV
  rw [List.take_succ_eq_append_getElem h, List.foldl_append]
  rfl
theorem scan_none (d now : Int) (key : RKey) : ∀ (l : List RIt) (v : Int), (∀ x ∈ l, x.pl ≠ (key, d)) → l.foldl (scanStep d now key) v = v
  | [], v, _ => rfl
  | x :: l, v, h => by
    rw [List.foldl_cons, scanStep, if_neg (h x List.mem_cons_self)]
    exact scan_none d now key l v fun y hy => h y (List.mem_cons_of_mem _ hy)
theorem scan_asc (d now : Int) (key : RKey) : ∀ (l : List RIt) (v : Int), Asc RIt.pl l → l.foldl (scanStep d now key) v = match look RIt.pl l (key, d) with | some o => decUse o.val (now - o.seq) | none => v
  | [], v, _ => rfl
  | x :: l, v, h => by
    rw [List.foldl_cons, look_cons]
    by_cases hx : x.pl = (key, d)
    · rw [if_pos hx, scan_none d now key l _ (fun y hy e => plt_ne ((List.pairwise_cons.1 h).1 y hy) (hx.trans e.symm)), scanStep, if_pos hx]
    · rw [if_neg hx, scanStep, if_neg hx]
      exact scan_asc d now key l v (List.pairwise_cons.1 h).2
theorem scan_all (m : RMap) (d : Int) (key : RKey) (h : Asc RIt.pl m.items) : (⟨key, d, nowR m d, scanV m.items d (nowR m d) key m.items.length⟩ : RIt) = refItem m d key := by
  unfold scanV refItem
  rw [List.take_length, scan_asc d _ key _ _ h]
  cases look RIt.pl m.items (key, d) <;> rfl

def RPost (w : World) (mr : RMap × Int) (e : Ending) (w' : World) : Prop := ∃ r, e = .returned (.tuple #[r, .int .i64 mr.2]) ∧ MapV (fun b => w.heap.size ≤ b) w' r mr.1 ∧ Below w.heap.size w w'
theorem mapV_empty (F : Blks) (w : World) : MapV F w (.agg #[.slice none 0 0, .slice none 0 0, .slice none 0 0]) .empty := ⟨_, _, _, rfl, Rows.nil _ _ _, Rows.nil _ _ _, Rows.nil _ _ _, nofun, nofun, nofun⟩

set_option maxRecDepth 100000 in
set_option maxHeartbeats 8000000 in
theorem ruse_any (w : World) (F : Blks) (v : Value) (m : RMap) (h : MapV F w v m) (hki : ∀ x ∈ m.items, x.key.length ≤ 1000000000) (hkg : ∀ x ∈ m.gone, x.key.length ≤ 1000000000)
    (d : Int) (G : Blks) (lv : Value) (l : List RKey) (hlv : Rows G w 1 lv l.length (l.map eS)) (hl : l.length ≤ 100000) (hk : ∀ k ∈ l, k.length ≤ 1000000000) :
    Calls Tryz.prog 27 #[v, .int .i64 d, lv] w (RPost w (useR m d l)) := by
  replace h := h.mono (G := fun b => b < w.heap.size) fun b _ hlt => hlt
  replace hlv := hlv.mono (G := fun b => b < w.heap.size) fun b _ hlt => hlt
  obtain ⟨s1, s2, s3, rfl, h⟩ := h
  obtain ⟨a1, p1, rfl, -⟩ := h.seen.shape
  obtain ⟨a2, p2, rfl, -⟩ := h.items.shape
  obtain ⟨a3, p3, rfl, -⟩ := h.gone.shape
  obtain ⟨wx, hwx⟩ : ∃ wx, wx = w.alloc (.cells #[.slice a1 m.seen.length p1, .slice a2 m.items.length p2, .slice a3 m.gone.length p3] 26) := ⟨_, rfl⟩
  have hbx : Below w.heap.size w wx := by rw [hwx]; exact kept_alloc _ _
  have hzx : wx.heap.size = w.heap.size + 1 := by rw [hwx]; simp
  have hx := h.keep (w' := wx) fun b _ hlt => hbx.block b hlt
  have hnx : Blk wx w.heap.size [.slice a1 m.seen.length p1, .slice a2 m.items.length p2, .slice a3 m.gone.length p3] 26 := by rw [hwx]; exact Blk.new _ _ _
  have Hx := Lib.hid hx
  have Hwx := Lib.hid hwx; have Hbx := Lib.hid hbx; have Hzx := Lib.hid hzx
  have Hnx := Lib.hid hnx
  clear hx hwx hbx hnx hzx h
  obtain ⟨al, cl, rfl, -⟩ := hlv.shape
  obtain ⟨w2, hw2⟩ : ∃ w2, w2 = wx.alloc (.cells #[.slice none 0 0, .slice none 0 0, .slice none 0 0] 26) := ⟨_, rfl⟩
  have hb2 : Below w.heap.size w w2 := by rw [hw2]; exact Hbx.out.alloc Hbx.out.size _
  have hz2 : w2.heap.size = w.heap.size + 2 := by rw [hw2]; simp [Hzx.out]
  have k1 : Blk w2 w.heap.size [.slice a1 m.seen.length p1, .slice a2 m.items.length p2, .slice a3 m.gone.length p3] 26 := by rw [hw2]; exact Hnx.out.alloc _
  have k2 : Blk w2 (w.heap.size + 1) [.slice none 0 0, .slice none 0 0, .slice none 0 0] 26 := by
    have := Blk.new wx #[.slice none 0 0, .slice none 0 0, .slice none 0 0] 26
    rw [hw2, ← Hzx.out]; exact this
  have HR := Lib.hid (show ∀ W, Below w2.heap.size w2 W → Below w.heap.size w W ∧ Blk W w.heap.size [.slice a1 m.seen.length p1, .slice a2 m.items.length p2, .slice a3 m.gone.length p3] 26 ∧ Blk W (w.heap.size + 1) [.slice none 0 0, .slice none 0 0, .slice none 0 0] 26 ∧ MapIn (fun b => b < w.heap.size) W (.slice a1 m.seen.length p1) (.slice a2 m.items.length p2) (.slice a3 m.gone.length p3) m ∧ Rows (fun b => b < w.heap.size) W 1 (.slice al l.length cl) l.length (l.map eS) from fun W hb => by
    have hB : Below w.heap.size w W := hb2.trans (hb.mono (by omega))
    exact ⟨hB, k1.keep (hb.block _ k1.lt), k2.keep (hb.block _ k2.lt), Hx.out.keep (w' := W) fun b hlt _ => (hB.block b hlt).trans (Hbx.out.block b hlt).symm, hlv.keep (w' := W) fun b hlt _ => hB.block b hlt⟩)
  have HV := Lib.hid (rvalid2_any w2 _ (.agg #[.slice a1 m.seen.length p1, .slice a2 m.items.length p2, .slice a3 m.gone.length p3]) m ⟨_, _, _, rfl, (HR.out w2 (Below.refl _ _)).2.2.2.1⟩ hki hkg)
  obtain ⟨ok, hok⟩ : ∃ ok, validR m = ok := ⟨_, rfl⟩
  rw [hok] at HV
  obtain ⟨c0, c1, c2⟩ := cell3 k1
  have Hw2 := Lib.hid hw2; have Hz2 := Lib.hid hz2; have Hok := Lib.hid hok
  clear hw2 hb2 hz2 k1 k2 hlv hok
  go_enter Tryz.func27, Tryz.ntmps27
  go_wp2_with fail
  rw [← Hwx.out, ← Hw2.out]
  refine HV.out.mono ?_
  rintro e w3 ⟨rfl, hb3⟩
  clear HV c0 c1 c2
  cases ok with
  | false =>
    have Hu := Lib.hid (show useR m d l = (.empty, 5) by unfold useR; rw [Hok.out]; rfl)
    have kr := (HR.out w3 hb3).2.2.1
    have hbel := (HR.out w3 hb3).1
    clear hb3
    obtain ⟨wf, hwf, hblk, hbf⟩ := fin3 kr hbel (Nat.le_succ _) (.slice none 0 0) (.slice none 0 0) (.slice none 0 0)
    obtain ⟨y0, y1, y2⟩ := cell3 kr
    have z0 := kr.free 0
    have z1 := kr.free 1
    have z2 := kr.free 2
    have Q := Lib.hid (cell3 hblk)
    have Hbf := Lib.hid hbf; have Hwf := Lib.hid hwf
    clear hwf hblk hbf
    go_wp2_with fail
    rw [← Hwf.out]
    obtain ⟨q0, q1, q2⟩ := Q.out
    exact bodyPost_ret (v := .tuple #[.agg #[.slice none 0 0, .slice none 0 0, .slice none 0 0], .int .i64 5]) (by simp [results, Tryz.results27, go_sem, q0, q1, q2]) rfl ⟨_, by rw [Hu.out], by rw [Hu.out]; exact mapV_empty _ _, Hbf.out⟩
  | true =>
    have HA := Lib.hid (rallowed_any w3 _ _ d l (HR.out w3 hb3).2.2.2.2 (by omega) hk)
    obtain ⟨oka, hal⟩ : ∃ oka, allowedR d l = oka := ⟨_, rfl⟩
    rw [hal] at HA
    have Hal := Lib.hid hal
    have HL3 := Lib.hid hb3
    clear hal hb3
    go_wp2_with fail
    refine HA.out.mono ?_
    rintro e w4 ⟨rfl, hb4⟩
    have hL4 : Below w2.heap.size w2 w4 := HL3.out.trans (hb4.mono HL3.out.size)
    clear HA hb4
    cases oka with
    | false =>
      have Hu := Lib.hid (show useR m d l = (.empty, 1) by unfold useR; rw [Hok.out, Hal.out]; rfl)
      have kr := (HR.out w4 hL4).2.2.1
      have hbel := (HR.out w4 hL4).1
      clear hL4
      obtain ⟨wf, hwf, hblk, hbf⟩ := fin3 kr hbel (Nat.le_succ _) (.slice none 0 0) (.slice none 0 0) (.slice none 0 0)
      obtain ⟨y0, y1, y2⟩ := cell3 kr
      have z0 := kr.free 0
      have z1 := kr.free 1
      have z2 := kr.free 2
      have Q := Lib.hid (cell3 hblk)
      have Hbf := Lib.hid hbf; have Hwf := Lib.hid hwf
      clear hwf hblk hbf
      go_wp2_with fail
      rw [← Hwf.out]
      obtain ⟨q0, q1, q2⟩ := Q.out
      exact bodyPost_ret (v := .tuple #[.agg #[.slice none 0 0, .slice none 0 0, .slice none 0 0], .int .i64 1]) (by simp [results, Tryz.results27, go_sem, q0, q1, q2]) rfl ⟨_, by rw [Hu.out], by rw [Hu.out]; exact mapV_empty _ _, Hbf.out⟩
    | true =>
      have ha := (allowed_iff d l).1 Hal.out
      have f := valid_formed Hok.out
      have hn8 := f.len
      have hni : m.items.length ≤ 4096 := by have := Hok.out; unfold validR at this; simp at this; omega
      have hng : m.gone.length ≤ 4096 := by have := Hok.out; unfold validR at this; simp at this; omega
      obtain ⟨c0, c1, c2⟩ := cell3 (HR.out w4 hL4).2.1
      have HC := Lib.hid (rcopy_any w4 _ (.agg #[.slice a1 m.seen.length p1, .slice a2 m.items.length p2, .slice a3 m.gone.length p3]) m ⟨_, _, _, rfl, (HR.out w4 hL4).2.2.2.1⟩ (by omega) (by omega) (by omega))
      have HL4 := Lib.hid hL4
      have Ha := Lib.hid ha; have Hf := Lib.hid f; have Hn8 := Lib.hid hn8
      clear hL4 ha f hn8
      go_wp2_with fail
      refine HC.out.mono ?_
      rintro e w5 ⟨⟨s1, s2, s3, rfl, ho⟩, hb5⟩
      have hL5 : Below w2.heap.size w2 w5 := HL4.out.trans (hb5.mono HL4.out.size)
      obtain ⟨b1, e1, hs1⟩ := own_shape ho.seen
      obtain ⟨b2, e2, rfl⟩ := own_shape ho.items
      obtain ⟨b3, e3, rfl⟩ := own_shape ho.gone
      subst hs1
      obtain ⟨g, rfl⟩ : ∃ g, b1 = some ⟨g, 0, none⟩ := by
        rcases ho.seen.2 with ⟨_, h0⟩ | ⟨g, cap, cur, hv, _⟩
        · have := Hn8.out; omega
        · simp at hv; exact ⟨g, hv.1⟩
      obtain ⟨q, rfl⟩ := Int.eq_ofNat_of_zero_le Ha.out.lo
      have hq8 := Ha.out.hi
      have hq : q < m.seen.length := by have := Hn8.out; omega
      have hqI : (q : Int) < (m.seen.length : Int) := by omega
      obtain ⟨x, hx⟩ : ∃ x, m.seen[q] = x := ⟨_, rfl⟩
      obtain ⟨hx0, hx1⟩ := Hf.out.seen x (by rw [← hx]; exact List.getElem_mem hq)
      have hnow : nowR m q = x + 1 := by
        unfold nowR
        rw [Int.toNat_natCast, List.getD_eq_getElem?_getD, List.getElem?_eq_getElem hq, hx]
        rfl
      obtain ⟨hg1, hg2⟩ : w4.heap.size ≤ g ∧ g < w5.heap.size := by
        rcases ho.seen.2 with ⟨hh, _⟩ | ⟨g', cap, cur, hv, hb, hg, _⟩
        · simp at hh
        · simp at hv; obtain ⟨rfl, -⟩ := hv; exact ⟨hb, lt_of_block hg⟩
      have e0 : w5.cell? ⟨g, q, none⟩ = some (.int .i64 x) := by
        rw [ho.seen.cellAt q (by simpa using hq)]
        simp [hq, hx]
      have f0 := ho.seen.frozenAt q
      obtain ⟨hst, hgr⟩ := ho.seen.stored q (.int .i64 (x + 1))
      obtain ⟨w6, hw6⟩ : ∃ w6, w6 = w5.setCell ⟨g, q, none⟩ (.int .i64 (x + 1)) := ⟨_, rfl⟩
      rw [← hw6] at hst hgr
      have hz6 : w6.heap.size = w5.heap.size := by rw [hw6]; simp [World.setCell]
      have ho6 : RefIn w6 w4.heap.size (.slice (some ⟨g, 0, none⟩) m.seen.length e1) (.slice b2 m.items.length e2) (.slice b3 m.gone.length e3) ⟨seenUp m q, m.items, m.gone⟩ := by
        refine ⟨?_, own_grownNe ho.items ho.seen (by decide) hgr, own_grownNe ho.gone ho.seen (by decide) hgr⟩
        have h2 : (seenUp m q).length = m.seen.length := up_len m q
        have h3 : (seenUp m q).map eI = (m.seen.map eI).set q (.int .i64 (x + 1)) := by
          unfold seenUp
          rw [List.map_set, Int.toNat_natCast, List.getD_eq_getElem?_getD, List.getElem?_eq_getElem hq, hx]
          rfl
        show w6.ownsRow w4.heap.size 3 1 _ (seenUp m q).length ((seenUp m q).map eI)
        rw [h2, h3]
        exact hst
      obtain ⟨w7, hw7⟩ : ∃ w7, w7 = w6.alloc (.cells #[.slice (some ⟨g, 0, none⟩) m.seen.length e1, .slice b2 m.items.length e2, .slice b3 m.gone.length e3] 26) := ⟨_, rfl⟩
      have hb7 : Below w6.heap.size w6 w7 := by rw [hw7]; exact kept_alloc _ _
      have ho7 := ho6.below hb7
      have kO7 : Blk w7 w5.heap.size [.slice (some ⟨g, 0, none⟩) m.seen.length e1, .slice b2 m.items.length e2, .slice b3 m.gone.length e3] 26 := by rw [hw7, ← hz6]; exact Blk.new _ _ _
      have hL7 : Below w2.heap.size w2 w7 := by
        have h6 : Below w2.heap.size w2 w6 := by
          rw [hw6]
          exact hL5.setCell (by have := HL4.out.size; show w2.heap.size ≤ g; omega) _
        exact h6.trans (hb7.mono h6.size)
      have hglt : g < w5.heap.size + 1 := by omega
      have hgne : g ≠ w5.heap.size := by omega
      have Hw7 := Lib.hid (show w7 = (w5.setCell ⟨g, q, none⟩ (.int .i64 (x + 1))).alloc (.cells #[.slice (some ⟨g, 0, none⟩) m.seen.length e1, .slice b2 m.items.length e2, .slice b3 m.gone.length e3] 26) by rw [hw7, hw6])
      have hz7 : w7.heap.size = w5.heap.size + 1 := by rw [hw7]; simp [hz6]
      have Ho7 := Lib.hid ho7; have KO7 := Lib.hid kO7; have HL7 := Lib.hid hL7; have Hnow := Lib.hid hnow; have HL5 := Lib.hid hL5; have Hz7 := Lib.hid hz7
      have Hz5 := Lib.hid hL5.size
      have Hz45 := Lib.hid (show w2.heap.size ≤ w4.heap.size from HL4.out.size)
      clear HC hb5 hL5 ho6 hst hgr hw7 hw6 ho7 kO7 hL7 hnow c0 c1 c2 hx ho hq hb7 hz6 hz7
      go_wp2_with fail
      rw [← Hw7.out]
      clear e0 f0 hglt hgne hg1 hg2
      go_loopw [10] (fun i wr => ∃ k : Nat, k ≤ l.length ∧ i = .int .i64 (k : Int) ∧ Below w2.heap.size w2 wr ∧ ∃ si, Blk wr w5.heap.size [.slice (some ⟨g, 0, none⟩) m.seen.length e1, si, .slice b3 m.gone.length e3] 26 ∧ RefIn wr w2.heap.size (.slice (some ⟨g, 0, none⟩) m.seen.length e1) si (.slice b3 m.gone.length e3) ⟨seenUp m q, ((l.take k).map (refItem m q)).foldl (putL RIt.pl) m.items, m.gone⟩ ∧ (((l.take k).map (refItem m q)).foldl (putL RIt.pl) m.items).length ≤ 4096 + k) (fun i _ => l.length - (intOf i).toNat)
      case atStart => exact ⟨0, by omega, rfl, HL7.out, _, KO7.out, Ho7.out.mono Hz45.out, by simpa using hni⟩
      case round =>
        obtain ⟨k, hkn0, rfl, hbw, si, hOb, hin, hlen⟩ := hrel
        generalize hcur : ((l.take k).map (refItem m q)).foldl (putL RIt.pl) m.items = cur at hin hlen
        obtain ⟨ai, ci, rfl⟩ := own_shape hin.items
        dsimp only at hOb hin hlen ⊢
        have Hcur := Lib.hid hcur; have Hbw := Lib.hid hbw; have HOb := Lib.hid hOb; have Hin := Lib.hid hin; have Hlen := Lib.hid hlen
        clear hcur hbw hOb hin hlen
        obtain ⟨-, kA, -, hMm, hLl⟩ := HR.out wr Hbw.out
        by_cases hkn : k < l.length
        · have hkI : (k : Int) < (l.length : Int) := by omega
          obtain ⟨bl, ol, rfl, -, -, hlc⟩ := str_cell hLl (by omega)
          have e0 := hlc k hkn
          obtain ⟨y, hy⟩ : ∃ y, l[k] = y := ⟨_, rfl⟩
          rw [hy] at e0
          have Hy := Lib.hid hy
          obtain ⟨wX, hwX⟩ : ∃ wX, wX = wr.alloc (.cells #[.string ⟨y.toArray⟩, .int .i64 q, .int .i64 (x + 1), .int .i64 65536] 72) := ⟨_, rfl⟩
          have HwX := Lib.hid hwX
          have hbX : Below wr.heap.size wr wX := by rw [hwX]; exact kept_alloc _ _
          have kX : Blk wX wr.heap.size [.string ⟨y.toArray⟩, .int .i64 q, .int .i64 (x + 1), .int .i64 65536] 72 := by rw [hwX]; exact Blk.new _ _ _
          have HbX := Lib.hid hbX; have KX := Lib.hid kX
          have HF := Lib.hid (show ∀ W, Below wr.heap.size wr W → Below w2.heap.size w2 W ∧ Blk W w.heap.size [.slice a1 m.seen.length p1, .slice a2 m.items.length p2, .slice a3 m.gone.length p3] 26 ∧ MapIn (fun b => b < w.heap.size) W (.slice a1 m.seen.length p1) (.slice a2 m.items.length p2) (.slice a3 m.gone.length p3) m ∧ W.cell? ⟨bl, ol + k, none⟩ = some (.string ⟨y.toArray⟩) from fun W hb => by
            have h1 := Hbw.out.trans (hb.mono Hbw.out.size)
            obtain ⟨-, kA', -, hM', hL'⟩ := HR.out W h1
            obtain ⟨bl', ol', hbb, -, -, hlc'⟩ := str_cell hL' (by omega)
            simp at hbb
            obtain ⟨rfl, rfl⟩ := hbb
            have := hlc' k hkn
            rw [hy] at this
            exact ⟨h1, kA', hM', this⟩)
          clear hlc hy hwX hbX kX kA hMm hLl
          go_wp2_with fail
          rw [← HwX.out]
          clear e0
          go_loopw [12] (fun j wq => ∃ jn : Nat, jn ≤ m.items.length ∧ j = .int .i64 (jn : Int) ∧ Below wr.heap.size wr wq ∧ Blk wq wr.heap.size [.string ⟨y.toArray⟩, .int .i64 q, .int .i64 (x + 1), .int .i64 (scanV m.items q (x + 1) y jn)] 72) (fun j _ => m.items.length - (intOf j).toNat)
          case atStart => exact ⟨0, by omega, rfl, HbX.out, KX.out⟩
          case round =>
            rename World => wq
            obtain ⟨jn, hjn, rfl, hbq, kXq⟩ := hrel
            obtain ⟨hLq, kA, hMq, e0⟩ := HF.out wq hbq
            have Hbq := Lib.hid hbq; have KXq := Lib.hid kXq
            clear hbq kXq
            obtain ⟨c0, c1, c2⟩ := cell3 kA
            by_cases hj : jn < m.items.length
            · have hjI : (jn : Int) < (m.items.length : Int) := by omega
              obtain ⟨bi, oi, rfl, -, -, hic⟩ := it_cell hMq.items (by omega)
              obtain ⟨it, hit⟩ : ∃ it, m.items[jn] = it := ⟨_, rfl⟩
              have HI := Lib.hid (show ∀ W, Below wr.heap.size wr W → W.cell? ⟨bi, oi + jn * 4, none⟩ = some (.string ⟨it.key.toArray⟩) ∧ W.cell? ⟨bi, oi + jn * 4 + 1, none⟩ = some (.int .i64 it.dev) ∧ W.cell? ⟨bi, oi + jn * 4 + 2, none⟩ = some (.int .i64 it.seq) ∧ W.cell? ⟨bi, oi + jn * 4 + 3, none⟩ = some (.int .i64 it.val) from fun W hb => by
                obtain ⟨-, -, hM', -⟩ := HF.out W hb
                obtain ⟨b', o', hbb, -, -, hic'⟩ := it_cell hM'.items (by omega)
                simp at hbb
                obtain ⟨rfl, rfl⟩ := hbb
                have := hic' jn hj
                rw [hit] at this
                exact this)
              have hsq := known_seq (Hf.out.iknown it (by rw [← hit]; exact List.getElem_mem hj))
              have hsg := seen_get Hf.out it.pl.2.toNat
              have hsq1 : 1 ≤ it.seq := hsq.2.2.1
              have hsq2 : it.seq ≤ 1099511627776 := by have := hsq.2.2.2; have := hsg.2; omega
              have Hscan := Lib.hid (show scanV m.items q (x + 1) y (jn + 1) = scanStep q (x + 1) y (scanV m.items q (x + 1) y jn) it by rw [scan_succ _ _ _ _ _ hj, hit])
              have hall : ∀ w', Later wq.drew w' → Below wr.heap.size wr w' := fun w' hh => Hbq.out.drew.trans (RowKit.Below.mono hh Hbq.out.size)
              have pa : ∀ w', Later wq.drew w' → w'.cell? ⟨w.heap.size, 1, none⟩ = some (.slice (some ⟨bi, oi, none⟩) m.items.length p2) := fun w' hh => (cell3 (HF.out w' (hall w' hh)).2.1).2.1
              have pk : ∀ w', Later wq.drew w' → w'.cell? ⟨bl, ol + k, none⟩ = some (.string ⟨y.toArray⟩) := fun w' hh => (HF.out w' (hall w' hh)).2.2.2
              have pi0 : ∀ w', Later wq.drew w' → w'.cell? ⟨bi, oi + jn * 4, none⟩ = some (.string ⟨it.key.toArray⟩) := fun w' hh => (HI.out w' (hall w' hh)).1
              have pi1 : ∀ w', Later wq.drew w' → w'.cell? ⟨bi, oi + jn * 4 + 1, none⟩ = some (.int .i64 it.dev) := fun w' hh => (HI.out w' (hall w' hh)).2.1
              clear hic hit hMq kA hLq hsq hsg e0
              by_cases hpl : it.pl = (y, (q : Int))
              · obtain ⟨hk1, hk2⟩ := Prod.mk.inj hpl
                have g1 : (it.key == y) = true := by simp [show it.key = y from hk1]
                have g2 : (it.dev == (q : Int)) = true := by simp [show it.dev = (q : Int) from hk2]
                have Hst := Lib.hid (show scanV m.items q (x + 1) y (jn + 1) = decUse it.val (x + 1 - it.seq) by rw [Hscan.out, scanStep, if_pos hpl])
                clear hk1 hk2 hpl
                go_wp2_with fail
                refine wp_region_can Later [(0, true), (1, true), (2, true), (3, true), (4, true), (5, true), (6, true), (7, true), (8, true), (9, true), (10, true), (11, true), (12, true), (13, true), (14, true), (15, true), (16, true), (17, true), (18, true), (19, true), (20, true)] (by kernel_rfl) (by kernel_rfl) later_refl later_trans ?_
                repeat (first
                  | (refine can_yes (v := ?_) rfl (wanted_none rfl) (fun w' hC => ?_) (fun K hK => ?_); rotate_left; (focus (go_simp; (try simp (disch := omega) only [IntWalk.i64_in]); first | done | exact rfl)); go_simp; (try simp (disch := omega) only [IntWalk.i64_in]); refine hK _ ?_; clear hK K)
                  | (refine can_guard rfl (fun A B hA hB => ?_); go_simp; first | (refine hA ⟨?_, fun w' hC => ?_, fun K hK => ?_⟩; rotate_left; (focus (go_simp; (try simp (disch := omega) only [IntWalk.i64_in]); first | done | exact rfl)); go_simp; (try simp (disch := omega) only [IntWalk.i64_in]); refine hK _ ?_; clear hK K hA hB A B) | (refine hB (fun K hK => ?_); go_simp; (try simp (disch := omega) only [IntWalk.i64_in]); refine hK _ ?_; clear hK K hA hB A B))
                  | (refine can_guard_go rfl (fun A B hA hB => ?_); go_simp; refine hB (fun K hK => ?_); go_simp; (try simp (disch := omega) only [IntWalk.i64_in]); refine hK _ ?_; clear hK K hA hB A B))
                refine can_nil ?_
                clear pa pk pi0 pi1 hall c0 c1 c2 g1 g2
                obtain ⟨w8, hw8⟩ : ∃ w8, w8 = wq.drew := ⟨_, rfl⟩
                rw [← hw8]
                have hb8 : Below wr.heap.size wr w8 := by rw [hw8]; exact Hbq.out.drew
                have kX8 : Blk w8 wr.heap.size [.string ⟨y.toArray⟩, .int .i64 q, .int .i64 (x + 1), .int .i64 (scanV m.items q (x + 1) y jn)] 72 := by rw [hw8]; exact KXq.out.keep rfl
                have Hb8 := Lib.hid hb8; have KX8 := Lib.hid kX8
                have hall : ∀ w', Later w8.drew w' → Below wr.heap.size wr w' := fun w' hh => Hb8.out.drew.trans (RowKit.Below.mono hh Hb8.out.size)
                have pa : ∀ w', Later w8.drew w' → w'.cell? ⟨w.heap.size, 1, none⟩ = some (.slice (some ⟨bi, oi, none⟩) m.items.length p2) := fun w' hh => (cell3 (HF.out w' (hall w' hh)).2.1).2.1
                have pi2 : ∀ w', Later w8.drew w' → w'.cell? ⟨bi, oi + jn * 4 + 2, none⟩ = some (.int .i64 it.seq) := fun w' hh => (HI.out w' (hall w' hh)).2.2.1
                have pi3 : ∀ w', Later w8.drew w' → w'.cell? ⟨bi, oi + jn * 4 + 3, none⟩ = some (.int .i64 it.val) := fun w' hh => (HI.out w' (hall w' hh)).2.2.2
                clear hw8 hb8 kX8
                go_wp2_with fail
                refine wp_region_canL Later 16 [(0, true), (1, true), (2, true), (3, true), (4, true), (5, true), (6, true), (7, true), (8, true), (9, true), (10, true), (11, true), (12, true), (13, true), (14, false), (15, true), (16, false)] (by kernel_rfl) (by kernel_rfl) (by kernel_rfl) later_refl later_trans ?_
                repeat (refine canL_yes (v := ?_) rfl (wanted_none rfl) (fun w' hC => ?_) (fun K hK => ?_); rotate_left; (focus (go_simp; (try simp (disch := omega) only [IntWalk.i64_in]); first | done | exact rfl)); go_simp; (try simp (disch := omega) only [IntWalk.i64_in]); refine hK _ ?_; clear hK K)
                refine canL_go rfl rfl (fun KK hK => ?_)
                go_simp
                refine (refUse_any _ _ _ (by omega)).mono ?_
                rintro e w9 ⟨rfl, hw9⟩
                refine ⟨_, rfl, by rw [← hw9]; exact later_refl _, hK _ _ ?_⟩
                clear hK KK pa pi2 pi3 hall
                go_simp
                repeat (refine canL_yes (v := ?_) rfl (wanted_none rfl) (fun w' hC => ?_) (fun K hK => ?_); rotate_left; (focus (go_simp; (try simp (disch := omega) only [IntWalk.i64_in]); first | done | exact rfl)); go_simp; (try simp (disch := omega) only [IntWalk.i64_in]); refine hK _ ?_; clear hK K)
                have Hb9 := Lib.hid (show Below wr.heap.size wr w9 by rw [← hw9]; exact Hb8.out.drew)
                have kX9 : Blk w9 wr.heap.size [.string ⟨y.toArray⟩, .int .i64 q, .int .i64 (x + 1), .int .i64 (scanV m.items q (x + 1) y jn)] 72 := by rw [← hw9]; exact KX8.out.keep rfl
                obtain ⟨x0, x1, x2, x3⟩ := cell4 kX9
                have fx3 := kX9.free 3
                have KX9 := Lib.hid kX9
                clear hw9 kX9
                refine canL_last rfl rfl rfl (fun KK hK => ?_)
                go_simp
                refine hK _ _ ?_
                clear hK KK x0 x1 x2 x3 fx3
                go_simp
                refine canL_nil ?_
                obtain ⟨w10, hw10⟩ : ∃ w10, w10 = w9.setCell ⟨wr.heap.size, 3, none⟩ (.int .i64 (decUse it.val (x + 1 - it.seq))) := ⟨_, rfl⟩
                have Hb10 := Lib.hid (show Below wr.heap.size wr w10 by rw [hw10]; exact Hb9.out.setCell (Nat.le_refl _) _)
                have KX10 := Lib.hid (show Blk w10 wr.heap.size [.string ⟨y.toArray⟩, .int .i64 q, .int .i64 (x + 1), .int .i64 (scanV m.items q (x + 1) y (jn + 1))] 72 by rw [Hst.out, hw10]; exact KX9.out.set 3 _)
                have hw10' : w10 = w9.setCell ⟨wr.heap.size, 3, none⟩ (.int .i64 (DM.aft (x + 1 - it.seq).toNat (DM.bnd it.val) + 65536)) := hw10
                rw [← hw10']
                clear hw10 hw10' Hst Hscan
                go_wp2_with fail
                go_roundw
                case rel => exact ⟨jn + 1, by omega, by go_num, Hb10.out, KX10.out⟩
                case measure => simp [intOf]; omega
              · have Hst := Lib.hid (show scanV m.items q (x + 1) y (jn + 1) = scanV m.items q (x + 1) y jn by rw [Hscan.out, scanStep, if_neg hpl])
                by_cases hk1 : it.key = y
                · have g1 : (it.key == y) = true := by simpa using hk1
                  have g2 : (it.dev == (q : Int)) = false := by
                    simp
                    exact fun e => hpl (Prod.ext hk1 e)
                  clear hk1 hpl
                  go_wp2_with fail
                  refine wp_region_can Later [(0, true), (1, true), (2, true), (3, true), (4, true), (5, true), (6, true), (7, true), (8, true), (9, true), (10, true), (11, true), (12, true), (13, true), (14, true), (15, true), (16, true), (17, true), (18, true), (19, true), (20, true)] (by kernel_rfl) (by kernel_rfl) later_refl later_trans ?_
                  repeat (first
                    | (refine can_yes (v := ?_) rfl (wanted_none rfl) (fun w' hC => ?_) (fun K hK => ?_); rotate_left; (focus (go_simp; (try simp (disch := omega) only [IntWalk.i64_in]); first | done | exact rfl)); go_simp; (try simp (disch := omega) only [IntWalk.i64_in]); refine hK _ ?_; clear hK K)
                    | (refine can_guard rfl (fun A B hA hB => ?_); go_simp; first | (refine hA ⟨?_, fun w' hC => ?_, fun K hK => ?_⟩; rotate_left; (focus (go_simp; (try simp (disch := omega) only [IntWalk.i64_in]); first | done | exact rfl)); go_simp; (try simp (disch := omega) only [IntWalk.i64_in]); refine hK _ ?_; clear hK K hA hB A B) | (refine hB (fun K hK => ?_); go_simp; (try simp (disch := omega) only [IntWalk.i64_in]); refine hK _ ?_; clear hK K hA hB A B))
                    | (refine can_guard_go rfl (fun A B hA hB => ?_); go_simp; refine hB (fun K hK => ?_); go_simp; (try simp (disch := omega) only [IntWalk.i64_in]); refine hK _ ?_; clear hK K hA hB A B))
                  refine can_nil ?_
                  clear pa pk pi0 pi1 hall c0 c1 c2
                  obtain ⟨w8, hw8⟩ : ∃ w8, w8 = wq.drew := ⟨_, rfl⟩
                  rw [← hw8]
                  have Hb8 := Lib.hid (show Below wr.heap.size wr w8 by rw [hw8]; exact Hbq.out.drew)
                  have KX8 := Lib.hid (show Blk w8 wr.heap.size [.string ⟨y.toArray⟩, .int .i64 q, .int .i64 (x + 1), .int .i64 (scanV m.items q (x + 1) y (jn + 1))] 72 by rw [Hst.out, hw8]; exact KXq.out.keep rfl)
                  clear hw8
                  go_wp2_with fail
                  go_roundw
                  case rel => exact ⟨jn + 1, by omega, by go_num, Hb8.out, KX8.out⟩
                  case measure => simp [intOf]; omega
                · have g1 : (it.key == y) = false := by simpa using hk1
                  clear hk1 hpl
                  go_wp2_with fail
                  refine wp_region_can Later [(0, true), (1, true), (2, true), (3, true), (4, true), (5, true), (6, true), (7, true), (8, true), (9, true), (10, true), (11, true), (12, true), (13, true), (14, true), (15, true), (16, true), (17, true), (18, true), (19, true), (20, true)] (by kernel_rfl) (by kernel_rfl) later_refl later_trans ?_
                  repeat (first
                    | (refine can_yes (v := ?_) rfl (wanted_none rfl) (fun w' hC => ?_) (fun K hK => ?_); rotate_left; (focus (go_simp; (try simp (disch := omega) only [IntWalk.i64_in]); first | done | exact rfl)); go_simp; (try simp (disch := omega) only [IntWalk.i64_in]); refine hK _ ?_; clear hK K)
                    | (refine can_guard rfl (fun A B hA hB => ?_); go_simp; first | (refine hA ⟨?_, fun w' hC => ?_, fun K hK => ?_⟩; rotate_left; (focus (go_simp; (try simp (disch := omega) only [IntWalk.i64_in]); first | done | exact rfl)); go_simp; (try simp (disch := omega) only [IntWalk.i64_in]); refine hK _ ?_; clear hK K hA hB A B) | (refine hB (fun K hK => ?_); go_simp; (try simp (disch := omega) only [IntWalk.i64_in]); refine hK _ ?_; clear hK K hA hB A B))
                    | (refine can_guard_go rfl (fun A B hA hB => ?_); go_simp; refine hB (fun K hK => ?_); go_simp; (try simp (disch := omega) only [IntWalk.i64_in]); refine hK _ ?_; clear hK K hA hB A B))
                  refine can_nil ?_
                  clear pa pk pi0 pi1 hall c0 c1 c2
                  obtain ⟨w8, hw8⟩ : ∃ w8, w8 = wq.drew := ⟨_, rfl⟩
                  rw [← hw8]
                  have Hb8 := Lib.hid (show Below wr.heap.size wr w8 by rw [hw8]; exact Hbq.out.drew)
                  have KX8 := Lib.hid (show Blk w8 wr.heap.size [.string ⟨y.toArray⟩, .int .i64 q, .int .i64 (x + 1), .int .i64 (scanV m.items q (x + 1) y (jn + 1))] 72 by rw [Hst.out, hw8]; exact KXq.out.keep rfl)
                  clear hw8
                  go_wp2_with fail
                  go_roundw
                  case rel => exact ⟨jn + 1, by omega, by go_num, Hb8.out, KX8.out⟩
                  case measure => simp [intOf]; omega
            · have hjI : ¬ (jn : Int) < (m.items.length : Int) := by omega
              obtain rfl : jn = m.items.length := by omega
              have Hit := Lib.hid (show (⟨y, q, x + 1, scanV m.items q (x + 1) y m.items.length⟩ : RIt) = refItem m q y by
                have := scan_all m q y Hf.out.items
                rw [Hnow.out] at this
                exact this)
              generalize scanV m.items q (x + 1) y m.items.length = val at Hit KXq ⊢
              have kOq := HOb.out.keep (Hbq.out.block _ HOb.out.lt)
              obtain ⟨o0, o1, o2⟩ := cell3 kOq
              obtain ⟨x0, x1, x2, x3⟩ := cell4 KXq.out
              have hinq := Hin.out.below Hbq.out
              have hP := rput_any wq _ (.slice ai cur.length ci) cur ⟨y, q, x + 1, val⟩ (Rows.of_owns hinq.items) (by have := Hlen.out; omega)
              have hpn := put_len RIt.pl cur ⟨y, q, x + 1, val⟩
              generalize hnr : putL RIt.pl cur ⟨y, q, x + 1, val⟩ = nxt at hP hpn
              unfold itV at hP
              have HP := Lib.hid hP; have Hnx := Lib.hid hnr; have Hpn := Lib.hid hpn; have KOq := Lib.hid kOq; have Hinq := Lib.hid hinq
              clear hP hnr hpn kOq hinq kA hMq hLq e0
              go_wp2_with fail
              refine HP.out.mono ?_
              rintro e w9 ⟨⟨r, rfl, ho9⟩, hb9⟩
              obtain ⟨a9, c9, rfl⟩ := own_shape ho9
              have kO9 := KOq.out.keep (hb9.block _ KOq.out.lt)
              clear o0 o1 o2 x0 x1 x2 x3
              obtain ⟨o0, o1, o2⟩ := cell3 kO9
              have fo1 := kO9.free 1
              obtain ⟨w10, hw10⟩ : ∃ w10, w10 = w9.setCell ⟨w5.heap.size, 1, none⟩ (.slice a9 nxt.length c9) := ⟨_, rfl⟩
              have hLq : Below w2.heap.size w2 wq := Hbw.out.trans (Hbq.out.mono Hbw.out.size)
              have hL9 : Below w2.heap.size w2 w9 := hLq.trans (hb9.mono hLq.size)
              have HL10 := Lib.hid (show Below w2.heap.size w2 w10 by rw [hw10]; exact hL9.setCell (by show w2.heap.size ≤ w5.heap.size; exact Hz5.out) _)
              have KO10 := Lib.hid (show Blk w10 w5.heap.size [.slice (some ⟨g, 0, none⟩) m.seen.length e1, .slice a9 nxt.length c9, .slice b3 m.gone.length e3] 26 by rw [hw10]; exact kO9.set 1 _)
              have hnxt : ((l.take (k + 1)).map (refItem m q)).foldl (putL RIt.pl) m.items = nxt := by
                rw [List.take_succ_eq_append_getElem hkn, List.map_append, List.foldl_append, Hcur.out, Hy.out]
                show putL RIt.pl cur (refItem m q y) = nxt
                rw [← Hit.out, Hnx.out]
              have Hin10 := Lib.hid (show RefIn w10 w2.heap.size (.slice (some ⟨g, 0, none⟩) m.seen.length e1) (.slice a9 nxt.length c9) (.slice b3 m.gone.length e3) ⟨seenUp m q, ((l.take (k + 1)).map (refItem m q)).foldl (putL RIt.pl) m.items, m.gone⟩ by
                have hq9 := Hinq.out.below hb9
                rw [hw10]
                refine ⟨own_setCell hq9.seen kO9 (by decide) _, ?_, own_setCell hq9.gone kO9 (by decide) _⟩
                dsimp only
                rw [hnxt]
                exact own_setCell (own_base ho9 hLq.size) kO9 (by decide) _)
              have Hlen10 := Lib.hid (show (((l.take (k + 1)).map (refItem m q)).foldl (putL RIt.pl) m.items).length ≤ 4096 + (k + 1) by
                rw [hnxt]
                have := Hpn.out; have := Hlen.out
                omega)
              have Hw10 := Lib.hid hw10
              clear hw10 hLq hL9 hnxt ho9 hb9 kO9 HP
              go_wp2_with fail
              rw [← Hw10.out]
              clear o0 o1 o2 fo1
              go_roundw
              case rel => exact ⟨k + 1, by omega, by go_num, HL10.out, _, KO10.out, Hin10.out, Hlen10.out⟩
              case measure => simp [intOf]; omega
        · have hkI : ¬ (k : Int) < (l.length : Int) := by omega
          obtain rfl : k = l.length := by omega
          have hus : (⟨seenUp m q, cur, m.gone⟩ : RMap) = useM m q l := by
            rw [← refUse_eq m q l Hf.out.items Ha.out.nodup]
            unfold refUseM
            rw [← Hcur.out, List.take_length]
          have hin := Hin.out
          rw [hus] at hin
          have hml : m.seen.length = (useM m q l).seen.length := (congrArg (fun z : RMap => z.seen.length) hus.symm).trans (up_len m q) |>.symm
          obtain ⟨hbnd, hki', hkg'⟩ := use_bnd Hf.out Ha.out
          have hLm := rfull_any wr _ (.agg #[.slice (some ⟨g, 0, none⟩) m.seen.length e1, .slice ai cur.length ci, .slice b3 m.gone.length e3]) (useM m q l) ⟨_, _, _, rfl, hin.map hbnd⟩ (fun x hx => by have := hki' x hx; omega) (fun x hx => by have := hkg' x hx; omega)
          obtain ⟨ok, hok⟩ : ∃ ok, validR (useM m q l) = ok := ⟨_, rfl⟩
          rw [hok] at hLm
          have hu : useR m q l = if ok = true then (useM m q l, 0) else (.empty, 7) := by
            unfold useR fullR
            rw [Hok.out, Hal.out, hok]
            cases ok <;> rfl
          obtain ⟨o0, o1, o2⟩ := cell3 HOb.out
          have HLm := Lib.hid hLm; have Hu := Lib.hid hu; have Hbnd := Lib.hid hbnd; have Hin2 := Lib.hid hin
          clear hLm hu hbnd hki' hkg' hin hus hml hok kA hMm hLl
          go_wp2_with fail
          refine HLm.out.mono ?_
          rintro e w8 ⟨rfl, hb8⟩
          have hL8 : Below w2.heap.size w2 w8 := Hbw.out.trans (hb8.mono Hbw.out.size)
          have kr := (HR.out w8 hL8).2.2.1
          have hbel := (HR.out w8 hL8).1
          have Hin8 := Lib.hid (Hin2.out.below hb8)
          clear HLm hb8 hL8 o0 o1 o2
          cases ok with
          | false =>
            have Hu0 := Lib.hid (show useR m q l = (.empty, 7) from Hu.out.trans (if_neg Bool.false_ne_true))
            obtain ⟨wf, hwf, hblk, hbf⟩ := fin3 kr hbel (Nat.le_succ _) (.slice none 0 0) (.slice none 0 0) (.slice none 0 0)
            obtain ⟨y0, y1, y2⟩ := cell3 kr
            have z0 := kr.free 0
            have z1 := kr.free 1
            have z2 := kr.free 2
            have Q := Lib.hid (cell3 hblk)
            have Hbf := Lib.hid hbf; have Hwf := Lib.hid hwf
            clear hwf hblk hbf
            go_wp2_with fail
            rw [← Hwf.out]
            obtain ⟨q0, q1, q2⟩ := Q.out
            exact bodyPost_ret (v := .tuple #[.agg #[.slice none 0 0, .slice none 0 0, .slice none 0 0], .int .i64 7]) (by simp [results, Tryz.results27, go_sem, q0, q1, q2]) rfl ⟨_, by rw [Hu0.out], by rw [Hu0.out]; exact mapV_empty _ _, Hbf.out⟩
          | true =>
            have Hu0 := Lib.hid (show useR m q l = (useM m q l, 0) from Hu.out.trans (if_pos rfl))
            obtain ⟨wf, hwf, hblk, hbf⟩ := fin3 kr hbel (Nat.le_succ _) (.slice (some ⟨g, 0, none⟩) m.seen.length e1) (.slice ai cur.length ci) (.slice b3 m.gone.length e3)
            obtain ⟨y0, y1, y2⟩ := cell3 kr
            have z0 := kr.free 0
            have z1 := kr.free 1
            have z2 := kr.free 2
            have Q := Lib.hid (cell3 hblk)
            have Hof := Lib.hid (show RefIn wf w2.heap.size (.slice (some ⟨g, 0, none⟩) m.seen.length e1) (.slice ai cur.length ci) (.slice b3 m.gone.length e3) (useM m q l) by
              rw [hwf]
              exact ((Hin8.out.setCell kr _).setCell (kr.set 0 _) _).setCell ((kr.set 0 _).set 1 _) _)
            have Hbf := Lib.hid hbf; have Hwf := Lib.hid hwf
            clear hwf hblk hbf
            go_wp2_with fail
            rw [← Hwf.out]
            obtain ⟨q0, q1, q2⟩ := Q.out
            exact bodyPost_ret (v := .tuple #[.agg #[.slice (some ⟨g, 0, none⟩) m.seen.length e1, .slice ai cur.length ci, .slice b3 m.gone.length e3], .int .i64 0]) (by simp [results, Tryz.results27, go_sem, q0, q1, q2]) rfl ⟨_, by rw [Hu0.out], by rw [Hu0.out]; exact ⟨_, _, _, rfl, (Hof.out.map Hbnd.out).mono fun b hb _ => by have := Hz2.out; omega⟩, Hbf.out⟩
end Go.Proofs.YtbjkkmabafaogaaGreatDoor
