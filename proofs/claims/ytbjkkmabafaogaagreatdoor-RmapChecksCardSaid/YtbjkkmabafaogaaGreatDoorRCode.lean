/- The code of a map. -/
import Derived.Test.YtbjkkmabafaogaaGreatDoorRPut2
namespace Go.Proofs.YtbjkkmabafaogaaGreatDoor
open Go.RowKit
set_option linter.unusedVariables false
set_option maxRecDepth 20000
attribute [local go_sem ↓] seal_append

theorem rows_new (w : World) (cs : Array Value) (t : TypeId) (n : Nat) (hn : cs.size = n) (hle : n ≤ maxLen) : Rows (fun b => b = w.heap.size) (w.alloc (.cells cs t)) 1 (.slice (some ⟨w.heap.size, 0, none⟩) n n) n cs.toList :=
  ⟨_, n, rfl, Nat.le_refl _, hle, nofun, by simp [hn], .inr ⟨w.heap.size, 0, cs, t, (0, 0), rfl, rfl, by unfold World.alloc; simp, by omega, fun i hi => by simp⟩⟩
theorem PutAt.alloc {w : World} {bb : Nat} {l : List UInt8} (h : PutAt w bb l) (o : Obj) : PutAt (w.alloc o) bb l := h.keep (kept_alloc _ _)
theorem PutAt.lt {w : World} {bb : Nat} {l : List UInt8} (h : PutAt w bb l) : bb < w.heap.size := by obtain ⟨v, h1, -⟩ := h; exact h1.lt
/-- the numbers of a map may be coded -/
structure Codable (m : RMap) : Prop where
  seen : ∀ n ∈ m.seen, 0 ≤ n ∧ n ≤ 9223372036854775807
  items : ∀ x ∈ m.items, x.key.length ≤ 400 ∧ (0 ≤ x.dev ∧ x.dev ≤ 9223372036854775807) ∧ (0 ≤ x.seq ∧ x.seq ≤ 9223372036854775807) ∧ 0 ≤ x.val ∧ x.val ≤ 9223372036854775807
  gone : ∀ x ∈ m.gone, x.key.length ≤ 400 ∧ (0 ≤ x.dev ∧ x.dev ≤ 9223372036854775807) ∧ 0 ≤ x.seq ∧ x.seq ≤ 9223372036854775807
  l1 : m.seen.length ≤ 1000
  l2 : m.items.length ≤ 100000
  l3 : m.gone.length ≤ 100000
theorem Codable.len {m : RMap} (h : Codable m) : (codeR m).length ≤ 1000000000 := codeR_len m h.l1 h.l2 h.l3 (fun x hx => (h.items x hx).1) (fun x hx => (h.gone x hx).1)


set_option maxRecDepth 100000 in
set_option maxHeartbeats 3000000 in
theorem code_any (w : World) (F : Blks) (v : Value) (m : RMap) (h : MapV F w v m) (hC : Codable m) :
    Calls Tryz.prog 50 #[v] w fun e w' => (∃ r, e = .returned r ∧ Bytes (fun _ => True) w' r (codeR m)) ∧ Below w.heap.size w w' := by
  replace h := h.mono (G := fun b => b < w.heap.size) fun b _ hlt => hlt
  have HC := Lib.hid hC
  obtain ⟨s1, s2, s3, rfl, h⟩ := h
  obtain ⟨a1, p1, rfl, -⟩ := h.seen.shape
  obtain ⟨a2, p2, rfl, -⟩ := h.items.shape
  obtain ⟨a3, p3, rfl, -⟩ := h.gone.shape
  have l1 := h.seen.len
  have l2 := h.items.len
  have l3 := h.gone.len
  unfold maxLen at l1 l2 l3
  obtain ⟨n1, hn1⟩ : ∃ n, m.seen.length = n := ⟨_, rfl⟩
  obtain ⟨n2, hn2⟩ : ∃ n, m.items.length = n := ⟨_, rfl⟩
  obtain ⟨n3, hn3⟩ : ∃ n, m.gone.length = n := ⟨_, rfl⟩
  rw [hn1, hn2, hn3] at h
  rw [hn1] at l1 ⊢
  rw [hn2] at l2 ⊢
  rw [hn3] at l3 ⊢
  obtain ⟨wx, hwx⟩ : ∃ wx, wx = w.alloc (.cells #[.slice a1 n1 p1, .slice a2 n2 p2, .slice a3 n3 p3] 31) := ⟨_, rfl⟩
  have hbx : Below w.heap.size w wx := by rw [hwx]; exact kept_alloc _ _
  have hzx : wx.heap.size = w.heap.size + 1 := by rw [hwx]; simp
  have hx := h.keep (w' := wx) fun b _ hlt => hbx.block b hlt
  have hnx : Blk wx w.heap.size [.slice a1 n1 p1, .slice a2 n2 p2, .slice a3 n3 p3] 31 := by rw [hwx]; exact Blk.new _ _ _
  have Hx := Lib.hid hx; have Hn1 := Lib.hid hn1; have Hn2 := Lib.hid hn2; have Hn3 := Lib.hid hn3
  have Hwx := Lib.hid hwx; have Hbx := Lib.hid hbx; have Hzx := Lib.hid hzx
  have c0 := hnx.cell 0
  have c1 := hnx.cell 1
  have c2 := hnx.cell 2
  simp at c0 c1 c2
  have Hnx := Lib.hid hnx
  clear hx hn1 hn2 hn3 hwx hbx hnx hzx
  clear h hC
  obtain ⟨w2, hw2⟩ : ∃ w2, w2 = wx.alloc (.cells #[.slice none 0 0] 48) := ⟨_, rfl⟩
  have hb2 : Below w.heap.size w w2 := by rw [hw2]; exact Hbx.out.alloc (by have := Hzx.out; omega) _
  have hz2 : w2.heap.size = w.heap.size + 2 := by rw [hw2]; have := Hzx.out; simp; omega
  have hM2 : Blk w2 w.heap.size [.slice a1 n1 p1, .slice a2 n2 p2, .slice a3 n3 p3] 31 ∧ MapIn (fun b => b < w.heap.size) w2 (.slice a1 n1 p1) (.slice a2 n2 p2) (.slice a3 n3 p3) m := by
    rw [hw2]
    exact ⟨Hnx.out.alloc _, Hx.out.keep fun b _ hlt => Below.heap_alloc _ _ _ hlt⟩
  have HM := Lib.hid (show ∀ w', Only (fun b => b = w.heap.size + 1) w2 w' → Blk w' w.heap.size [.slice a1 n1 p1, .slice a2 n2 p2, .slice a3 n3 p3] 31 ∧ MapIn (fun b => b < w.heap.size) w' (.slice a1 n1 p1) (.slice a2 n2 p2) (.slice a3 n3 p3) m from fun w' ho =>
    ⟨hM2.1.only ho (by omega), hM2.2.keep fun b hb hlt => ho.block b hlt (by omega)⟩)
  have hp2 : PutAt w2 (w.heap.size + 1) [] := by
    refine ⟨.slice none 0 0, ?_, ⟨none, 0, rfl, Nat.le_refl _, by unfold maxLen; omega, fun _ => rfl, .inl rfl⟩⟩
    rw [hw2, ← Hzx.out]
    exact Blk.new _ _ _
  have HP := Lib.hid (put_any w2 (w.heap.size + 1) [] hp2 (fun b => b < w.heap.size) (.slice a1 n1 p1) m.seen hM2.2.seen (fun b hb => by omega) HC.out.seen (by have := HC.out.l1; omega) (by simp))
  have Hw2 := Lib.hid hw2; have Hb2 := Lib.hid hb2; have Hz2 := Lib.hid hz2
  clear hw2 hb2 hz2 hM2 hp2 Hx Hnx
  go_enter Tryz.func50, Tryz.ntmps50
  go_wp2_with fail
  rw [← Hwx.out, ← Hw2.out]
  refine HP.out.mono ?_
  rintro e w3 ⟨rfl, hp3, ho3⟩
  have c31 := (HM.out w3 ho3).1.cell 1
  simp at c31
  have HP2 := Lib.hid (put_any (w3.alloc (.cells #[.int .i64 (n2 : Int)] 3)) (w.heap.size + 1) _ (hp3.alloc _) (fun b => b = w3.heap.size) (.slice (some ⟨w3.heap.size, 0, none⟩) 1 1) [(n2 : Int)] (rows_new w3 #[.int .i64 (n2 : Int)] 3 1 rfl (by unfold maxLen; omega)) (fun b hb => by have := hp3.lt; omega) (by
    intro n hn
    simp at hn
    subst hn
    omega) (by simp) (by
    have h1 := codeA_le m
    unfold codeA at h1
    have h2 := HC.out.len
    simp at h1 ⊢
    omega))
  have Ho3 := Lib.hid ho3
  clear HP hp3 ho3 c0 c1 c2
  go_wp2_with fail
  refine HP2.out.mono ?_
  rintro e w4 ⟨rfl, hp4, ho4⟩
  have Hp4 := Lib.hid (show PutAt w4 (w.heap.size + 1) (codeB m 0) by
    rw [codeB_zero]
    unfold codeA
    rw [Hn2.out]
    simpa using hp4)
  have ho4' := (Ho3.out.trans (Only.of_below (F := fun b => b = w.heap.size + 1) (kept_alloc w3 _)) (fun i h => .inl h)).trans ho4 (fun i h => .inl h)
  have Ho4 := Lib.hid ho4'
  have c41 := (HM.out w4 ho4').1.cell 1
  simp at c41
  clear HP2 hp4 ho4 ho4' c31 Ho3
  go_wp2_with fail
  go_loopw [23] (fun i wr => ∃ k : Nat, k ≤ n2 ∧ i = .int .i64 (k : Int) ∧ PutAt wr (w.heap.size + 1) (codeB m k) ∧ Only (fun b => b = w.heap.size + 1) w2 wr) (fun i _ => n2 - (intOf i).toNat)
  case atStart => exact ⟨0, by omega, rfl, Hp4.out, Ho4.out⟩
  case round =>
    obtain ⟨k, hk, rfl, hpk, hok⟩ := hrel
    have Hok := Lib.hid hok
    clear hok Hp4 Ho4
    by_cases hkn : k < n2
    · have hkI : (k : Int) < (n2 : Int) := by omega
      have hkl : k < m.items.length := by rw [Hn2.out]; exact hkn
      obtain ⟨-, hm⟩ := HM.out wr Hok.out
      obtain ⟨b, off, rfl, hFb, -, hc⟩ := it_cell hm.items (by omega)
      obtain ⟨e0, e1, e2, e3⟩ := hc k hkl
      obtain ⟨x, hx⟩ : ∃ x, m.items[k] = x := ⟨_, rfl⟩
      rw [hx] at e0 e1 e2 e3
      have hxc := HC.out.items x (by rw [← hx]; exact List.getElem_mem hkl)
      have hlb : (codeB m k).length ≤ 1000000000 := Nat.le_trans (codeB_le m k) HC.out.len
      have hsuc := codeB_succ m k hkl
      rw [hx] at hsuc
      have hlb1 : (codeB m k ++ codeText x.key).length ≤ 2000000000 := by
        have := codeText_len x.key hxc.1
        rw [List.length_append]; omega
      obtain ⟨L0, hL0⟩ : ∃ L0, codeB m k = L0 := ⟨_, rfl⟩
      rw [hL0] at hpk hlb hsuc hlb1
      obtain ⟨N0, hN0⟩ : ∃ N0, L0.length = N0 := ⟨_, rfl⟩
      obtain ⟨v0, hb0, hby0⟩ := hpk
      have hbyA := hby0.keep (w' := wr.alloc (.cells #[.string ⟨x.key.toArray⟩, .int .i64 x.dev, .int .i64 x.seq, .int .i64 x.val] 75)) fun b _ hlt => Below.heap_alloc _ _ _ hlt
      have HP := Lib.hid (putText_any _ _ v0 L0 hbyA x.key (by have := hxc.1; omega) (by omega))
      have Hpk := Lib.hid (show PutAt (wr.alloc (.cells #[.string ⟨x.key.toArray⟩, .int .i64 x.dev, .int .i64 x.seq, .int .i64 x.val] 75)) (w.heap.size + 1) L0 from (show PutAt wr _ L0 from ⟨v0, hb0, hby0⟩).alloc _)
      obtain ⟨a0, cap0, rfl, -⟩ := hby0
      have q0 := hb0.cell 0
      simp at q0
      have f0 := hb0.free 0
      have hbz : w.heap.size + 1 < wr.heap.size := hb0.lt
      have hXB := Blk.new wr #[.string ⟨x.key.toArray⟩, .int .i64 x.dev, .int .i64 x.seq, .int .i64 x.val] 75
      have HXB := Lib.hid hXB
      rw [hN0] at q0 HP
      have Hx := Lib.hid hx; have Hsuc := Lib.hid hsuc; have Hxc := Lib.hid hxc; have Hlb1 := Lib.hid hlb1
      clear hc hm hx hb0 hsuc hxc hL0 hN0 hbyA hlb hXB hlb1
      go_wp2_with fail
      refine HP.out.mono ?_
      rintro e w5 ⟨⟨r5, rfl, ho5⟩, hb5⟩
      obtain ⟨hp5, ho6⟩ := Hpk.out.stored hb5 ho5 (Nat.le_refl _)
      obtain ⟨v1, hbb⟩ : ∃ v1, Blk w5 (w.heap.size + 1) [v1] 48 := by
        obtain ⟨v1, h1, -⟩ := Hpk.out
        exact ⟨v1, h1.keep (hb5.block _ h1.lt)⟩
      obtain ⟨N5, hN5⟩ : ∃ N5, (L0 ++ codeText x.key).length = N5 := ⟨_, rfl⟩
      obtain ⟨a5, c5, hr5⟩ := own_shape ho5
      rw [hN5] at hr5
      subst hr5
      have q5 := hbb.cell 0
      simp at q5
      have f5 := hbb.free 0
      obtain ⟨w6, hw6⟩ : ∃ w6, w6 = w5.setCell ⟨w.heap.size + 1, 0, none⟩ (.slice a5 N5 c5) := ⟨_, rfl⟩
      rw [← hw6] at hp5 ho6
      have hX6 : Blk w6 wr.heap.size [.string ⟨x.key.toArray⟩, .int .i64 x.dev, .int .i64 x.seq, .int .i64 x.val] 75 := by
        rw [hw6]
        exact (HXB.out.keep (hb5.block _ HXB.out.lt)).set_other _ (by simp; omega)
      have hX5 := HXB.out.keep (hb5.block _ HXB.out.lt)
      have x0 := hX5.cell 0
      have x1 := hX5.cell 1
      have x2 := hX5.cell 2
      have x3 := hX5.cell 3
      simp at x0 x1 x2 x3
      have hne5 : wr.heap.size ≠ w.heap.size + 1 := by omega
      clear hbz
      have hB6 : Only (fun b => b = w.heap.size + 1) wr w6 := (Only.of_below (kept_alloc wr _)).trans ho6 (fun i hi => .inl hi)
      have Hw6 := Lib.hid hw6
      have hz6 : w6.heap.size = w5.heap.size := by rw [hw6]; simp [World.setCell]
      have hP2 := (put_any _ _ _ (hp5.alloc (.cells #[.int .i64 x.dev, .int .i64 x.seq, .int .i64 x.val] 3)) (fun b => b = w6.heap.size) (.slice (some ⟨w6.heap.size, 0, none⟩) 3 3) [x.dev, x.seq, x.val] (rows_new w6 #[.int .i64 x.dev, .int .i64 x.seq, .int .i64 x.val] 3 3 rfl (by unfold maxLen; omega)) (fun b hb => by have := hp5.lt; omega) (by
        have h := Hxc.out
        intro n hn
        simp at hn
        rcases hn with rfl | rfl | rfl <;> simp [h]) (by simp) (by have := Hlb1.out; omega))
      rw [hz6] at hP2
      have HP2 := Lib.hid hP2
      have HB6 := Lib.hid (Hok.out.trans hB6 (fun i h => .inl h))
      clear HP hN5 hbb hp5 ho6 ho5 hb5 hX5 hX6 hB6 hw6 q0 f0 Hpk hP2 hz6
      go_wp2_with fail
      rw [← Hw6.out]
      refine HP2.out.mono ?_
      rintro e w7 ⟨rfl, hp7, ho7⟩
      rw [← Hsuc.out] at hp7
      have Hp7 := Lib.hid hp7
      have Ho7 := Lib.hid ((HB6.out.trans (Only.of_below (F := fun b => b = w.heap.size + 1) (kept_alloc w6 _)) (fun i h => .inl h)).trans ho7 (fun i h => .inl h))
      clear hp7 ho7 HP2
      go_wp2_with fail
      go_roundw
      case rel => exact ⟨k + 1, by omega, by go_num, Hp7.out, Ho7.out⟩
      case measure => simp [intOf]; omega
    · have hkI : ¬ (k : Int) < (n2 : Int) := by omega
      have hke : k = m.items.length := by rw [Hn2.out]; omega
      have Hpk := Lib.hid (show PutAt wr (w.heap.size + 1) (codeB m m.items.length) by rw [hke] at hpk; exact hpk)
      clear hpk
      have c51 := (HM.out wr Hok.out).1.cell 2
      simp at c51
      have HP3 := Lib.hid (put_any (wr.alloc (.cells #[.int .i64 (n3 : Int)] 3)) (w.heap.size + 1) _ (Hpk.out.alloc _) (fun b => b = wr.heap.size) (.slice (some ⟨wr.heap.size, 0, none⟩) 1 1) [(n3 : Int)] (rows_new wr #[.int .i64 (n3 : Int)] 3 1 rfl (by unfold maxLen; omega)) (fun b hb => by have := Hpk.out.lt; omega) (by
        intro n hn
        simp at hn
        subst hn
        omega) (by simp) (by
        have h1 := codeB_le m m.items.length
        have h2 := HC.out.len
        omega))
      clear Hpk
      go_wp2_with fail
      refine HP3.out.mono ?_
      rintro e w8 ⟨rfl, hp8, ho8⟩
      have Hp8 := Lib.hid (show PutAt w8 (w.heap.size + 1) (codeC m 0) by
        rw [codeC_zero, Hn3.out]
        simpa using hp8)
      have ho8' := (Hok.out.trans (Only.of_below (F := fun b => b = w.heap.size + 1) (kept_alloc wr _)) (fun i h => .inl h)).trans ho8 (fun i h => .inl h)
      have Ho8 := Lib.hid ho8'
      have c81 := (HM.out w8 ho8').1.cell 2
      simp at c81
      clear HP3 hp8 ho8 ho8' c51 Hok hkI hke hkn hk
      go_wp2_with fail
      go_loopw [50] (fun i wr => ∃ k : Nat, k ≤ n3 ∧ i = .int .i64 (k : Int) ∧ PutAt wr (w.heap.size + 1) (codeC m k) ∧ Only (fun b => b = w.heap.size + 1) w2 wr) (fun i _ => n3 - (intOf i).toNat)
      case atStart => exact ⟨0, by omega, rfl, Hp8.out, Ho8.out⟩
      case round =>
        obtain ⟨k, hk, rfl, hpk, hok⟩ := hrel
        have Hok := Lib.hid hok
        clear hok Hp8 Ho8
        by_cases hkn : k < n3
        · have hkI : (k : Int) < (n3 : Int) := by omega
          have hkl : k < m.gone.length := by rw [Hn3.out]; exact hkn
          obtain ⟨-, hm⟩ := HM.out wr Hok.out
          obtain ⟨b, off, rfl, hFb, -, hc⟩ := go_cell hm.gone (by omega)
          obtain ⟨e0, e1, e2⟩ := hc k hkl
          obtain ⟨x, hx⟩ : ∃ x, m.gone[k] = x := ⟨_, rfl⟩
          rw [hx] at e0 e1 e2
          have hxc := HC.out.gone x (by rw [← hx]; exact List.getElem_mem hkl)
          have hlb : (codeC m k).length ≤ 1000000000 := Nat.le_trans (codeC_le m k) HC.out.len
          have hsuc := codeC_succ m k hkl
          rw [hx] at hsuc
          have hlb1 : (codeC m k ++ codeText x.key).length ≤ 2000000000 := by
            have := codeText_len x.key hxc.1
            rw [List.length_append]; omega
          obtain ⟨L0, hL0⟩ : ∃ L0, codeC m k = L0 := ⟨_, rfl⟩
          rw [hL0] at hpk hlb hsuc hlb1
          obtain ⟨N0, hN0⟩ : ∃ N0, L0.length = N0 := ⟨_, rfl⟩
          obtain ⟨v0, hb0, hby0⟩ := hpk
          have hbyA := hby0.keep (w' := wr.alloc (.cells #[.string ⟨x.key.toArray⟩, .int .i64 x.dev, .int .i64 x.seq] 83)) fun b _ hlt => Below.heap_alloc _ _ _ hlt
          have HP := Lib.hid (putText_any _ _ v0 L0 hbyA x.key (by have := hxc.1; omega) (by omega))
          have Hpk := Lib.hid (show PutAt (wr.alloc (.cells #[.string ⟨x.key.toArray⟩, .int .i64 x.dev, .int .i64 x.seq] 83)) (w.heap.size + 1) L0 from (show PutAt wr _ L0 from ⟨v0, hb0, hby0⟩).alloc _)
          obtain ⟨a0, cap0, rfl, -⟩ := hby0
          have q0 := hb0.cell 0
          simp at q0
          have f0 := hb0.free 0
          have hbz : w.heap.size + 1 < wr.heap.size := hb0.lt
          have hXB := Blk.new wr #[.string ⟨x.key.toArray⟩, .int .i64 x.dev, .int .i64 x.seq] 83
          have HXB := Lib.hid hXB
          rw [hN0] at q0 HP
          have Hx := Lib.hid hx; have Hsuc := Lib.hid hsuc; have Hxc := Lib.hid hxc; have Hlb1 := Lib.hid hlb1
          clear hc hm hx hb0 hsuc hxc hL0 hN0 hbyA hlb hXB hlb1
          go_wp2_with fail
          refine HP.out.mono ?_
          rintro e w5 ⟨⟨r5, rfl, ho5⟩, hb5⟩
          obtain ⟨hp5, ho6⟩ := Hpk.out.stored hb5 ho5 (Nat.le_refl _)
          obtain ⟨v1, hbb⟩ : ∃ v1, Blk w5 (w.heap.size + 1) [v1] 48 := by
            obtain ⟨v1, h1, -⟩ := Hpk.out
            exact ⟨v1, h1.keep (hb5.block _ h1.lt)⟩
          obtain ⟨N5, hN5⟩ : ∃ N5, (L0 ++ codeText x.key).length = N5 := ⟨_, rfl⟩
          obtain ⟨a5, c5, hr5⟩ := own_shape ho5
          rw [hN5] at hr5
          subst hr5
          have q5 := hbb.cell 0
          simp at q5
          have f5 := hbb.free 0
          obtain ⟨w6, hw6⟩ : ∃ w6, w6 = w5.setCell ⟨w.heap.size + 1, 0, none⟩ (.slice a5 N5 c5) := ⟨_, rfl⟩
          rw [← hw6] at hp5 ho6
          have hX6 : Blk w6 wr.heap.size [.string ⟨x.key.toArray⟩, .int .i64 x.dev, .int .i64 x.seq] 83 := by
            rw [hw6]
            exact (HXB.out.keep (hb5.block _ HXB.out.lt)).set_other _ (by simp; omega)
          have hX5 := HXB.out.keep (hb5.block _ HXB.out.lt)
          have x0 := hX5.cell 0
          have x1 := hX5.cell 1
          have x2 := hX5.cell 2
          skip
          simp at x0 x1 x2
          have hne5 : wr.heap.size ≠ w.heap.size + 1 := by omega
          clear hbz
          have hB6 : Only (fun b => b = w.heap.size + 1) wr w6 := (Only.of_below (kept_alloc wr _)).trans ho6 (fun i hi => .inl hi)
          have Hw6 := Lib.hid hw6
          have hz6 : w6.heap.size = w5.heap.size := by rw [hw6]; simp [World.setCell]
          have hP2 := (put_any _ _ _ (hp5.alloc (.cells #[.int .i64 x.dev, .int .i64 x.seq] 3)) (fun b => b = w6.heap.size) (.slice (some ⟨w6.heap.size, 0, none⟩) 2 2) [x.dev, x.seq] (rows_new w6 #[.int .i64 x.dev, .int .i64 x.seq] 3 2 rfl (by unfold maxLen; omega)) (fun b hb => by have := hp5.lt; omega) (by
            have h := Hxc.out
            intro n hn
            simp at hn
            rcases hn with rfl | rfl <;> simp [h]) (by simp) (by have := Hlb1.out; omega))
          rw [hz6] at hP2
          have HP2 := Lib.hid hP2
          have HB6 := Lib.hid (Hok.out.trans hB6 (fun i h => .inl h))
          clear HP hN5 hbb hp5 ho6 ho5 hb5 hX5 hX6 hB6 hw6 q0 f0 Hpk hP2 hz6
          go_wp2_with fail
          rw [← Hw6.out]
          refine HP2.out.mono ?_
          rintro e w7 ⟨rfl, hp7, ho7⟩
          rw [← Hsuc.out] at hp7
          have Hp7 := Lib.hid hp7
          have Ho7 := Lib.hid ((HB6.out.trans (Only.of_below (F := fun b => b = w.heap.size + 1) (kept_alloc w6 _)) (fun i h => .inl h)).trans ho7 (fun i h => .inl h))
          clear hp7 ho7 HP2
          go_wp2_with fail
          go_roundw
          case rel => exact ⟨k + 1, by omega, by go_num, Hp7.out, Ho7.out⟩
          case measure => simp [intOf]; omega
        · have hkI : ¬ (k : Int) < (n3 : Int) := by omega
          have hke : k = m.gone.length := by rw [Hn3.out]; omega
          have Hpk := Lib.hid (show PutAt wr (w.heap.size + 1) (codeC m m.gone.length) by rw [hke] at hpk; exact hpk)
          clear hpk
          rw [codeC_all] at Hpk
          obtain ⟨v9, hb9, hby9⟩ := Hpk.out
          have q9 := hb9.cell 0
          simp at q9
          obtain ⟨N9, hN9⟩ : ∃ N9, (codeR m).length = N9 := ⟨_, rfl⟩
          obtain ⟨a9, c9, hv9, rest⟩ := id hby9
          rw [hN9] at hv9
          subst hv9
          have Hby9 := Lib.hid hby9
          have HB9 := Lib.hid (Hb2.out.trans (Hok.out.below (B := w.heap.size) (fun i hi => by omega) (by have := Hz2.out; omega)))
          clear hb9 hby9 rest hN9 Hpk
          go_wp2_with fail
          go_ret
          exact ⟨⟨_, rfl, Hby9.out.mono fun _ _ => trivial⟩, HB9.out⟩
end Go.Proofs.YtbjkkmabafaogaaGreatDoor
