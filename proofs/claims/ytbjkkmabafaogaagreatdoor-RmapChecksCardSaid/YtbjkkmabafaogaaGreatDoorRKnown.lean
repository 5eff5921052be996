/- known. -/
import Derived.Test.YtbjkkmabafaogaaGreatDoorRCmp
import Derived.Test.YtbjkkmabafaogaaGreatDoorKeys
namespace Go.Proofs.YtbjkkmabafaogaaGreatDoor
open Go.RowKit
set_option linter.unusedVariables false
set_option maxRecDepth 20000

set_option maxRecDepth 100000 in
set_option maxHeartbeats 1500000 in
theorem known_any (w : World) (hT : Tabs w) (h3 : 3 ≤ w.heap.size) (F : Blks) (v : Value) (m : RMap) (h : MapV F w v m) (p : RPl) (seq : Int) (hp : p.1.length ≤ 4611686018427387903) (hpd : i64ok p.2) (hsq : i64ok seq) :
    Calls Tryz.prog 48 #[v, plV p, .int .i64 seq] w fun e w' => e = .returned (.bool (knownR m p seq)) ∧ Below w.heap.size w w' := by
  obtain ⟨s1, s2, s3, rfl, h⟩ := h
  obtain ⟨a1, p1, rfl, -⟩ := h.seen.shape
  obtain ⟨a2, p2, rfl, -⟩ := h.items.shape
  obtain ⟨a3, p3, rfl, -⟩ := h.gone.shape
  have l1 := h.seen.len
  have l2 := h.items.len
  have l3 := h.gone.len
  unfold maxLen at l1 l2 l3
  obtain ⟨n1, hn1⟩ : ∃ n, m.seen.length = n := ⟨_, rfl⟩
  obtain ⟨n2, hn2⟩ : ∃ n, m.items.length = n := ⟨_, rfl⟩
  obtain ⟨n3, hn3⟩ : ∃ n, m.gone.length = n := ⟨_, rfl⟩
  rw [hn1, hn2, hn3] at h
  rw [hn1] at l1 ⊢
  rw [hn2] at l2 ⊢
  rw [hn3] at l3 ⊢
  obtain ⟨wx, hwx⟩ : ∃ wx, wx = w.alloc (.cells #[.slice a1 n1 p1, .slice a2 n2 p2, .slice a3 n3 p3] 31) := ⟨_, rfl⟩
  have hbx : Below w.heap.size w wx := by rw [hwx]; exact kept_alloc _ _
  have hzx : wx.heap.size = w.heap.size + 1 := by rw [hwx]; simp
  have hx := h.keep (w' := wx) fun b _ hlt => hbx.block b hlt
  have hnx : Blk wx w.heap.size [.slice a1 n1 p1, .slice a2 n2 p2, .slice a3 n3 p3] 31 := by rw [hwx]; exact Blk.new _ _ _
  have Hx := Lib.hid hx; have Hn1 := Lib.hid hn1; have Hn2 := Lib.hid hn2; have Hn3 := Lib.hid hn3
  have Hwx := Lib.hid hwx; have Hbx := Lib.hid hbx; have Hzx := Lib.hid hzx
  have c0 := hnx.cell 0
  have c1 := hnx.cell 1
  have c2 := hnx.cell 2
  simp at c0 c1 c2
  have Hnx := Lib.hid hnx
  clear hx hn1 hn2 hn3 hwx hbx hnx hzx
  clear h
  obtain ⟨key, dev⟩ := p
  dsimp only at hp hpd
  obtain ⟨w2, hw2⟩ : ∃ w2, w2 = wx.alloc (.cells #[.string ⟨key.toArray⟩, .int .i64 dev] 91) := ⟨_, rfl⟩
  have hbx2 : Below wx.heap.size wx w2 := by rw [hw2]; exact kept_alloc _ _
  have hb2 : Below w.heap.size w w2 := kept_trans Hbx.out hbx2
  have hq := Blk.new wx #[.string ⟨key.toArray⟩, .int .i64 dev] 91
  rw [← hw2, Hzx.out] at hq
  have q0 := hq.cell 0
  simp at q0
  have hT2 := tabs_below hT h3 hb2
  have hz2 : 3 ≤ w2.heap.size := by have := hb2.size; omega
  have V := Lib.hid (valid_any w2 hT2 hz2 key hp)
  obtain ⟨ok, hok⟩ : ∃ ok, knownR m (key, dev) seq = ok := ⟨_, rfl⟩
  rw [hok]
  have Hok := Lib.hid hok; have Hq := Lib.hid hq; have Hw2 := Lib.hid hw2; have Hbx2 := Lib.hid hbx2
  obtain ⟨kk, hkk⟩ : ∃ kk, keyOk key = kk := ⟨_, rfl⟩
  rw [hkk] at V
  have Hkk := Lib.hid hkk
  clear hok hq hw2 hbx2 hkk c0 c1 c2
  unfold plV
  go_enter Tryz.func48, Tryz.ntmps48
  go_wp2_with fail
  rw [← Hwx.out, ← Hw2.out]
  refine V.out.mono ?_
  rintro e w3 ⟨rfl, hb3⟩
  have r1 : w3.cell? ⟨w.heap.size + 1, 1, none⟩ = some (.int .i64 dev) := by
    have := (Hq.out.keep (hb3.block _ Hq.out.lt)).cell 1
    simpa using this
  have m0 : w3.cell? ⟨w.heap.size, 0, none⟩ = some (.slice a1 n1 p1) := by
    have := ((Hnx.out.keep (Hbx2.out.block _ Hnx.out.lt)).keep (hb3.block _ (Nat.lt_of_lt_of_le Hnx.out.lt Hbx2.out.size))).cell 0
    simpa using this
  have hm3 := (Hx.out.keep (w' := w2) fun b _ hlt => Hbx2.out.block b hlt).keep (w' := w3) fun b _ hlt => hb3.block b hlt
  have Hm3 := Lib.hid hm3
  clear hm3 q0
  cases kk with
  | false =>
    have hk0 := Hkk.out
    obtain rfl : ok = false := by rw [← Hok.out]; simp [knownR, hk0]
    clear V
    go_wp2_with fail
    go_ret
    exact ⟨rfl, hb2.trans (hb3.mono hb2.size)⟩
  | true =>
    by_cases d0 : 0 ≤ dev
    · by_cases d1 : dev < (n1 : Int)
      · by_cases d2 : 1 ≤ seq
        · obtain ⟨k, rfl⟩ := Int.eq_ofNat_of_zero_le d0
          have hk : k < m.seen.length := by rw [Hn1.out]; omega
          obtain ⟨b, off, rfl, -, -, hc⟩ := int_cell Hm3.out.seen (by omega)
          have e0 := hc k hk
          obtain ⟨s, hs⟩ : ∃ s, m.seen[k] = s := ⟨_, rfl⟩
          rw [hs] at e0
          have Hs := Lib.hid (show m.seen.getD k 0 = s by rw [List.getD_eq_getElem?_getD, List.getElem?_eq_getElem hk, hs]; rfl)
          have hok' := Lib.hid (show ok = decide (seq ≤ s) by
            rw [← Hok.out]
            unfold knownR
            rw [Hkk.out]
            have h1 : ((k : Int)).toNat = k := by omega
            simp only [h1, Hs.out, Hn1.out]
            simp [d2]
            omega)
          clear hc hs V
          by_cases d3 : seq ≤ s
          · have hk1 : ok = true := by rw [hok'.out]; simpa using d3
            subst hk1
            go_wp2_with fail
            go_ret
            exact ⟨rfl, hb2.trans (hb3.mono hb2.size)⟩
          · have hk1 : ok = false := by rw [hok'.out]; simpa using d3
            subst hk1
            go_wp2_with fail
            go_ret
            exact ⟨ret_bool (by simpa using d3), hb2.trans (hb3.mono hb2.size)⟩
        ·
          obtain rfl : ok = false := by rw [← Hok.out]; simp [knownR, d2]
          clear V
          go_wp2_with fail
          go_ret
          exact ⟨rfl, hb2.trans (hb3.mono hb2.size)⟩
      · have d1' : ¬ dev < ((m.seen.length : Nat) : Int) := by rw [Hn1.out]; exact d1
        obtain rfl : ok = false := by rw [← Hok.out]; simp [knownR, d1']
        clear V
        go_wp2_with fail
        go_ret
        exact ⟨rfl, hb2.trans (hb3.mono hb2.size)⟩
    ·
      obtain rfl : ok = false := by rw [← Hok.out]; simp [knownR, d0]
      clear V
      go_wp2_with fail
      go_ret
      exact ⟨rfl, hb2.trans (hb3.mono hb2.size)⟩
end Go.Proofs.YtbjkkmabafaogaaGreatDoor
