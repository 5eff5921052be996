/-
  RRefV
-/
import Derived.Test.YtohahloghmanpaaGreatDoorZB09
import Derived.Test.YtohahloghmanpaaGreatDoorZB12
import Derived.Test.YtohahloghmanpaaGreatDoorZB18
import Derived.Test.YtohahloghmanpaaGreatDoorZB03
import Derived.Sort.Walk0
import Derived.Laws.Cover1
namespace Go.Proofs.YtohahloghmanpaaGreatDoor
open Go.RowKit
set_option linter.unusedVariables false
set_option maxRecDepth 20000
attribute [local go_sem] opC upC

set_option maxHeartbeats 1000000 in
theorem before_any (w : World) (k k' : RKey) (d d' : Int) :
    Calls Tryz.prog 63 #[.string ⟨k.toArray⟩, .int .i64 d, .string ⟨k'.toArray⟩, .int .i64 d'] w fun e w' => e = .returned (.bool (decide (plt (k, d) (k', d')))) ∧ w = w' := by
  obtain ⟨r, hr⟩ : ∃ r, decide (plt (k, d) (k', d')) = r := ⟨_, rfl⟩
  rw [hr]
  have Hr := Lib.hid hr
  clear hr
  by_cases h1 : k < k'
  · obtain rfl : r = true := by rw [← Hr.out]; exact decide_eq_true (.inl h1)
    have hb : Op.bytesLess k k' = true := by rw [Go.Proofs.bytesLess_eq]; simpa using h1
    clear h1
    go_enter Tryz.func63, Tryz.ntmps63
    go_wp2_with fail
    go_ret
    exact ⟨rfl, rfl⟩
  have hb : Op.bytesLess k k' = false := by rw [Go.Proofs.bytesLess_eq]; simpa using h1
  by_cases h2 : k = k'
  · have hE := Lib.hid h2
    have he : (k == k') = true := by simpa using h2
    by_cases h3 : d < d'
    · obtain rfl : r = true := by rw [← Hr.out]; exact decide_eq_true (.inr ⟨h2, h3⟩)
      clear h1 h2
      go_enter Tryz.func63, Tryz.ntmps63
      go_wp2_with fail
      go_ret
      exact ⟨rfl, rfl⟩
    · obtain rfl : r = false := by
        rw [← Hr.out]
        exact decide_eq_false fun h => h.elim h1 fun h => h3 h.2
      clear h1 h2
      go_enter Tryz.func63, Tryz.ntmps63
      go_wp2_with fail
      go_ret
      exact ⟨ret_bool (by simp), rfl⟩
  · have he : (k == k') = false := by simpa using h2
    obtain rfl : r = false := by
      rw [← Hr.out]
      exact decide_eq_false fun h => h.elim h1 fun h => h2 h.1
    clear h1 h2
    go_enter Tryz.func63, Tryz.ntmps63
    go_wp2_with fail
    go_ret
    exact ⟨rfl, rfl⟩

set_option maxRecDepth 100000 in
set_option maxHeartbeats 1500000 in
theorem placed_any (w : World) (F : Blks) (v : Value) (m : RMap) (h : MapV F w v m) (key : RKey) (dev seq : Int) (hp : key.length ≤ 1000000000) (hpd : i64ok dev) (hsq : i64ok seq) :
    Calls Tryz.prog 62 #[v, .string ⟨key.toArray⟩, .int .i64 dev, .int .i64 seq] w fun e w' => e = .returned (.bool (knownR m (key, dev) seq)) ∧ Below w.heap.size w w' := by
  obtain ⟨s1, s2, s3, rfl, h⟩ := h
  obtain ⟨a1, p1, rfl, -⟩ := h.seen.shape
  obtain ⟨a2, p2, rfl, -⟩ := h.items.shape
  obtain ⟨a3, p3, rfl, -⟩ := h.gone.shape
  have l1 := h.seen.len
  have l2 := h.items.len
  have l3 := h.gone.len
  unfold maxLen at l1 l2 l3
  obtain ⟨n1, hn1⟩ : ∃ n, m.seen.length = n := ⟨_, rfl⟩
  obtain ⟨n2, hn2⟩ : ∃ n, m.items.length = n := ⟨_, rfl⟩
  obtain ⟨n3, hn3⟩ : ∃ n, m.gone.length = n := ⟨_, rfl⟩
  rw [hn1, hn2, hn3] at h
  rw [hn1] at l1 ⊢
  rw [hn2] at l2 ⊢
  rw [hn3] at l3 ⊢
  obtain ⟨wx, hwx⟩ : ∃ wx, wx = w.alloc (.cells #[.slice a1 n1 p1, .slice a2 n2 p2, .slice a3 n3 p3] 26) := ⟨_, rfl⟩
  have hbx : Below w.heap.size w wx := by rw [hwx]; exact kept_alloc _ _
  have hzx : wx.heap.size = w.heap.size + 1 := by rw [hwx]; simp
  have hx := h.keep (w' := wx) fun b _ hlt => hbx.block b hlt
  have hnx : Blk wx w.heap.size [.slice a1 n1 p1, .slice a2 n2 p2, .slice a3 n3 p3] 26 := by rw [hwx]; exact Blk.new _ _ _
  have Hx := Lib.hid hx; have Hn1 := Lib.hid hn1; have Hn2 := Lib.hid hn2; have Hn3 := Lib.hid hn3
  have Hwx := Lib.hid hwx; have Hbx := Lib.hid hbx; have Hzx := Lib.hid hzx
  have c0 := hnx.cell 0
  have c1 := hnx.cell 1
  have c2 := hnx.cell 2
  simp at c0 c1 c2
  have Hnx := Lib.hid hnx
  clear hx hn1 hn2 hn3 hwx hbx hnx hzx
  clear h
  have V := Lib.hid (rkeyValid_any wx key hp)
  obtain ⟨ok, hok⟩ : ∃ ok, knownR m (key, dev) seq = ok := ⟨_, rfl⟩
  rw [hok]
  have Hok := Lib.hid hok
  obtain ⟨kk, hkk⟩ : ∃ kk, keyOk key = kk := ⟨_, rfl⟩
  rw [hkk] at V
  have Hkk := Lib.hid hkk
  clear hok hkk c0 c1 c2
  go_enter Tryz.func62, Tryz.ntmps62
  go_wp2_with fail
  rw [← Hwx.out]
  refine V.out.mono ?_
  rintro e w3 ⟨rfl, hb3⟩
  have m0 : w3.cell? ⟨w.heap.size, 0, none⟩ = some (.slice a1 n1 p1) := by
    have := (Hnx.out.keep (hb3.block _ Hnx.out.lt)).cell 0
    simpa using this
  have hm3 := Hx.out.keep (w' := w3) fun b _ hlt => hb3.block b hlt
  have Hm3 := Lib.hid hm3
  clear hm3
  cases kk with
  | false =>
    have hk0 := Hkk.out
    obtain rfl : ok = false := by rw [← Hok.out]; simp [knownR, hk0]
    clear V
    go_wp2_with fail
    go_ret
    exact ⟨rfl, Hbx.out.trans (hb3.mono Hbx.out.size)⟩
  | true =>
    by_cases d0 : 0 ≤ dev
    · by_cases d1 : dev < (n1 : Int)
      · by_cases d2 : 1 ≤ seq
        · obtain ⟨k, rfl⟩ := Int.eq_ofNat_of_zero_le d0
          have hk : k < m.seen.length := by rw [Hn1.out]; omega
          obtain ⟨b, off, rfl, -, -, hc⟩ := int_cell Hm3.out.seen (by omega)
          have e0 := hc k hk
          obtain ⟨s, hs⟩ : ∃ s, m.seen[k] = s := ⟨_, rfl⟩
          rw [hs] at e0
          have Hs := Lib.hid (show m.seen.getD k 0 = s by rw [List.getD_eq_getElem?_getD, List.getElem?_eq_getElem hk, hs]; rfl)
          have hok' := Lib.hid (show ok = decide (seq ≤ s) by
            rw [← Hok.out]
            unfold knownR
            rw [Hkk.out]
            have h1 : ((k : Int)).toNat = k := by omega
            simp only [h1, Hs.out, Hn1.out]
            simp [d2]
            omega)
          clear hc hs V
          by_cases d3 : seq ≤ s
          · have hk1 : ok = true := by rw [hok'.out]; simpa using d3
            subst hk1
            go_wp2_with fail
            go_ret
            exact ⟨rfl, Hbx.out.trans (hb3.mono Hbx.out.size)⟩
          · have hk1 : ok = false := by rw [hok'.out]; simpa using d3
            subst hk1
            go_wp2_with fail
            go_ret
            exact ⟨ret_bool (by simpa using d3), Hbx.out.trans (hb3.mono Hbx.out.size)⟩
        ·
          obtain rfl : ok = false := by rw [← Hok.out]; simp [knownR, d2]
          clear V
          go_wp2_with fail
          go_ret
          exact ⟨rfl, Hbx.out.trans (hb3.mono Hbx.out.size)⟩
      · have d1' : ¬ dev < ((m.seen.length : Nat) : Int) := by rw [Hn1.out]; exact d1
        obtain rfl : ok = false := by rw [← Hok.out]; simp [knownR, d1']
        clear V
        go_wp2_with fail
        go_ret
        exact ⟨rfl, Hbx.out.trans (hb3.mono Hbx.out.size)⟩
    ·
      obtain rfl : ok = false := by rw [← Hok.out]; simp [knownR, d0]
      clear V
      go_wp2_with fail
      go_ret
      exact ⟨rfl, Hbx.out.trans (hb3.mono Hbx.out.size)⟩

theorem look_first {α : Type} {pl : α → RPl} : ∀ (l : List α) (p : RPl) (k : Nat) (hk : k < l.length), (∀ j (hj : j < l.length), j < k → pl l[j] ≠ p) → pl l[k] = p → look pl l p = some l[k]
  | [], _, k, hk, _, _ => by simp at hk
  | x :: l, p, 0, hk, _, h => by rw [look_cons, if_pos (by simpa using h)]; rfl
  | x :: l, p, k + 1, hk, hb, h => by
    rw [look_cons, if_neg (show pl x ≠ p from hb 0 (Nat.succ_pos _) (by omega))]
    have := look_first l p k (by simpa using hk) (fun j hj hjk => hb (j + 1) (by simpa using hj) (by omega)) (by simpa using h)
    simpa using this
theorem look_all {α : Type} {pl : α → RPl} (l : List α) (p : RPl) (h : ∀ j (hj : j < l.length), pl l[j] ≠ p) : look pl l p = none :=
  look_none.2 fun x hx => by
    obtain ⟨j, hj, rfl⟩ := List.mem_iff_getElem.1 hx
    exact h j hj

set_option maxRecDepth 100000 in
set_option maxHeartbeats 1500000 in
theorem gone_any (w : World) (F : Blks) (v : Value) (m : RMap) (h : MapV F w v m) (key : RKey) (dev : Int) :
    Calls Tryz.prog 64 #[v, .string ⟨key.toArray⟩, .int .i64 dev] w fun e w' => e = .returned (.int .i64 (m.buried (key, dev))) ∧ Below w.heap.size w w' := by
  obtain ⟨s1, s2, s3, rfl, h⟩ := h
  obtain ⟨a1, p1, rfl, -⟩ := h.seen.shape
  obtain ⟨a2, p2, rfl, -⟩ := h.items.shape
  obtain ⟨a3, p3, rfl, -⟩ := h.gone.shape
  have l1 := h.seen.len
  have l2 := h.items.len
  have l3 := h.gone.len
  unfold maxLen at l1 l2 l3
  obtain ⟨n1, hn1⟩ : ∃ n, m.seen.length = n := ⟨_, rfl⟩
  obtain ⟨n2, hn2⟩ : ∃ n, m.items.length = n := ⟨_, rfl⟩
  obtain ⟨n3, hn3⟩ : ∃ n, m.gone.length = n := ⟨_, rfl⟩
  rw [hn1, hn2, hn3] at h
  rw [hn1] at l1 ⊢
  rw [hn2] at l2 ⊢
  rw [hn3] at l3 ⊢
  obtain ⟨wx, hwx⟩ : ∃ wx, wx = w.alloc (.cells #[.slice a1 n1 p1, .slice a2 n2 p2, .slice a3 n3 p3] 26) := ⟨_, rfl⟩
  have hbx : Below w.heap.size w wx := by rw [hwx]; exact kept_alloc _ _
  have hzx : wx.heap.size = w.heap.size + 1 := by rw [hwx]; simp
  have hx := h.keep (w' := wx) fun b _ hlt => hbx.block b hlt
  have hnx : Blk wx w.heap.size [.slice a1 n1 p1, .slice a2 n2 p2, .slice a3 n3 p3] 26 := by rw [hwx]; exact Blk.new _ _ _
  have Hx := Lib.hid hx; have Hn1 := Lib.hid hn1; have Hn2 := Lib.hid hn2; have Hn3 := Lib.hid hn3
  have Hwx := Lib.hid hwx; have Hbx := Lib.hid hbx; have Hzx := Lib.hid hzx
  have c0 := hnx.cell 0
  have c1 := hnx.cell 1
  have c2 := hnx.cell 2
  simp at c0 c1 c2
  have Hnx := Lib.hid hnx
  clear hx hn1 hn2 hn3 hwx hbx hnx hzx
  clear h c0 c1
  obtain ⟨s, hs⟩ : ∃ s, m.buried (key, dev) = s := ⟨_, rfl⟩
  rw [hs]
  have Hs := Lib.hid hs
  clear hs
  go_enter Tryz.func64, Tryz.ntmps64
  go_wp2_with fail
  rw [← Hwx.out]
  go_loopw [7] (fun i wr => ∃ k : Nat, k ≤ n3 ∧ i = .int .i64 (k : Int) ∧ wr = wx ∧ ∀ j (hj : j < m.gone.length), j < k → m.gone[j].pl ≠ (key, dev)) (fun i _ => n3 - (intOf i).toNat)
  case atStart => exact ⟨0, by omega, rfl, rfl, fun j _ hj => by omega⟩
  case round =>
    obtain ⟨k, hk, rfl, rfl, hall⟩ := hrel
    have Hall := Lib.hid hall
    clear hall
    by_cases hkn : k < n3
    · have hkI : (k : Int) < (n3 : Int) := by omega
      have hkl : k < m.gone.length := by rw [Hn3.out]; exact hkn
      obtain ⟨b, off, rfl, -, -, hc⟩ := go_cell Hx.out.gone (by omega)
      obtain ⟨e0, e1, e2⟩ := hc k hkl
      obtain ⟨x, hx⟩ : ∃ x, m.gone[k] = x := ⟨_, rfl⟩
      rw [hx] at e0 e1 e2
      have HX := Hx
      clear Hx
      have Hx := Lib.hid hx
      clear hc hx
      obtain ⟨xk, xd, xs⟩ := x
      dsimp only at e0 e1 e2
      by_cases g0 : xk = key
      · have g0' : (xk == key) = true := by simpa using g0
        by_cases g1 : xd = dev
        · have g1' : (xd == dev) = true := by simpa using g1
          obtain rfl : s = xs := by
            rw [← Hs.out]; unfold RMap.buried; rw [look_first m.gone (key, dev) k hkl Hall.out (by rw [Hx.out]; show (xk, xd) = _; rw [g0, g1]), Hx.out]
          clear g0 g1
          go_wp2_with fail
          go_ret
          exact ⟨rfl, Hbx.out⟩
        · have g1' : (xd == dev) = false := by simpa using g1
          have Hne := Lib.hid (show RGo.pl ⟨xk, xd, xs⟩ ≠ (key, dev) from fun e => g1 (Prod.mk.inj e).2)
          clear g0 g1
          go_wp2_with fail
          go_roundw
          case rel => exact ⟨k + 1, by omega, by go_num, by trivial, fun j hj hjk => by
            rcases Nat.lt_succ_iff_lt_or_eq.1 hjk with h | h
            · exact Hall.out j hj h
            · subst h; rw [Hx.out]; exact Hne.out⟩
          case measure => simp [intOf]; omega
      · have g0' : (xk == key) = false := by simpa using g0
        have Hne := Lib.hid (show RGo.pl ⟨xk, xd, xs⟩ ≠ (key, dev) from fun e => g0 (Prod.mk.inj e).1)
        clear g0
        go_wp2_with fail
        go_roundw
        case rel => exact ⟨k + 1, by omega, by go_num, by trivial, fun j hj hjk => by
          rcases Nat.lt_succ_iff_lt_or_eq.1 hjk with h | h
          · exact Hall.out j hj h
          · subst h; rw [Hx.out]; exact Hne.out⟩
        case measure => simp [intOf]; omega
    · have hkI : ¬ (k : Int) < (n3 : Int) := by omega
      obtain rfl : s = 0 := by
        rw [← Hs.out]; unfold RMap.buried; rw [look_all m.gone (key, dev) fun j hj => Hall.out j hj (by rw [Hn3.out] at hj; omega)]
      go_wp2_with fail
      go_ret
      exact ⟨rfl, Hbx.out⟩
end Go.Proofs.YtohahloghmanpaaGreatDoor
