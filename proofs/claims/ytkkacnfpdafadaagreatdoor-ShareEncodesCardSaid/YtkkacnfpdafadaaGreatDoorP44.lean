/-
  RItem RRef5
-/
import Derived.Test.YtkkacnfpdafadaaGreatDoorP38
import Derived.Test.YtkkacnfpdafadaaGreatDoorP21
namespace Go.Proofs.YtkkacnfpdafadaaGreatDoor
open Go.RowKit
set_option linter.unusedVariables false
set_option maxRecDepth 20000

def zeroIt : RIt := ⟨[], 0, 0, 0⟩
def gotIt (o : Option RIt) : RIt := match o with | some y => y | none => zeroIt
set_option maxRecDepth 100000 in
set_option maxHeartbeats 2000000 in
theorem item_any (w : World) (F : Blks) (v : Value) (m : RMap) (h : MapV F w v m) (key : RKey) (dev : Int) :
    Calls Tryz.prog 91 #[v, .string ⟨key.toArray⟩, .int .i64 dev] w fun e w' => e = .returned (.tuple #[itV (gotIt (look RIt.pl m.items (key, dev))), .bool (look RIt.pl m.items (key, dev)).isSome]) ∧ Below w.heap.size w w' := by
  obtain ⟨s1, s2, s3, rfl, h⟩ := h
  obtain ⟨a1, p1, rfl, -⟩ := h.seen.shape
  obtain ⟨a2, p2, rfl, -⟩ := h.items.shape
  obtain ⟨a3, p3, rfl, -⟩ := h.gone.shape
  have l1 := h.seen.len
  have l2 := h.items.len
  have l3 := h.gone.len
  unfold maxLen at l1 l2 l3
  obtain ⟨n1, hn1⟩ : ∃ n, m.seen.length = n := ⟨_, rfl⟩
  obtain ⟨n2, hn2⟩ : ∃ n, m.items.length = n := ⟨_, rfl⟩
  obtain ⟨n3, hn3⟩ : ∃ n, m.gone.length = n := ⟨_, rfl⟩
  rw [hn1, hn2, hn3] at h
  rw [hn1] at l1 ⊢
  rw [hn2] at l2 ⊢
  rw [hn3] at l3 ⊢
  obtain ⟨wx, hwx⟩ : ∃ wx, wx = w.alloc (.cells #[.slice a1 n1 p1, .slice a2 n2 p2, .slice a3 n3 p3] 26) := ⟨_, rfl⟩
  have hbx : Below w.heap.size w wx := by rw [hwx]; exact kept_alloc _ _
  have hzx : wx.heap.size = w.heap.size + 1 := by rw [hwx]; simp
  have hx := h.keep (w' := wx) fun b _ hlt => hbx.block b hlt
  have hnx : Blk wx w.heap.size [.slice a1 n1 p1, .slice a2 n2 p2, .slice a3 n3 p3] 26 := by rw [hwx]; exact Blk.new _ _ _
  have Hx := Lib.hid hx; have Hn1 := Lib.hid hn1; have Hn2 := Lib.hid hn2; have Hn3 := Lib.hid hn3
  have Hwx := Lib.hid hwx; have Hbx := Lib.hid hbx; have Hzx := Lib.hid hzx
  have c0 := hnx.cell 0
  have c1 := hnx.cell 1
  have c2 := hnx.cell 2
  simp at c0 c1 c2
  have Hnx := Lib.hid hnx
  clear hx hn1 hn2 hn3 hwx hbx hnx hzx
  clear h c0 c2
  obtain ⟨w2, hw2⟩ : ∃ w2, w2 = wx.alloc (.cells #[.string ⟨#[]⟩, .int .i64 0, .int .i64 0, .int .i64 0] 92) := ⟨_, rfl⟩
  have hb2 : Below w.heap.size w w2 := by rw [hw2]; exact Hbx.out.alloc Hbx.out.size _
  have kr : Blk w2 (w.heap.size + 1) [.string ⟨#[]⟩, .int .i64 0, .int .i64 0, .int .i64 0] 92 := by rw [hw2, ← Hzx.out]; exact Blk.new _ _ _
  have ka : Blk w2 w.heap.size [.slice a1 n1 p1, .slice a2 n2 p2, .slice a3 n3 p3] 26 := by rw [hw2]; exact Hnx.out.alloc _
  have hm2 := Hx.out.keep (w' := w2) fun b _ hlt => by rw [hw2]; exact Below.heap_alloc _ _ _ hlt
  obtain ⟨o, ho⟩ : ∃ o, look RIt.pl m.items (key, dev) = o := ⟨_, rfl⟩
  rw [ho]
  have Ho := Lib.hid ho; have Hw2 := Lib.hid hw2; have Hb2 := Lib.hid hb2; have Kr := Lib.hid kr; have Hm2 := Lib.hid hm2
  clear c1
  obtain ⟨-, c1, -⟩ := cell3 ka
  clear ho hw2 hb2 kr ka hm2 Hx
  go_enter Tryz.func91, Tryz.ntmps91
  go_wp2_with fail
  rw [← Hwx.out, ← Hw2.out]
  go_loopw [8] (fun i wr => ∃ k : Nat, k ≤ n2 ∧ i = .int .i64 (k : Int) ∧ wr = w2 ∧ ∀ j (hj : j < m.items.length), j < k → m.items[j].pl ≠ (key, dev)) (fun i _ => n2 - (intOf i).toNat)
  case atStart => exact ⟨0, by omega, rfl, rfl, fun j _ hj => by omega⟩
  case round =>
    obtain ⟨k, hk, rfl, rfl, hall⟩ := hrel
    have Hall := Lib.hid hall
    clear hall
    by_cases hkn : k < n2
    · have hkI : (k : Int) < (n2 : Int) := by omega
      have hkl : k < m.items.length := by rw [Hn2.out]; exact hkn
      obtain ⟨b, off, rfl, -, -, hc⟩ := it_cell Hm2.out.items (by omega)
      obtain ⟨e0, e1, e2, e3⟩ := hc k hkl
      obtain ⟨x, hx⟩ : ∃ x, m.items[k] = x := ⟨_, rfl⟩
      rw [hx] at e0 e1 e2 e3
      have Hx := Lib.hid hx
      clear hc hx
      obtain ⟨xk, xd, xs, xv⟩ := x
      dsimp only at e0 e1 e2 e3
      by_cases g0 : xk = key
      · have g0' : (xk == key) = true := by simpa using g0
        by_cases g1 : xd = dev
        · have g1' : (xd == dev) = true := by simpa using g1
          obtain rfl : o = some ⟨xk, xd, xs, xv⟩ := by
            rw [← Ho.out, look_first m.items (key, dev) k hkl Hall.out (by rw [Hx.out]; show (xk, xd) = _; rw [g0, g1]), Hx.out]
          clear g0 g1
          obtain ⟨wf, hwf, hblk, hbf⟩ := fin4 Kr.out Hb2.out (Nat.le_succ _) (.string ⟨xk.toArray⟩) (.int .i64 xd) (.int .i64 xs) (.int .i64 xv)
          obtain ⟨y0, y1, y2, y3⟩ := cell4 Kr.out
          have z0 := Kr.out.free 0
          have z1 := Kr.out.free 1
          have z2 := Kr.out.free 2
          have z3 := Kr.out.free 3
          have Q := Lib.hid (cell4 hblk); have Hbf := Lib.hid hbf; have Hwf := Lib.hid hwf
          clear hwf hblk hbf
          go_wp2_with fail
          rw [← Hwf.out]
          obtain ⟨q0, q1, q2, q3⟩ := Q.out
          exact bodyPost_ret (v := .tuple #[.agg #[.string ⟨xk.toArray⟩, .int .i64 xd, .int .i64 xs, .int .i64 xv], .bool true]) (by simp [results, Tryz.results91, go_sem, q0, q1, q2, q3]) rfl ⟨rfl, Hbf.out⟩
        · have g1' : (xd == dev) = false := by simpa using g1
          have Hne := Lib.hid (show RIt.pl ⟨xk, xd, xs, xv⟩ ≠ (key, dev) from fun e => g1 (Prod.mk.inj e).2)
          clear g0 g1
          go_wp2_with fail
          go_roundw
          case rel => exact ⟨k + 1, by omega, by go_num, by trivial, fun j hj hjk => by
            rcases Nat.lt_succ_iff_lt_or_eq.1 hjk with h | h
            · exact Hall.out j hj h
            · subst h; rw [Hx.out]; exact Hne.out⟩
          case measure => simp [intOf]; omega
      · have g0' : (xk == key) = false := by simpa using g0
        have Hne := Lib.hid (show RIt.pl ⟨xk, xd, xs, xv⟩ ≠ (key, dev) from fun e => g0 (Prod.mk.inj e).1)
        clear g0
        go_wp2_with fail
        go_roundw
        case rel => exact ⟨k + 1, by omega, by go_num, by trivial, fun j hj hjk => by
          rcases Nat.lt_succ_iff_lt_or_eq.1 hjk with h | h
          · exact Hall.out j hj h
          · subst h; rw [Hx.out]; exact Hne.out⟩
        case measure => simp [intOf]; omega
    · have hkI : ¬ (k : Int) < (n2 : Int) := by omega
      obtain rfl : o = none := by
        rw [← Ho.out, look_all m.items (key, dev) fun j hj => Hall.out j hj (by rw [Hn2.out] at hj; omega)]
      obtain ⟨wf, hwf, hblk, hbf⟩ := fin4 Kr.out Hb2.out (Nat.le_succ _) (.string ⟨#[]⟩) (.int .i64 0) (.int .i64 0) (.int .i64 0)
      obtain ⟨y0, y1, y2, y3⟩ := cell4 Kr.out
      have z0 := Kr.out.free 0
      have z1 := Kr.out.free 1
      have z2 := Kr.out.free 2
      have z3 := Kr.out.free 3
      have Q := Lib.hid (cell4 hblk); have Hbf := Lib.hid hbf; have Hwf := Lib.hid hwf
      clear hwf hblk hbf
      go_wp2_with fail
      rw [← Hwf.out]
      obtain ⟨q0, q1, q2, q3⟩ := Q.out
      exact bodyPost_ret (v := .tuple #[.agg #[.string ⟨#[]⟩, .int .i64 0, .int .i64 0, .int .i64 0], .bool false]) (by simp [results, Tryz.results91, go_sem, q0, q1, q2, q3]) rfl ⟨rfl, Hbf.out⟩
end Go.Proofs.YtkkacnfpdafadaaGreatDoor

namespace Go.Proofs.YtkkacnfpdafadaaGreatDoor
open Go.RowKit
set_option linter.unusedVariables false
set_option maxRecDepth 20000
attribute [local go_sem ↓] seal_append
attribute [local go_sem] opC upC

theorem take_filter {α : Type} (p : α → Bool) (l : List α) (k : Nat) (h : k < l.length) : (l.take (k + 1)).filter p = (l.take k).filter p ++ (if p l[k] then [l[k]] else []) := by
  rw [List.take_succ_eq_append_getElem h, List.filter_append]
  congr 1
  by_cases hp : p l[k] = true
  · rw [if_pos hp, List.filter_cons, if_pos hp]; rfl
  · rw [if_neg hp, List.filter_cons, if_neg hp]; rfl
end Go.Proofs.YtkkacnfpdafadaaGreatDoor
