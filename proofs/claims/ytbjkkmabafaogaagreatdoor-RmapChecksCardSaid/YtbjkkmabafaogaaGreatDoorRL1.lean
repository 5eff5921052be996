/- The law's own functions on maps: few, given, taken, same. -/
import Derived.Test.YtbjkkmabafaogaaGreatDoorChecked
import Derived.Test.YtbjkkmabafaogaaGreatDoorRMem
import Derived.WalkSpells
namespace Go.Proofs.YtbjkkmabafaogaaGreatDoor
open Go.RowKit
set_option linter.unusedVariables false
set_option maxRecDepth 20000
attribute [local go_sem ↓] seal_append

/-- as small as is considered -/
structure Small (m : RMap) : Prop where
  seen : m.seen.length ≤ 20
  items : m.items.length ≤ 60
  gone : m.gone.length ≤ 60
  ikeys : ∀ x ∈ m.items, x.key.length ≤ 500
  gkeys : ∀ x ∈ m.gone, x.key.length ≤ 500
def FewPost (w : World) (m : RMap) (e : Ending) (w' : World) : Prop := ∃ r, e = .returned (.bool r) ∧ (r = true → Small m) ∧ Below w.heap.size w w'

set_option maxRecDepth 100000 in
set_option maxHeartbeats 1000000 in
theorem few_any (w : World) (F : Blks) (v : Value) (m : RMap) (h : MapV F w v m) :
    Calls Tryz.prog 17 #[v] w (FewPost w m) := by
  obtain ⟨s1, s2, s3, rfl, h⟩ := h
  obtain ⟨a1, p1, rfl, -⟩ := h.seen.shape
  obtain ⟨a2, p2, rfl, -⟩ := h.items.shape
  obtain ⟨a3, p3, rfl, -⟩ := h.gone.shape
  have l1 := h.seen.len
  have l2 := h.items.len
  have l3 := h.gone.len
  unfold maxLen at l1 l2 l3
  obtain ⟨n1, hn1⟩ : ∃ n, m.seen.length = n := ⟨_, rfl⟩
  obtain ⟨n2, hn2⟩ : ∃ n, m.items.length = n := ⟨_, rfl⟩
  obtain ⟨n3, hn3⟩ : ∃ n, m.gone.length = n := ⟨_, rfl⟩
  rw [hn1, hn2, hn3] at h
  rw [hn1] at l1 ⊢
  rw [hn2] at l2 ⊢
  rw [hn3] at l3 ⊢
  obtain ⟨wx, hwx⟩ : ∃ wx, wx = w.alloc (.cells #[.slice a1 n1 p1, .slice a2 n2 p2, .slice a3 n3 p3] 26) := ⟨_, rfl⟩
  have hbx : Below w.heap.size w wx := by rw [hwx]; exact kept_alloc _ _
  have hzx : wx.heap.size = w.heap.size + 1 := by rw [hwx]; simp
  have hx := h.keep (w' := wx) fun b _ hlt => hbx.block b hlt
  have hnx : Blk wx w.heap.size [.slice a1 n1 p1, .slice a2 n2 p2, .slice a3 n3 p3] 26 := by rw [hwx]; exact Blk.new _ _ _
  have Hx := Lib.hid hx; have Hn1 := Lib.hid hn1; have Hn2 := Lib.hid hn2; have Hn3 := Lib.hid hn3
  have Hwx := Lib.hid hwx; have Hbx := Lib.hid hbx; have Hzx := Lib.hid hzx
  have c0 := hnx.cell 0
  have c1 := hnx.cell 1
  have c2 := hnx.cell 2
  simp at c0 c1 c2
  have Hnx := Lib.hid hnx
  clear hx hn1 hn2 hn3 hwx hbx hnx hzx
  clear h
  go_enter Tryz.func17, Tryz.ntmps17
  by_cases h1 : (n1 : Int) > 20
  · have d1 : decide ((n1 : Int) > 20) = true := by simpa using h1
    go_wp2_with fail
    go_ret
    exact ⟨false, rfl, nofun, kept_alloc _ _⟩
  have d1 : decide ((n1 : Int) > 20) = false := by simpa using h1
  by_cases h2 : (n2 : Int) > 60
  · have d2 : decide ((n2 : Int) > 60) = true := by simpa using h2
    go_wp2_with fail
    go_ret
    exact ⟨false, rfl, nofun, kept_alloc _ _⟩
  have d2 : decide ((n2 : Int) > 60) = false := by simpa using h2
  by_cases h3 : (n3 : Int) > 60
  · have d3 : decide ((n3 : Int) > 60) = true := by simpa using h3
    go_wp2_with fail
    go_ret
    exact ⟨false, rfl, nofun, kept_alloc _ _⟩
  have d3 : decide ((n3 : Int) > 60) = false := by simpa using h3
  go_wp2_with fail
  rw [← Hwx.out]
  go_loop [3] (fun i => ∃ k : Nat, k ≤ n2 ∧ i = .int .i64 (k : Int) ∧ ∀ j (hj : j < m.items.length), j < k → m.items[j].key.length ≤ 500) (fun i => n2 - (intOf i).toNat)
  case atStart => exact ⟨0, by omega, rfl, fun j _ hj => by omega⟩
  case round =>
    obtain ⟨k, hk, rfl, hall⟩ := hrel
    have Hall := Lib.hid hall
    clear hall
    by_cases hkn : k < n2
    · have hkI : (k : Int) < (n2 : Int) := by omega
      have hkm : k < m.items.length := by rw [Hn2.out]; exact hkn
      obtain ⟨b, off, rfl, -, -, hc⟩ := it_cell Hx.out.items (by omega)
      obtain ⟨e0, -⟩ := hc k hkm
      obtain ⟨q, hq⟩ : ∃ q, m.items[k].key = q := ⟨_, rfl⟩
      rw [hq] at e0
      have Hq := Lib.hid hq
      clear hc hq
      by_cases hl : (q.length : Int) > 500
      · have dl : decide ((q.length : Int) > 500) = true := by simpa using hl
        go_wp2_with fail
        go_ret
        exact ⟨false, rfl, nofun, by rw [Hwx.out]; exact kept_alloc _ _⟩
      · have dl : decide ((q.length : Int) > 500) = false := by simpa using hl
        go_wp2_with fail
        go_round
        case rel => exact ⟨k + 1, by omega, by go_num, fun j hj hjk => by
          rcases Nat.lt_succ_iff_lt_or_eq.1 hjk with h | h
          · exact Hall.out j hj h
          · subst h; rw [Hq.out]; omega⟩
        case measure => simp [intOf]; omega
    · have hkI : ¬ (k : Int) < (n2 : Int) := by omega
      have hik : ∀ x ∈ m.items, x.key.length ≤ 500 := fun x hx => by
        obtain ⟨j, hj, rfl⟩ := List.getElem_of_mem hx
        exact Hall.out j hj (by rw [Hn2.out] at hj; omega)
      have Hik := Lib.hid hik
      clear hik
      go_wp2_with fail
      go_loop [4] (fun i => ∃ k : Nat, k ≤ n3 ∧ i = .int .i64 (k : Int) ∧ ∀ j (hj : j < m.gone.length), j < k → m.gone[j].key.length ≤ 500) (fun i => n3 - (intOf i).toNat)
      case atStart => exact ⟨0, by omega, rfl, fun j _ hj => by omega⟩
      case round =>
        obtain ⟨k, hk, rfl, hall⟩ := hrel
        have Hall := Lib.hid hall
        clear hall
        by_cases hkn : k < n3
        · have hkI : (k : Int) < (n3 : Int) := by omega
          have hkm : k < m.gone.length := by rw [Hn3.out]; exact hkn
          obtain ⟨b, off, rfl, -, -, hc⟩ := go_cell Hx.out.gone (by omega)
          obtain ⟨e0, -⟩ := hc k hkm
          obtain ⟨q, hq⟩ : ∃ q, m.gone[k].key = q := ⟨_, rfl⟩
          rw [hq] at e0
          have Hq := Lib.hid hq
          clear hc hq
          by_cases hl : (q.length : Int) > 500
          · have dl : decide ((q.length : Int) > 500) = true := by simpa using hl
            go_wp2_with fail
            go_ret
            exact ⟨false, rfl, nofun, by rw [Hwx.out]; exact kept_alloc _ _⟩
          · have dl : decide ((q.length : Int) > 500) = false := by simpa using hl
            go_wp2_with fail
            go_round
            case rel => exact ⟨k + 1, by omega, by go_num, fun j hj hjk => by
              rcases Nat.lt_succ_iff_lt_or_eq.1 hjk with h | h
              · exact Hall.out j hj h
              · subst h; rw [Hq.out]; omega⟩
            case measure => simp [intOf]; omega
        · have hkI : ¬ (k : Int) < (n3 : Int) := by omega
          have hgk : ∀ x ∈ m.gone, x.key.length ≤ 500 := fun x hx => by
            obtain ⟨j, hj, rfl⟩ := List.getElem_of_mem hx
            exact Hall.out j hj (by rw [Hn3.out] at hj; omega)
          have Hgk := Lib.hid hgk
          clear hgk
          go_wp2_with fail
          go_ret
          exact ⟨true, rfl, fun _ => ⟨by rw [Hn1.out]; omega, by rw [Hn2.out]; omega, by rw [Hn3.out]; omega, Hik.out, Hgk.out⟩, by rw [Hwx.out]; exact kept_alloc _ _⟩
end Go.Proofs.YtbjkkmabafaogaaGreatDoor
