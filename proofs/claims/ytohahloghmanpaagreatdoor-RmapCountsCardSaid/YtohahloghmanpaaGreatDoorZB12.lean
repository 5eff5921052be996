/-
  RL4
-/
import Derived.Test.YtohahloghmanpaaGreatDoorChecked
import Derived.Test.YtohahloghmanpaaGreatDoorZB06
import Derived.WalkSpells
import Derived.Test.YtohahloghmanpaaGreatDoorZB11
namespace Go.Proofs.YtohahloghmanpaaGreatDoor
open Go.RowKit
set_option linter.unusedVariables false
set_option maxRecDepth 20000
attribute [local go_sem ↓] seal_append

structure Small (m : RMap) : Prop where
  seen : m.seen.length ≤ 20
  items : m.items.length ≤ 60
  gone : m.gone.length ≤ 60
  ikeys : ∀ x ∈ m.items, x.key.length ≤ 500
  gkeys : ∀ x ∈ m.gone, x.key.length ≤ 500
def FewPost (w : World) (m : RMap) (e : Ending) (w' : World) : Prop := ∃ r, e = .returned (.bool r) ∧ (r = true → Small m) ∧ Below w.heap.size w w'

set_option maxRecDepth 100000 in
set_option maxHeartbeats 1000000 in
theorem few_any (w : World) (F : Blks) (v : Value) (m : RMap) (h : MapV F w v m) :
    Calls Tryz.prog 4 #[v] w (FewPost w m) := by
  obtain ⟨s1, s2, s3, rfl, h⟩ := h
  obtain ⟨a1, p1, rfl, -⟩ := h.seen.shape
  obtain ⟨a2, p2, rfl, -⟩ := h.items.shape
  obtain ⟨a3, p3, rfl, -⟩ := h.gone.shape
  have l1 := h.seen.len
  have l2 := h.items.len
  have l3 := h.gone.len
  unfold maxLen at l1 l2 l3
  obtain ⟨n1, hn1⟩ : ∃ n, m.seen.length = n := ⟨_, rfl⟩
  obtain ⟨n2, hn2⟩ : ∃ n, m.items.length = n := ⟨_, rfl⟩
  obtain ⟨n3, hn3⟩ : ∃ n, m.gone.length = n := ⟨_, rfl⟩
  rw [hn1, hn2, hn3] at h
  rw [hn1] at l1 ⊢
  rw [hn2] at l2 ⊢
  rw [hn3] at l3 ⊢
  obtain ⟨wx, hwx⟩ : ∃ wx, wx = w.alloc (.cells #[.slice a1 n1 p1, .slice a2 n2 p2, .slice a3 n3 p3] 26) := ⟨_, rfl⟩
  have hbx : Below w.heap.size w wx := by rw [hwx]; exact kept_alloc _ _
  have hzx : wx.heap.size = w.heap.size + 1 := by rw [hwx]; simp
  have hx := h.keep (w' := wx) fun b _ hlt => hbx.block b hlt
  have hnx : Blk wx w.heap.size [.slice a1 n1 p1, .slice a2 n2 p2, .slice a3 n3 p3] 26 := by rw [hwx]; exact Blk.new _ _ _
  have Hx := Lib.hid hx; have Hn1 := Lib.hid hn1; have Hn2 := Lib.hid hn2; have Hn3 := Lib.hid hn3
  have Hwx := Lib.hid hwx; have Hbx := Lib.hid hbx; have Hzx := Lib.hid hzx
  have c0 := hnx.cell 0
  have c1 := hnx.cell 1
  have c2 := hnx.cell 2
  simp at c0 c1 c2
  have Hnx := Lib.hid hnx
  clear hx hn1 hn2 hn3 hwx hbx hnx hzx
  clear h
  go_enter Tryz.func4, Tryz.ntmps4
  by_cases h1 : (n1 : Int) > 20
  · have d1 : decide ((n1 : Int) > 20) = true := by simpa using h1
    go_wp2_with fail
    go_ret
    exact ⟨false, rfl, nofun, kept_alloc _ _⟩
  have d1 : decide ((n1 : Int) > 20) = false := by simpa using h1
  by_cases h2 : (n2 : Int) > 60
  · have d2 : decide ((n2 : Int) > 60) = true := by simpa using h2
    go_wp2_with fail
    go_ret
    exact ⟨false, rfl, nofun, kept_alloc _ _⟩
  have d2 : decide ((n2 : Int) > 60) = false := by simpa using h2
  by_cases h3 : (n3 : Int) > 60
  · have d3 : decide ((n3 : Int) > 60) = true := by simpa using h3
    go_wp2_with fail
    go_ret
    exact ⟨false, rfl, nofun, kept_alloc _ _⟩
  have d3 : decide ((n3 : Int) > 60) = false := by simpa using h3
  go_wp2_with fail
  rw [← Hwx.out]
  go_loop [3] (fun i => ∃ k : Nat, k ≤ n2 ∧ i = .int .i64 (k : Int) ∧ ∀ j (hj : j < m.items.length), j < k → m.items[j].key.length ≤ 500) (fun i => n2 - (intOf i).toNat)
  case atStart => exact ⟨0, by omega, rfl, fun j _ hj => by omega⟩
  case round =>
    obtain ⟨k, hk, rfl, hall⟩ := hrel
    have Hall := Lib.hid hall
    clear hall
    by_cases hkn : k < n2
    · have hkI : (k : Int) < (n2 : Int) := by omega
      have hkm : k < m.items.length := by rw [Hn2.out]; exact hkn
      obtain ⟨b, off, rfl, -, -, hc⟩ := it_cell Hx.out.items (by omega)
      obtain ⟨e0, -⟩ := hc k hkm
      obtain ⟨q, hq⟩ : ∃ q, m.items[k].key = q := ⟨_, rfl⟩
      rw [hq] at e0
      have Hq := Lib.hid hq
      clear hc hq
      by_cases hl : (q.length : Int) > 500
      · have dl : decide ((q.length : Int) > 500) = true := by simpa using hl
        go_wp2_with fail
        go_ret
        exact ⟨false, rfl, nofun, by rw [Hwx.out]; exact kept_alloc _ _⟩
      · have dl : decide ((q.length : Int) > 500) = false := by simpa using hl
        go_wp2_with fail
        go_round
        case rel => exact ⟨k + 1, by omega, by go_num, fun j hj hjk => by
          rcases Nat.lt_succ_iff_lt_or_eq.1 hjk with h | h
          · exact Hall.out j hj h
          · subst h; rw [Hq.out]; omega⟩
        case measure => simp [intOf]; omega
    · have hkI : ¬ (k : Int) < (n2 : Int) := by omega
      have hik : ∀ x ∈ m.items, x.key.length ≤ 500 := fun x hx => by
        obtain ⟨j, hj, rfl⟩ := List.getElem_of_mem hx
        exact Hall.out j hj (by rw [Hn2.out] at hj; omega)
      have Hik := Lib.hid hik
      clear hik
      go_wp2_with fail
      go_loop [4] (fun i => ∃ k : Nat, k ≤ n3 ∧ i = .int .i64 (k : Int) ∧ ∀ j (hj : j < m.gone.length), j < k → m.gone[j].key.length ≤ 500) (fun i => n3 - (intOf i).toNat)
      case atStart => exact ⟨0, by omega, rfl, fun j _ hj => by omega⟩
      case round =>
        obtain ⟨k, hk, rfl, hall⟩ := hrel
        have Hall := Lib.hid hall
        clear hall
        by_cases hkn : k < n3
        · have hkI : (k : Int) < (n3 : Int) := by omega
          have hkm : k < m.gone.length := by rw [Hn3.out]; exact hkn
          obtain ⟨b, off, rfl, -, -, hc⟩ := go_cell Hx.out.gone (by omega)
          obtain ⟨e0, -⟩ := hc k hkm
          obtain ⟨q, hq⟩ : ∃ q, m.gone[k].key = q := ⟨_, rfl⟩
          rw [hq] at e0
          have Hq := Lib.hid hq
          clear hc hq
          by_cases hl : (q.length : Int) > 500
          · have dl : decide ((q.length : Int) > 500) = true := by simpa using hl
            go_wp2_with fail
            go_ret
            exact ⟨false, rfl, nofun, by rw [Hwx.out]; exact kept_alloc _ _⟩
          · have dl : decide ((q.length : Int) > 500) = false := by simpa using hl
            go_wp2_with fail
            go_round
            case rel => exact ⟨k + 1, by omega, by go_num, fun j hj hjk => by
              rcases Nat.lt_succ_iff_lt_or_eq.1 hjk with h | h
              · exact Hall.out j hj h
              · subst h; rw [Hq.out]; omega⟩
            case measure => simp [intOf]; omega
        · have hkI : ¬ (k : Int) < (n3 : Int) := by omega
          have hgk : ∀ x ∈ m.gone, x.key.length ≤ 500 := fun x hx => by
            obtain ⟨j, hj, rfl⟩ := List.getElem_of_mem hx
            exact Hall.out j hj (by rw [Hn3.out] at hj; omega)
          have Hgk := Lib.hid hgk
          clear hgk
          go_wp2_with fail
          go_ret
          exact ⟨true, rfl, fun _ => ⟨by rw [Hn1.out]; omega, by rw [Hn2.out]; omega, by rw [Hn3.out]; omega, Hik.out, Hgk.out⟩, by rw [Hwx.out]; exact kept_alloc _ _⟩
end Go.Proofs.YtohahloghmanpaaGreatDoor
/- Two maps are compared: Same. -/
namespace Go.Proofs.YtohahloghmanpaaGreatDoor
open Go.RowKit
set_option linter.unusedVariables false
set_option maxRecDepth 20000

def SamePost (w : World) (a b : RMap) (e : Ending) (w' : World) : Prop := ∃ r, e = .returned (.bool r) ∧ (r = true ↔ a = b) ∧ Below w.heap.size w w'
theorem same_no {a b : RMap} (h : a ≠ b) : (false = true ↔ a = b) := ⟨nofun, fun e => absurd e h⟩

set_option maxRecDepth 100000 in
set_option maxHeartbeats 1500000 in
theorem same_any0 (w : World) (F G : Blks) (va vb : Value) (a b : RMap) (ha : MapV F w va a) (hb : MapV G w vb b) :
    Calls Tryz.prog 19 #[va, vb] w (SamePost w a b) := by
  obtain ⟨s1a, s2a, s3a, rfl, ha⟩ := ha
  obtain ⟨a1a, p1a, rfl, -⟩ := ha.seen.shape
  obtain ⟨a2a, p2a, rfl, -⟩ := ha.items.shape
  obtain ⟨a3a, p3a, rfl, -⟩ := ha.gone.shape
  have l1a := ha.seen.len
  have l2a := ha.items.len
  have l3a := ha.gone.len
  unfold maxLen at l1a l2a l3a
  obtain ⟨n1a, hn1a⟩ : ∃ n, a.seen.length = n := ⟨_, rfl⟩
  obtain ⟨n2a, hn2a⟩ : ∃ n, a.items.length = n := ⟨_, rfl⟩
  obtain ⟨n3a, hn3a⟩ : ∃ n, a.gone.length = n := ⟨_, rfl⟩
  rw [hn1a, hn2a, hn3a] at ha
  rw [hn1a] at l1a ⊢
  rw [hn2a] at l2a ⊢
  rw [hn3a] at l3a ⊢
  obtain ⟨wxa, hwxa⟩ : ∃ wx, wx = w.alloc (.cells #[.slice a1a n1a p1a, .slice a2a n2a p2a, .slice a3a n3a p3a] 26) := ⟨_, rfl⟩
  have hbxa : Below w.heap.size w wxa := by rw [hwxa]; exact kept_alloc _ _
  have hzxa : wxa.heap.size = w.heap.size + 1 := by rw [hwxa]; simp
  have hxa := ha.keep (w' := wxa) fun b _ hlt => hbxa.block b hlt
  have hnxa : Blk wxa w.heap.size [.slice a1a n1a p1a, .slice a2a n2a p2a, .slice a3a n3a p3a] 26 := by rw [hwxa]; exact Blk.new _ _ _
  have Hxa := Lib.hid hxa; have Hn1a := Lib.hid hn1a; have Hn2a := Lib.hid hn2a; have Hn3a := Lib.hid hn3a
  have Hwxa := Lib.hid hwxa; have Hbxa := Lib.hid hbxa; have Hzxa := Lib.hid hzxa
  have c0a := hnxa.cell 0
  have c1a := hnxa.cell 1
  have c2a := hnxa.cell 2
  simp at c0a c1a c2a
  have Hnxa := Lib.hid hnxa
  clear hxa hn1a hn2a hn3a hwxa hbxa hnxa hzxa
  replace hb := hb.keep (w' := wxa) fun b _ hlt => Hbxa.out.block b hlt
  obtain ⟨s1b, s2b, s3b, rfl, hb⟩ := hb
  obtain ⟨a1b, p1b, rfl, -⟩ := hb.seen.shape
  obtain ⟨a2b, p2b, rfl, -⟩ := hb.items.shape
  obtain ⟨a3b, p3b, rfl, -⟩ := hb.gone.shape
  have l1b := hb.seen.len
  have l2b := hb.items.len
  have l3b := hb.gone.len
  unfold maxLen at l1b l2b l3b
  obtain ⟨n1b, hn1b⟩ : ∃ n, b.seen.length = n := ⟨_, rfl⟩
  obtain ⟨n2b, hn2b⟩ : ∃ n, b.items.length = n := ⟨_, rfl⟩
  obtain ⟨n3b, hn3b⟩ : ∃ n, b.gone.length = n := ⟨_, rfl⟩
  rw [hn1b, hn2b, hn3b] at hb
  rw [hn1b] at l1b ⊢
  rw [hn2b] at l2b ⊢
  rw [hn3b] at l3b ⊢
  obtain ⟨wxb, hwxb⟩ : ∃ wx, wx = wxa.alloc (.cells #[.slice a1b n1b p1b, .slice a2b n2b p2b, .slice a3b n3b p3b] 26) := ⟨_, rfl⟩
  have hbxb : Below wxa.heap.size wxa wxb := by rw [hwxb]; exact kept_alloc _ _
  have hzxb : wxb.heap.size = wxa.heap.size + 1 := by rw [hwxb]; simp
  have hxb := hb.keep (w' := wxb) fun b _ hlt => hbxb.block b hlt
  have hnxb : Blk wxb wxa.heap.size [.slice a1b n1b p1b, .slice a2b n2b p2b, .slice a3b n3b p3b] 26 := by rw [hwxb]; exact Blk.new _ _ _
  have Hxb := Lib.hid hxb; have Hn1b := Lib.hid hn1b; have Hn2b := Lib.hid hn2b; have Hn3b := Lib.hid hn3b
  have Hwxb := Lib.hid hwxb; have Hbxb := Lib.hid hbxb; have Hzxb := Lib.hid hzxb
  have c0b := hnxb.cell 0
  have c1b := hnxb.cell 1
  have c2b := hnxb.cell 2
  simp at c0b c1b c2b
  have Hnxb := Lib.hid hnxb
  clear hxb hn1b hn2b hn3b hwxb hbxb hnxb hzxb
  have Hxa := Lib.hid (Hxa.out.keep (w' := wxb) fun b _ hlt => Hbxb.out.block b hlt)
  have hnxa := Hnxa.out.keep (Hbxb.out.block _ Hnxa.out.lt)
  have c0a := hnxa.cell 0
  have c1a := hnxa.cell 1
  have c2a := hnxa.cell 2
  simp at c0a c1a c2a
  have Hnxa := Lib.hid hnxa
  rw [Hzxa.out] at c0b c1b c2b
  have Hbx := Lib.hid (kept_trans Hbxa.out Hbxb.out)
  clear hnxa
  clear ha hb
  go_enter Tryz.func19, Tryz.ntmps19
  by_cases h : n1a = n1b ∧ n2a = n2b ∧ n3a = n3b
  · obtain ⟨e1, e2, e3⟩ := h
    subst e1 e2 e3
    go_wp2_with fail
    rw [← Hwxa.out, ← Hwxb.out]
    go_loopw [5] (fun i wr => ∃ k d : Nat, k ≤ n1a ∧ i = .int .i64 (k : Int) ∧ wr = wxb.drewN d ∧ ∀ j, j < k → a.seen[j]? = b.seen[j]?) (fun i _ => n1a - (intOf i).toNat)
    case atStart => exact ⟨0, 0, by omega, rfl, rfl, fun j hj => by omega⟩
    case round =>
      obtain ⟨k, d, hk, rfl, rfl, hall⟩ := hrel
      have Hall := Lib.hid hall
      clear hall
      by_cases hkn : k < n1a
      · have hkI : (k : Int) < (n1a : Int) := by omega
        have hka : k < a.seen.length := by rw [Hn1a.out]; exact hkn
        have hkb : k < b.seen.length := by rw [Hn1b.out]; exact hkn
        obtain ⟨ba, offa, rfl, -, -, hca⟩ := int_cell Hxa.out.seen (by omega)
        obtain ⟨bb, offb, rfl, -, -, hcb⟩ := int_cell Hxb.out.seen (by omega)
        have ea := hca k hka
        have eb := hcb k hkb
        obtain ⟨qa, hqa⟩ : ∃ q, a.seen[k] = q := ⟨_, rfl⟩
        obtain ⟨qb, hqb⟩ : ∃ q, b.seen[k] = q := ⟨_, rfl⟩
        rw [hqa] at ea
        rw [hqb] at eb
        have Hqa := Lib.hid hqa; have Hqb := Lib.hid hqb
        clear hca hcb hqa hqb
        by_cases he : qa = qb
        · have d1 : (qa != qb) = false := by simp [he]
          go_wp2_with fail
          go_quiet (fail)
          go_wp2_with fail
          go_roundw
          case rel => exact ⟨k + 1, _, by omega, by go_num, rfl, fun j hj => by
            rcases Nat.lt_succ_iff_lt_or_eq.1 hj with h | h
            · exact Hall.out j h
            · subst h; rw [List.getElem?_eq_getElem hka, List.getElem?_eq_getElem hkb, Hqa.out, Hqb.out, he]⟩
          case measure => simp [intOf]; omega
        · have d1 : (qa != qb) = true := by simp [he]
          have Hne := Lib.hid (show a ≠ b from fun e => he (by subst e; rw [← Hqa.out, ← Hqb.out]))
          go_wp2_with fail
          go_quiet (fail)
          go_wp2_with fail
          go_ret
          exact ⟨false, rfl, same_no Hne.out, kept_drewN (kept_drewN Hbx.out _) _⟩
      · have hkI : ¬ (k : Int) < (n1a : Int) := by omega
        have He1 := Lib.hid (show a.seen = b.seen from List.ext_getElem? fun j => by
          by_cases hj : j < k
          · exact Hall.out j hj
          · rw [List.getElem?_eq_none (by rw [Hn1a.out]; omega), List.getElem?_eq_none (by rw [Hn1b.out]; omega)])
        go_wp2_with fail
        go_loopw [6] (fun i wr => ∃ k d : Nat, k ≤ n2a ∧ i = .int .i64 (k : Int) ∧ wr = wxb.drewN d ∧ ∀ j, j < k → a.items[j]? = b.items[j]?) (fun i _ => n2a - (intOf i).toNat)
        case atStart => exact ⟨0, _, by omega, rfl, rfl, fun j hj => by omega⟩
        case round =>
          obtain ⟨k, d, hk, rfl, rfl, hall⟩ := hrel
          have Hall := Lib.hid hall
          clear hall
          by_cases hkn : k < n2a
          · have hkI : (k : Int) < (n2a : Int) := by omega
            have hka : k < a.items.length := by rw [Hn2a.out]; exact hkn
            have hkb : k < b.items.length := by rw [Hn2b.out]; exact hkn
            obtain ⟨ba, offa, rfl, -, -, hca⟩ := it_cell Hxa.out.items (by omega)
            obtain ⟨bb, offb, rfl, -, -, hcb⟩ := it_cell Hxb.out.items (by omega)
            obtain ⟨ea0, ea1, ea2, ea3⟩ := hca k hka
            obtain ⟨eb0, eb1, eb2, eb3⟩ := hcb k hkb
            obtain ⟨qa, hqa⟩ : ∃ q, a.items[k] = q := ⟨_, rfl⟩
            obtain ⟨qb, hqb⟩ : ∃ q, b.items[k] = q := ⟨_, rfl⟩
            rw [hqa] at ea0 ea1 ea2 ea3
            rw [hqb] at eb0 eb1 eb2 eb3
            have Hqa := Lib.hid hqa; have Hqb := Lib.hid hqb
            clear hca hcb hqa hqb
            obtain ⟨ka, da, sa, va⟩ := qa
            obtain ⟨kb, db, sb, vb⟩ := qb
            dsimp only at ea0 ea1 ea2 ea3 eb0 eb1 eb2 eb3
            by_cases h0 : ka = kb
            · have g0 : (ka == kb) = true := by simp [h0]
              by_cases h1 : da = db
              · have g1 : (da == db) = true := by simp [h1]
                by_cases h2 : sa = sb
                · have g2 : (sa == sb) = true := by simp [h2]
                  by_cases h3 : va = vb
                  · subst h0 h1 h2 h3
                    clear g0 g1 g2
                    go_wp2_with fail
                    go_quiet (fail)
                    go_wp2_with fail
                    go_roundw
                    case rel => exact ⟨k + 1, _, by omega, by go_num, rfl, fun j hj => by
                      rcases Nat.lt_succ_iff_lt_or_eq.1 hj with h | h
                      · exact Hall.out j h
                      · subst h; rw [List.getElem?_eq_getElem hka, List.getElem?_eq_getElem hkb, Hqa.out, Hqb.out]⟩
                    case measure => simp [intOf]; omega
                  ·
                    have gx : (va == vb) = false := by simp [h3]
                    have Hne := Lib.hid (show a ≠ b from fun e => by subst e; have q := Hqa.out.symm.trans Hqb.out; simp at q; exact h3 (by simp [q]))
                    go_wp2_with fail
                    go_quiet (fail)
                    go_wp2_with fail
                    go_ret
                    exact ⟨false, rfl, same_no Hne.out, kept_drewN (kept_drewN Hbx.out _) _⟩
                ·
                  have gx : (sa == sb) = false := by simp [h2]
                  have Hne := Lib.hid (show a ≠ b from fun e => by subst e; have q := Hqa.out.symm.trans Hqb.out; simp at q; exact h2 (by simp [q]))
                  go_wp2_with fail
                  go_quiet (fail)
                  go_wp2_with fail
                  go_ret
                  exact ⟨false, rfl, same_no Hne.out, kept_drewN (kept_drewN Hbx.out _) _⟩
              ·
                have gx : (da == db) = false := by simp [h1]
                have Hne := Lib.hid (show a ≠ b from fun e => by subst e; have q := Hqa.out.symm.trans Hqb.out; simp at q; exact h1 (by simp [q]))
                go_wp2_with fail
                go_quiet (fail)
                go_wp2_with fail
                go_ret
                exact ⟨false, rfl, same_no Hne.out, kept_drewN (kept_drewN Hbx.out _) _⟩
            ·
              have gx : (ka == kb) = false := by simp [h0]
              have Hne := Lib.hid (show a ≠ b from fun e => by subst e; have q := Hqa.out.symm.trans Hqb.out; simp at q; exact h0 (by simp [q]))
              go_wp2_with fail
              go_quiet (fail)
              go_wp2_with fail
              go_ret
              exact ⟨false, rfl, same_no Hne.out, kept_drewN (kept_drewN Hbx.out _) _⟩
          · have hkI : ¬ (k : Int) < (n2a : Int) := by omega
            have He2 := Lib.hid (show a.items = b.items from List.ext_getElem? fun j => by
              by_cases hj : j < k
              · exact Hall.out j hj
              · rw [List.getElem?_eq_none (by rw [Hn2a.out]; omega), List.getElem?_eq_none (by rw [Hn2b.out]; omega)])
            go_wp2_with fail
            go_loopw [7] (fun i wr => ∃ k d : Nat, k ≤ n3a ∧ i = .int .i64 (k : Int) ∧ wr = wxb.drewN d ∧ ∀ j, j < k → a.gone[j]? = b.gone[j]?) (fun i _ => n3a - (intOf i).toNat)
            case atStart => exact ⟨0, _, by omega, rfl, rfl, fun j hj => by omega⟩
            case round =>
              obtain ⟨k, d, hk, rfl, rfl, hall⟩ := hrel
              have Hall := Lib.hid hall
              clear hall
              by_cases hkn : k < n3a
              · have hkI : (k : Int) < (n3a : Int) := by omega
                have hka : k < a.gone.length := by rw [Hn3a.out]; exact hkn
                have hkb : k < b.gone.length := by rw [Hn3b.out]; exact hkn
                obtain ⟨ba, offa, rfl, -, -, hca⟩ := go_cell Hxa.out.gone (by omega)
                obtain ⟨bb, offb, rfl, -, -, hcb⟩ := go_cell Hxb.out.gone (by omega)
                obtain ⟨ea0, ea1, ea2⟩ := hca k hka
                obtain ⟨eb0, eb1, eb2⟩ := hcb k hkb
                obtain ⟨qa, hqa⟩ : ∃ q, a.gone[k] = q := ⟨_, rfl⟩
                obtain ⟨qb, hqb⟩ : ∃ q, b.gone[k] = q := ⟨_, rfl⟩
                rw [hqa] at ea0 ea1 ea2
                rw [hqb] at eb0 eb1 eb2
                have Hqa := Lib.hid hqa; have Hqb := Lib.hid hqb
                clear hca hcb hqa hqb
                obtain ⟨ka, da, sa⟩ := qa
                obtain ⟨kb, db, sb⟩ := qb
                dsimp only at ea0 ea1 ea2 eb0 eb1 eb2
                by_cases h0 : ka = kb
                · have g0 : (ka == kb) = true := by simp [h0]
                  by_cases h1 : da = db
                  · have g1 : (da == db) = true := by simp [h1]
                    by_cases h2 : sa = sb
                    · subst h0 h1 h2
                      clear g0 g1
                      go_wp2_with fail
                      go_quiet (fail)
                      go_wp2_with fail
                      go_roundw
                      case rel => exact ⟨k + 1, _, by omega, by go_num, rfl, fun j hj => by
                        rcases Nat.lt_succ_iff_lt_or_eq.1 hj with h | h
                        · exact Hall.out j h
                        · subst h; rw [List.getElem?_eq_getElem hka, List.getElem?_eq_getElem hkb, Hqa.out, Hqb.out]⟩
                      case measure => simp [intOf]; omega
                    ·
                      have gx : (sa == sb) = false := by simp [h2]
                      have Hne := Lib.hid (show a ≠ b from fun e => by subst e; have q := Hqa.out.symm.trans Hqb.out; simp at q; exact h2 (by simp [q]))
                      go_wp2_with fail
                      go_quiet (fail)
                      go_wp2_with fail
                      go_ret
                      exact ⟨false, rfl, same_no Hne.out, kept_drewN (kept_drewN Hbx.out _) _⟩
                  ·
                    have gx : (da == db) = false := by simp [h1]
                    have Hne := Lib.hid (show a ≠ b from fun e => by subst e; have q := Hqa.out.symm.trans Hqb.out; simp at q; exact h1 (by simp [q]))
                    go_wp2_with fail
                    go_quiet (fail)
                    go_wp2_with fail
                    go_ret
                    exact ⟨false, rfl, same_no Hne.out, kept_drewN (kept_drewN Hbx.out _) _⟩
                ·
                  have gx : (ka == kb) = false := by simp [h0]
                  have Hne := Lib.hid (show a ≠ b from fun e => by subst e; have q := Hqa.out.symm.trans Hqb.out; simp at q; exact h0 (by simp [q]))
                  go_wp2_with fail
                  go_quiet (fail)
                  go_wp2_with fail
                  go_ret
                  exact ⟨false, rfl, same_no Hne.out, kept_drewN (kept_drewN Hbx.out _) _⟩
              · have hkI : ¬ (k : Int) < (n3a : Int) := by omega
                have He := Lib.hid (show a = b by
                  have e3 : a.gone = b.gone := List.ext_getElem? fun j => by
                    by_cases hj : j < k
                    · exact Hall.out j hj
                    · rw [List.getElem?_eq_none (by rw [Hn3a.out]; omega), List.getElem?_eq_none (by rw [Hn3b.out]; omega)]
                  have e1 := He1.out
                  have e2 := He2.out
                  cases a; cases b
                  simp_all)
                go_wp2_with fail
                go_ret
                exact ⟨true, rfl, ⟨fun _ => He.out, fun _ => rfl⟩, kept_drewN Hbx.out _⟩
  · have Hne := Lib.hid (show a ≠ b from fun e => h (by subst e; exact ⟨Hn1a.out.symm.trans Hn1b.out, Hn2a.out.symm.trans Hn2b.out, Hn3a.out.symm.trans Hn3b.out⟩))
    by_cases e1 : n1a = n1b
    · have g1 : ((n1a : Int) != (n1b : Int)) = false := by simp [e1]
      by_cases e2 : n2a = n2b
      · have g2 : ((n2a : Int) != (n2b : Int)) = false := by simp [e2]
        have e3 : ¬ n3a = n3b := fun e3 => h ⟨e1, e2, e3⟩
        have g3 : ((n3a : Int) != (n3b : Int)) = true := by simp; omega
        have H1 := Lib.hid e1; have H2 := Lib.hid e2
        clear h e1 e2 e3
        go_wp2_with fail
        go_ret
        exact ⟨false, rfl, same_no Hne.out, by have := Hbx.out; rw [Hwxb.out, Hwxa.out] at this; exact this⟩
      · have g2 : ((n2a : Int) != (n2b : Int)) = true := by simp; omega
        have H1 := Lib.hid e1
        clear h e1 e2
        go_wp2_with fail
        go_ret
        exact ⟨false, rfl, same_no Hne.out, by have := Hbx.out; rw [Hwxb.out, Hwxa.out] at this; exact this⟩
    · have g1 : ((n1a : Int) != (n1b : Int)) = true := by simp; omega
      clear h e1
      go_wp2_with fail
      go_ret
      exact ⟨false, rfl, same_no Hne.out, by have := Hbx.out; rw [Hwxb.out, Hwxa.out] at this; exact this⟩
end Go.Proofs.YtohahloghmanpaaGreatDoor
/- A map is copied: given, taken. -/
namespace Go.Proofs.YtohahloghmanpaaGreatDoor
open Go.RowKit
set_option linter.unusedVariables false
set_option maxRecDepth 20000
attribute [local go_sem ↓] seal_append

theorem infoI : (Tryz.prog.info? 3).map (fun i => (i.zero, i.size, i.bytes)) = some (some (.int .i64 0), 1, 8) := by kernel_rfl
theorem infoItR : (Tryz.prog.info? 44).map (fun i => (i.zero, i.size, i.bytes)) = some (some (.agg #[.string ⟨#[]⟩, .int .i64 0, .int .i64 0, .int .i64 0]), 4, 40) := by kernel_rfl
theorem infoItP : (Tryz.prog.info? 47).map (fun i => (i.zero, i.size, i.bytes)) = some (some (.agg #[.string ⟨#[]⟩, .int .i64 0, .int .i64 0, .int .i64 0]), 4, 40) := by kernel_rfl
theorem infoGoR : (Tryz.prog.info? 46).map (fun i => (i.zero, i.size, i.bytes)) = some (some (.agg #[.string ⟨#[]⟩, .int .i64 0, .int .i64 0]), 3, 32) := by kernel_rfl
theorem infoGoP : (Tryz.prog.info? 48).map (fun i => (i.zero, i.size, i.bytes)) = some (some (.agg #[.string ⟨#[]⟩, .int .i64 0, .int .i64 0]), 3, 32) := by kernel_rfl

def GivenPost (w : World) (m : RMap) (e : Ending) (w' : World) : Prop := ∃ v, e = .returned v ∧ MapV (fun b => w.heap.size ≤ b) w' v m ∧ Below w.heap.size w w'

def RowsT (tI tIt tGo : TypeId) (w : World) (base : Nat) (v : Value) (m : RMap) : Prop := ∃ s1 s2 s3, v = .agg #[s1, s2, s3] ∧ w.ownsRow base tI 1 s1 m.seen.length (m.seen.map eI) ∧ w.ownsRow base tIt 4 s2 m.items.length (m.items.flatMap encIt) ∧ w.ownsRow base tGo 3 s3 m.gone.length (m.gone.flatMap encGo)
def GivenPostT (tI tIt tGo : TypeId) (w : World) (m : RMap) (e : Ending) (w' : World) : Prop := ∃ v, e = .returned v ∧ RowsT tI tIt tGo w' w.heap.size v m ∧ MapV (fun b => w.heap.size ≤ b) w' v m ∧ Below w.heap.size w w'

structure GivSt (tA tO tI tIt tGo : TypeId) (w wr : World) (m : RMap) (P : List Value) (v1 v2 v3 : Value) (k2 k3 : Nat) : Prop where
  out : Blk wr (w.heap.size + 1 + 1) [v1, v2, v3] tO
  par : Blk wr w.heap.size P tA
  res : Blk wr (w.heap.size + 1) [.slice none 0 0, .slice none 0 0, .slice none 0 0] tO
  o1 : wr.ownsRow w.heap.size tI 1 v1 m.seen.length (m.seen.map eI)
  o2 : wr.ownsRow w.heap.size tIt 4 v2 k2 ((m.items.take k2).flatMap encIt)
  o3 : wr.ownsRow w.heap.size tGo 3 v3 k3 ((m.gone.take k3).flatMap encGo)
  below : Below w.heap.size w wr

section
variable {tA tO tI tIt tGo : TypeId} {w wr : World} {m : RMap} {P : List Value} {v1 v2 v3 : Value} {k2 k3 : Nat}
theorem GivSt.kept (st : GivSt tA tO tI tIt tGo w wr m P v1 v2 v3 k2 k3) {wt : World} (hb : Below wr.heap.size wr wt) : GivSt tA tO tI tIt tGo w wt m P v1 v2 v3 k2 k3 :=
  ⟨st.out.keep (hb.block _ st.out.lt), st.par.keep (hb.block _ st.par.lt), st.res.keep (hb.block _ st.res.lt), own_below st.o1 hb, own_below st.o2 hb, own_below st.o3 hb, st.below.trans (hb.mono st.below.size)⟩
theorem take_flat {α : Type} (enc : α → List Value) (l : List α) (k : Nat) (h : k < l.length) : (l.take (k + 1)).flatMap enc = (l.take k).flatMap enc ++ enc l[k] := by
  rw [List.take_succ_eq_append_getElem h, List.flatMap_append]
  simp
theorem GivSt.stepIt (st : GivSt tA tO tI tIt tGo w wr m P v1 v2 v3 k2 k3) {w' : World} {v2' : Value} (hk : k2 < m.items.length) (own : w'.ownsRow w.heap.size tIt 4 v2' (k2 + 1) ((m.items.take k2).flatMap encIt ++ encIt m.items[k2])) (hg : wr.grownBy w' v2.ownBlock)
    (n1 : tIt ≠ tO) (n2 : tIt ≠ tA) (n3 : tIt ≠ tI) (n4 : tIt ≠ tGo) (n5 : tI ≠ tO) (n6 : tGo ≠ tO) : GivSt tA tO tI tIt tGo w (w'.setCell ⟨w.heap.size + 1 + 1, 1, none⟩ v2') m P v1 v2' v3 (k2 + 1) k3 := by
  have hout := st.out.grownNe st.o2 n1 hg
  have hlt := st.out.lt
  refine ⟨hout.set 1 v2', (st.par.grownNe st.o2 n2 hg).set_other v2' (by show w.heap.size ≠ w.heap.size + 1 + 1; omega), (st.res.grownNe st.o2 n1 hg).set_other v2' (by show w.heap.size + 1 ≠ w.heap.size + 1 + 1; omega), own_setCell (own_grownNe st.o1 st.o2 n3 hg) hout n5 _, ?_, own_setCell (own_grownNe st.o3 st.o2 n4 hg) hout n6 _, ?_⟩
  · rw [take_flat _ _ _ hk]
    exact own_setCell own hout n1 _
  · exact (st.below.trans (Below.grownOwn st.o2 hg st.below.size (Nat.le_refl _))).setCell (by show w.heap.size ≤ w.heap.size + 1 + 1; omega) _
theorem GivSt.stepGo (st : GivSt tA tO tI tIt tGo w wr m P v1 v2 v3 k2 k3) {w' : World} {v3' : Value} (hk : k3 < m.gone.length) (own : w'.ownsRow w.heap.size tGo 3 v3' (k3 + 1) ((m.gone.take k3).flatMap encGo ++ encGo m.gone[k3])) (hg : wr.grownBy w' v3.ownBlock)
    (n1 : tGo ≠ tO) (n2 : tGo ≠ tA) (n3 : tGo ≠ tI) (n4 : tGo ≠ tIt) (n5 : tI ≠ tO) (n6 : tIt ≠ tO) : GivSt tA tO tI tIt tGo w (w'.setCell ⟨w.heap.size + 1 + 1, 2, none⟩ v3') m P v1 v2 v3' k2 (k3 + 1) := by
  have hout := st.out.grownNe st.o3 n1 hg
  refine ⟨hout.set 2 v3', (st.par.grownNe st.o3 n2 hg).set_other v3' (by show w.heap.size ≠ w.heap.size + 1 + 1; omega), (st.res.grownNe st.o3 n1 hg).set_other v3' (by show w.heap.size + 1 ≠ w.heap.size + 1 + 1; omega), own_setCell (own_grownNe st.o1 st.o3 n3 hg) hout n5 _, own_setCell (own_grownNe st.o2 st.o3 n4 hg) hout n6 _, ?_, ?_⟩
  · rw [take_flat _ _ _ hk]
    exact own_setCell own hout n1 _
  · exact (st.below.trans (Below.grownOwn st.o3 hg st.below.size (Nat.le_refl _))).setCell (by show w.heap.size ≤ w.heap.size + 1 + 1; omega) _
theorem GivSt.done (st : GivSt tA tO tI tIt tGo w wr m P v1 v2 v3 k2 k3) (h2 : k2 = m.items.length) (h3 : k3 = m.gone.length) {F : Blks} {w0 : World} {s1 s2 s3 : Value} (hm : MapIn F w0 s1 s2 s3 m) (n1 : tI ≠ tO) (n2 : tIt ≠ tO) (n3 : tGo ≠ tO) {wf : World}
    (hwf : wf = ((wr.setCell ⟨w.heap.size + 1, 0, none⟩ v1).setCell ⟨w.heap.size + 1, 1, none⟩ v2).setCell ⟨w.heap.size + 1, 2, none⟩ v3) :
    Blk wf (w.heap.size + 1) [v1, v2, v3] tO ∧ MapV (fun b => w.heap.size ≤ b) wf (.agg #[v1, v2, v3]) m ∧ RowsT tI tIt tGo wf w.heap.size (.agg #[v1, v2, v3]) m ∧ Below w.heap.size w wf := by
  subst h2 h3 hwf
  have r0 := st.res
  have r1 := r0.set 0 v1
  have r2 := r1.set 1 v2
  have r3 := r2.set 2 v3
  have e2 := st.o2
  have e3 := st.o3
  rw [List.take_length] at e2 e3
  have o1 := own_setCell (i := 2) (own_setCell (i := 1) (own_setCell (i := 0) st.o1 r0 n1 v1) r1 n1 v2) r2 n1 v3
  have o2 := own_setCell (i := 2) (own_setCell (i := 1) (own_setCell (i := 0) e2 r0 n2 v1) r1 n2 v2) r2 n2 v3
  have o3 := own_setCell (i := 2) (own_setCell (i := 1) (own_setCell (i := 0) e3 r0 n3 v1) r1 n3 v2) r2 n3 v3
  have hb : Below w.heap.size w _ := ((st.below.setCell (p := ⟨w.heap.size + 1, 0, none⟩) (by show w.heap.size ≤ w.heap.size + 1; omega) v1).setCell (p := ⟨w.heap.size + 1, 1, none⟩) (by show w.heap.size ≤ w.heap.size + 1; omega) v2).setCell (p := ⟨w.heap.size + 1, 2, none⟩) (by show w.heap.size ≤ w.heap.size + 1; omega) v3
  exact ⟨r3, ⟨v1, v2, v3, rfl, (Rows.of_owns o1).mono (fun b h _ => h.1), (Rows.of_owns o2).mono (fun b h _ => h.1), (Rows.of_owns o3).mono (fun b h _ => h.1), hm.seenB, hm.itemsB, hm.goneB⟩, ⟨v1, v2, v3, rfl, o1, o2, o3⟩, hb⟩
end

set_option maxRecDepth 100000 in
set_option maxHeartbeats 1500000 in
theorem given_own (w : World) (F : Blks) (v : Value) (m : RMap) (h : MapV F w v m) (hs : m.seen.length ≤ 1000000) (hi : m.items.length ≤ 1000000) (hg : m.gone.length ≤ 1000000) :
    Calls Tryz.prog 5 #[v] w (GivenPostT 3 47 48 w m) := by
  obtain ⟨s1, s2, s3, rfl, h⟩ := h
  obtain ⟨a1, p1, rfl, -⟩ := h.seen.shape
  obtain ⟨a2, p2, rfl, -⟩ := h.items.shape
  obtain ⟨a3, p3, rfl, -⟩ := h.gone.shape
  have l1 := h.seen.len
  have l2 := h.items.len
  have l3 := h.gone.len
  unfold maxLen at l1 l2 l3
  obtain ⟨n1, hn1⟩ : ∃ n, m.seen.length = n := ⟨_, rfl⟩
  obtain ⟨n2, hn2⟩ : ∃ n, m.items.length = n := ⟨_, rfl⟩
  obtain ⟨n3, hn3⟩ : ∃ n, m.gone.length = n := ⟨_, rfl⟩
  rw [hn1, hn2, hn3] at h
  rw [hn1] at l1 ⊢
  rw [hn2] at l2 ⊢
  rw [hn3] at l3 ⊢
  obtain ⟨wx, hwx⟩ : ∃ wx, wx = w.alloc (.cells #[.slice a1 n1 p1, .slice a2 n2 p2, .slice a3 n3 p3] 26) := ⟨_, rfl⟩
  have hbx : Below w.heap.size w wx := by rw [hwx]; exact kept_alloc _ _
  have hzx : wx.heap.size = w.heap.size + 1 := by rw [hwx]; simp
  have hx := h.keep (w' := wx) fun b _ hlt => hbx.block b hlt
  have hnx : Blk wx w.heap.size [.slice a1 n1 p1, .slice a2 n2 p2, .slice a3 n3 p3] 26 := by rw [hwx]; exact Blk.new _ _ _
  have Hx := Lib.hid hx; have Hn1 := Lib.hid hn1; have Hn2 := Lib.hid hn2; have Hn3 := Lib.hid hn3
  have Hwx := Lib.hid hwx; have Hbx := Lib.hid hbx; have Hzx := Lib.hid hzx
  have c0 := hnx.cell 0
  have c1 := hnx.cell 1
  have c2 := hnx.cell 2
  simp at c0 c1 c2
  have Hnx := Lib.hid hnx
  clear hx hn1 hn2 hn3 hwx hbx hnx hzx
  rw [Hn1.out] at hs
  rw [Hn2.out] at hi
  rw [Hn3.out] at hg
  have Hh := Lib.hid h
  obtain ⟨w2, hw2⟩ : ∃ w2, w2 = (wx.alloc (.cells #[.slice none 0 0, .slice none 0 0, .slice none 0 0] 31)).alloc (.cells #[.slice none 0 0, .slice none 0 0, .slice none 0 0] 31) := ⟨_, rfl⟩
  have hb2 : Below w.heap.size w w2 := by rw [hw2]; exact (Hbx.out.alloc Hbx.out.size _).alloc (by have := Hbx.out.size; simp; omega) _
  have hz2 : w2.heap.size = w.heap.size + 3 := by rw [hw2]; simp [Hzx.out]
  have hx2 : MapIn F w2 _ _ _ m := h.keep fun b _ hlt => hb2.block b hlt
  have ho2 : Blk w2 (w.heap.size + 1 + 1) [.slice none 0 0, .slice none 0 0, .slice none 0 0] 31 := by
    have := Blk.new (wx.alloc (.cells #[.slice none 0 0, .slice none 0 0, .slice none 0 0] 31)) #[.slice none 0 0, .slice none 0 0, .slice none 0 0] 31
    rw [hw2]
    simpa [Hzx.out] using this
  have hr2 : Blk w2 (w.heap.size + 1) [.slice none 0 0, .slice none 0 0, .slice none 0 0] 31 := by
    have := (Blk.new wx #[.slice none 0 0, .slice none 0 0, .slice none 0 0] 31).alloc (.cells #[.slice none 0 0, .slice none 0 0, .slice none 0 0] 31)
    rw [hw2]
    simpa [Hzx.out] using this
  have hp2 : Blk w2 w.heap.size _ _ := Hnx.out.keep (by rw [hw2]; exact ((kept_alloc wx _).trans (kept_alloc _ _ |>.mono (by simp))).block _ Hnx.out.lt)
  obtain ⟨i0, q1, q2, q3, q4⟩ := info_parts infoI
  obtain ⟨v1, w3, hr, hown3, hg3⟩ := run_append_rows (P := Tryz.prog) w2 w.heap.size 22 3 Tryz.underlying22 q1 q2 q3 q4 rfl (by decide) _ _ _ (World.ownsRow_nil w2 w.heap.size 3 1) F _ _ _ hx2.seen (one_eI _) (by rw [Hn1.out]; unfold maxLen; omega) (by rw [Hn1.out]; omega) (by omega)
  rw [Hn1.out, Nat.zero_add, List.nil_append] at hown3
  obtain ⟨b1, d1, rfl, -⟩ := (Rows.of_owns hown3).shape
  have ho3 := ho2.grownNe (World.ownsRow_nil w2 w.heap.size 3 1) (by decide) hg3
  have hr3 := hr2.grownNe (World.ownsRow_nil w2 w.heap.size 3 1) (by decide) hg3
  have hp3 := hp2.grownNe (World.ownsRow_nil w2 w.heap.size 3 1) (by decide) hg3
  have hb3 : Below w.heap.size w w3 := hb2.trans (Below.grownOwn (World.ownsRow_nil w2 w.heap.size 3 1) hg3 (by omega) (Nat.le_refl _))
  have o0 := ho3.cell 0
  have f0 := ho3.free 0
  simp at o0
  obtain ⟨w4, hw4⟩ : ∃ w4, w4 = w3.setCell ⟨w.heap.size + 1 + 1, 0, none⟩ (.slice b1 n1 d1) := ⟨_, rfl⟩
  have st4 : GivSt 26 31 3 47 48 w w4 m [.slice a1 n1 p1, .slice a2 n2 p2, .slice a3 n3 p3] (.slice b1 n1 d1) (.slice none 0 0) (.slice none 0 0) 0 0 := by
    rw [hw4]
    exact ⟨ho3.set 0 _, hp3.set_other _ (by show w.heap.size ≠ w.heap.size + 1 + 1; omega), hr3.set_other _ (by show w.heap.size + 1 ≠ w.heap.size + 1 + 1; omega), by rw [Hn1.out]; exact own_setCell hown3 ho3 (by decide) _, World.ownsRow_nil _ _ _ _, World.ownsRow_nil _ _ _ _, hb3.setCell (by show w.heap.size ≤ w.heap.size + 1 + 1; omega) _⟩
  rw [hw2, Hwx.out] at hr
  have Hst4 := Lib.hid st4; have Hw4 := Lib.hid hw4
  clear h hx2 ho2 hp2 hr2 hown3 hg3 ho3 hp3 hr3 hb3 st4 hw4 hw2 hb2 hz2 q1 q2 q3 q4
  go_enter Tryz.func5, Tryz.ntmps5
  go_wp2_with fail
  rw [← Hw4.out]
  clear hr o0 f0
  go_loopw [4] (fun i wr => ∃ (k : Nat) (v2 : Value), k ≤ n2 ∧ i = .int .i64 (k : Int) ∧ GivSt 26 31 3 47 48 w wr m [.slice a1 n1 p1, .slice a2 n2 p2, .slice a3 n3 p3] (.slice b1 n1 d1) v2 (.slice none 0 0) k 0) (fun i _ => n2 - (intOf i).toNat)
  case atStart => exact ⟨0, _, by omega, rfl, Hst4.out⟩
  case round =>
    obtain ⟨k, v2, hk, rfl, st⟩ := hrel
    have r1 : wr.cell? ⟨w.heap.size, 1, none⟩ = some (.slice a2 n2 p2) := by simpa using st.par.cell 1
    by_cases hkn : k < n2
    · have hkI : (k : Int) < (n2 : Int) := by omega
      have hkm : k < m.items.length := by rw [Hn2.out]; exact hkn
      have hm := Hh.out.keep (w' := wr) fun b _ hlt => st.below.block b hlt
      obtain ⟨b, off, rfl, -, hblt, hc⟩ := it_cell hm.items (by omega)
      obtain ⟨e0, e1, e2, e3⟩ := hc k hkm
      obtain ⟨q, hq⟩ : ∃ q, m.items[k] = q := ⟨_, rfl⟩
      rw [hq] at e0 e1 e2 e3
      obtain ⟨ka, da, sa, va⟩ := q
      dsimp only at e0 e1 e2 e3
      obtain ⟨wt, hwt⟩ : ∃ wt, wt = wr.alloc (.cells #[.string ⟨ka.toArray⟩, .int .i64 da, .int .i64 sa, .int .i64 va] 44) := ⟨_, rfl⟩
      have hbt : Below wr.heap.size wr wt := by rw [hwt]; exact kept_alloc _ _
      have stt := st.kept hbt
      obtain ⟨i0, q1, q2, q3, q4⟩ := info_parts infoItP
      obtain ⟨v2', w5, hr, hown5, hg5⟩ := run_append_one (P := Tryz.prog) wt w.heap.size 28 47 Tryz.underlying28 q1 q2 q3 q4 rfl (by decide) v2 k _ stt.o2 #[.string ⟨ka.toArray⟩, .int .i64 da, .int .i64 sa, .int .i64 va] rfl (by simp [Value.oneCell']) (by unfold maxLen; omega) (by omega) (by have := stt.below.size; omega)
      obtain ⟨b2, d2, rfl, -⟩ := (Rows.of_owns hown5).shape
      have st5 := (stt.kept (kept_alloc wt (.cells #[.string ⟨ka.toArray⟩, .int .i64 da, .int .i64 sa, .int .i64 va] 47))).stepIt hkm (by rw [hq]; exact hown5) hg5 (by decide) (by decide) (by decide) (by decide) (by decide) (by decide)
      have ho5 := (stt.kept (kept_alloc wt (.cells #[.string ⟨ka.toArray⟩, .int .i64 da, .int .i64 sa, .int .i64 va] 47))).out.grownNe (stt.kept (kept_alloc wt (.cells #[.string ⟨ka.toArray⟩, .int .i64 da, .int .i64 sa, .int .i64 va] 47))).o2 (by decide) hg5
      have o1 := ho5.cell 1
      have f1 := ho5.free 1
      simp at o1
      have ht1 : wr.cell? ⟨w.heap.size + 1 + 1, 1, none⟩ = some v2 := by simpa using st.out.cell 1
      have hlt1 := st.out.lt
      have hlt0 := st.par.lt
      have Hst5 := Lib.hid st5; have Hq := Lib.hid hq
      rw [show wt.heap.size = wr.heap.size + 1 by rw [hwt]; simp, hwt] at hr
      clear hm hc hq hbt stt hown5 hg5 st5 ho5 st q1 q2 q3 q4 hwt
      go_wp2_with fail
      go_roundw
      case rel => exact ⟨k + 1, _, by omega, by go_num, Hst5.out⟩
      case measure => simp [intOf]; omega
    · have hkI : ¬ (k : Int) < (n2 : Int) := by omega
      have hke : k = m.items.length := by rw [Hn2.out]; omega
      have Hst := Lib.hid st
      have Hke := Lib.hid hke
      clear st hke
      go_wp2_with fail
      clear r1
      go_loopw [6] (fun i wr => ∃ (k' : Nat) (v3 : Value), k' ≤ n3 ∧ i = .int .i64 (k' : Int) ∧ GivSt 26 31 3 47 48 w wr m [.slice a1 n1 p1, .slice a2 n2 p2, .slice a3 n3 p3] (.slice b1 n1 d1) v2 v3 k k') (fun i _ => n3 - (intOf i).toNat)
      case atStart => exact ⟨0, _, by omega, rfl, Hst.out⟩
      case round =>
        obtain ⟨k', v3, hk', rfl, st⟩ := hrel
        clear Hst
        have r1 : wr.cell? ⟨w.heap.size, 2, none⟩ = some (.slice a3 n3 p3) := by simpa using st.par.cell 2
        by_cases hkn' : k' < n3
        · have hkI' : (k' : Int) < (n3 : Int) := by omega
          have hkm : k' < m.gone.length := by rw [Hn3.out]; exact hkn'
          have hm := Hh.out.keep (w' := wr) fun b _ hlt => st.below.block b hlt
          obtain ⟨b, off, rfl, -, hblt, hc⟩ := go_cell hm.gone (by omega)
          obtain ⟨e0, e1, e2⟩ := hc k' hkm
          obtain ⟨q, hq⟩ : ∃ q, m.gone[k'] = q := ⟨_, rfl⟩
          rw [hq] at e0 e1 e2
          obtain ⟨ka, da, sa⟩ := q
          dsimp only at e0 e1 e2
          obtain ⟨wt, hwt⟩ : ∃ wt, wt = wr.alloc (.cells #[.string ⟨ka.toArray⟩, .int .i64 da, .int .i64 sa] 46) := ⟨_, rfl⟩
          have hbt : Below wr.heap.size wr wt := by rw [hwt]; exact kept_alloc _ _
          have stt := st.kept hbt
          obtain ⟨i0, q1, q2, q3, q4⟩ := info_parts infoGoP
          obtain ⟨v3', w5, hr, hown5, hg5⟩ := run_append_one (P := Tryz.prog) wt w.heap.size 29 48 Tryz.underlying29 q1 q2 q3 q4 rfl (by decide) v3 k' _ stt.o3 #[.string ⟨ka.toArray⟩, .int .i64 da, .int .i64 sa] rfl (by simp [Value.oneCell']) (by unfold maxLen; omega) (by omega) (by have := stt.below.size; omega)
          obtain ⟨b3, d3, rfl, -⟩ := (Rows.of_owns hown5).shape
          have st5 := (stt.kept (kept_alloc wt (.cells #[.string ⟨ka.toArray⟩, .int .i64 da, .int .i64 sa] 48))).stepGo hkm (by rw [hq]; exact hown5) hg5 (by decide) (by decide) (by decide) (by decide) (by decide) (by decide)
          have ho5 := (stt.kept (kept_alloc wt (.cells #[.string ⟨ka.toArray⟩, .int .i64 da, .int .i64 sa] 48))).out.grownNe (stt.kept (kept_alloc wt (.cells #[.string ⟨ka.toArray⟩, .int .i64 da, .int .i64 sa] 48))).o3 (by decide) hg5
          have o1 := ho5.cell 2
          have f1 := ho5.free 2
          simp at o1
          have ht1 : wr.cell? ⟨w.heap.size + 1 + 1, 2, none⟩ = some v3 := by simpa using st.out.cell 2
          have hlt1 := st.out.lt
          have hlt0 := st.par.lt
          have Hst5 := Lib.hid st5; have Hq := Lib.hid hq
          rw [show wt.heap.size = wr.heap.size + 1 by rw [hwt]; simp, hwt] at hr
          clear hm hc hq hbt stt hown5 hg5 st5 ho5 st q1 q2 q3 q4 hwt
          go_wp2_with fail
          go_roundw
          case rel => exact ⟨k' + 1, _, by omega, by go_num, Hst5.out⟩
          case measure => simp [intOf]; omega
        · have hkI' : ¬ (k' : Int) < (n3 : Int) := by omega
          have hke' : k' = m.gone.length := by rw [Hn3.out]; omega
          obtain ⟨b2, d2, rfl, -⟩ := (Rows.of_owns st.o2).shape
          obtain ⟨b3, d3, rfl, -⟩ := (Rows.of_owns st.o3).shape
          have x0 := st.out.cell 0
          have x1 := st.out.cell 1
          have x2 := st.out.cell 2
          have y0 := st.res.cell 0
          have y1 := st.res.cell 1
          have y2 := st.res.cell 2
          have z0 := st.res.free 0
          have z1 := st.res.free 1
          have z2 := st.res.free 2
          simp at x0 x1 x2 y0 y1 y2
          obtain ⟨wf, hwf⟩ : ∃ wf, wf = ((wr.setCell ⟨w.heap.size + 1, 0, none⟩ (.slice b1 n1 d1)).setCell ⟨w.heap.size + 1, 1, none⟩ (.slice b2 k d2)).setCell ⟨w.heap.size + 1, 2, none⟩ (.slice b3 k' d3) := ⟨_, rfl⟩
          obtain ⟨hrf, hmf, hof, hbf⟩ := st.done Hke.out hke' Hh.out (by decide) (by decide) (by decide) hwf
          have Hwf := Lib.hid hwf; have Hmf := Lib.hid hmf; have Hof := Lib.hid hof; have Hbf := Lib.hid hbf; have Hrf := Lib.hid hrf
          clear st hke' hwf hrf hmf hof hbf
          go_wp2_with fail
          rw [← Hwf.out]
          have q0 := Hrf.out.cell 0
          have q1 := Hrf.out.cell 1
          have q2 := Hrf.out.cell 2
          simp at q0 q1 q2
          exact bodyPost_ret (v := .agg #[.slice b1 n1 d1, .slice b2 k d2, .slice b3 k' d3]) (by simp [results, Tryz.results5, go_sem, q0, q1, q2]) rfl ⟨_, rfl, Hof.out, Hmf.out, Hbf.out⟩
theorem given_any (w : World) (F : Blks) (v : Value) (m : RMap) (h : MapV F w v m) (hs : m.seen.length ≤ 1000000) (hi : m.items.length ≤ 1000000) (hg : m.gone.length ≤ 1000000) :
    Calls Tryz.prog 5 #[v] w (GivenPost w m) := (given_own w F v m h hs hi hg).mono fun e w' ⟨v, h1, _, h2, h3⟩ => ⟨v, h1, h2, h3⟩

set_option maxRecDepth 100000 in
set_option maxHeartbeats 1500000 in
theorem taken_own (w : World) (F : Blks) (v : Value) (m : RMap) (h : MapV F w v m) (hs : m.seen.length ≤ 1000000) (hi : m.items.length ≤ 1000000) (hg : m.gone.length ≤ 1000000) :
    Calls Tryz.prog 20 #[v] w (GivenPostT 3 44 46 w m) := by
  obtain ⟨s1, s2, s3, rfl, h⟩ := h
  obtain ⟨a1, p1, rfl, -⟩ := h.seen.shape
  obtain ⟨a2, p2, rfl, -⟩ := h.items.shape
  obtain ⟨a3, p3, rfl, -⟩ := h.gone.shape
  have l1 := h.seen.len
  have l2 := h.items.len
  have l3 := h.gone.len
  unfold maxLen at l1 l2 l3
  obtain ⟨n1, hn1⟩ : ∃ n, m.seen.length = n := ⟨_, rfl⟩
  obtain ⟨n2, hn2⟩ : ∃ n, m.items.length = n := ⟨_, rfl⟩
  obtain ⟨n3, hn3⟩ : ∃ n, m.gone.length = n := ⟨_, rfl⟩
  rw [hn1, hn2, hn3] at h
  rw [hn1] at l1 ⊢
  rw [hn2] at l2 ⊢
  rw [hn3] at l3 ⊢
  obtain ⟨wx, hwx⟩ : ∃ wx, wx = w.alloc (.cells #[.slice a1 n1 p1, .slice a2 n2 p2, .slice a3 n3 p3] 31) := ⟨_, rfl⟩
  have hbx : Below w.heap.size w wx := by rw [hwx]; exact kept_alloc _ _
  have hzx : wx.heap.size = w.heap.size + 1 := by rw [hwx]; simp
  have hx := h.keep (w' := wx) fun b _ hlt => hbx.block b hlt
  have hnx : Blk wx w.heap.size [.slice a1 n1 p1, .slice a2 n2 p2, .slice a3 n3 p3] 31 := by rw [hwx]; exact Blk.new _ _ _
  have Hx := Lib.hid hx; have Hn1 := Lib.hid hn1; have Hn2 := Lib.hid hn2; have Hn3 := Lib.hid hn3
  have Hwx := Lib.hid hwx; have Hbx := Lib.hid hbx; have Hzx := Lib.hid hzx
  have c0 := hnx.cell 0
  have c1 := hnx.cell 1
  have c2 := hnx.cell 2
  simp at c0 c1 c2
  have Hnx := Lib.hid hnx
  clear hx hn1 hn2 hn3 hwx hbx hnx hzx
  rw [Hn1.out] at hs
  rw [Hn2.out] at hi
  rw [Hn3.out] at hg
  have Hh := Lib.hid h
  obtain ⟨w2, hw2⟩ : ∃ w2, w2 = (wx.alloc (.cells #[.slice none 0 0, .slice none 0 0, .slice none 0 0] 26)).alloc (.cells #[.slice none 0 0, .slice none 0 0, .slice none 0 0] 26) := ⟨_, rfl⟩
  have hb2 : Below w.heap.size w w2 := by rw [hw2]; exact (Hbx.out.alloc Hbx.out.size _).alloc (by have := Hbx.out.size; simp; omega) _
  have hz2 : w2.heap.size = w.heap.size + 3 := by rw [hw2]; simp [Hzx.out]
  have hx2 : MapIn F w2 _ _ _ m := h.keep fun b _ hlt => hb2.block b hlt
  have ho2 : Blk w2 (w.heap.size + 1 + 1) [.slice none 0 0, .slice none 0 0, .slice none 0 0] 26 := by
    have := Blk.new (wx.alloc (.cells #[.slice none 0 0, .slice none 0 0, .slice none 0 0] 26)) #[.slice none 0 0, .slice none 0 0, .slice none 0 0] 26
    rw [hw2]
    simpa [Hzx.out] using this
  have hr2 : Blk w2 (w.heap.size + 1) [.slice none 0 0, .slice none 0 0, .slice none 0 0] 26 := by
    have := (Blk.new wx #[.slice none 0 0, .slice none 0 0, .slice none 0 0] 26).alloc (.cells #[.slice none 0 0, .slice none 0 0, .slice none 0 0] 26)
    rw [hw2]
    simpa [Hzx.out] using this
  have hp2 : Blk w2 w.heap.size _ _ := Hnx.out.keep (by rw [hw2]; exact ((kept_alloc wx _).trans (kept_alloc _ _ |>.mono (by simp))).block _ Hnx.out.lt)
  obtain ⟨i0, q1, q2, q3, q4⟩ := info_parts infoI
  obtain ⟨v1, w3, hr, hown3, hg3⟩ := run_append_rows (P := Tryz.prog) w2 w.heap.size 22 3 Tryz.underlying22 q1 q2 q3 q4 rfl (by decide) _ _ _ (World.ownsRow_nil w2 w.heap.size 3 1) F _ _ _ hx2.seen (one_eI _) (by rw [Hn1.out]; unfold maxLen; omega) (by rw [Hn1.out]; omega) (by omega)
  rw [Hn1.out, Nat.zero_add, List.nil_append] at hown3
  obtain ⟨b1, d1, rfl, -⟩ := (Rows.of_owns hown3).shape
  have ho3 := ho2.grownNe (World.ownsRow_nil w2 w.heap.size 3 1) (by decide) hg3
  have hr3 := hr2.grownNe (World.ownsRow_nil w2 w.heap.size 3 1) (by decide) hg3
  have hp3 := hp2.grownNe (World.ownsRow_nil w2 w.heap.size 3 1) (by decide) hg3
  have hb3 : Below w.heap.size w w3 := hb2.trans (Below.grownOwn (World.ownsRow_nil w2 w.heap.size 3 1) hg3 (by omega) (Nat.le_refl _))
  have o0 := ho3.cell 0
  have f0 := ho3.free 0
  simp at o0
  obtain ⟨w4, hw4⟩ : ∃ w4, w4 = w3.setCell ⟨w.heap.size + 1 + 1, 0, none⟩ (.slice b1 n1 d1) := ⟨_, rfl⟩
  have st4 : GivSt 31 26 3 44 46 w w4 m [.slice a1 n1 p1, .slice a2 n2 p2, .slice a3 n3 p3] (.slice b1 n1 d1) (.slice none 0 0) (.slice none 0 0) 0 0 := by
    rw [hw4]
    exact ⟨ho3.set 0 _, hp3.set_other _ (by show w.heap.size ≠ w.heap.size + 1 + 1; omega), hr3.set_other _ (by show w.heap.size + 1 ≠ w.heap.size + 1 + 1; omega), by rw [Hn1.out]; exact own_setCell hown3 ho3 (by decide) _, World.ownsRow_nil _ _ _ _, World.ownsRow_nil _ _ _ _, hb3.setCell (by show w.heap.size ≤ w.heap.size + 1 + 1; omega) _⟩
  rw [hw2, Hwx.out] at hr
  have Hst4 := Lib.hid st4; have Hw4 := Lib.hid hw4
  clear h hx2 ho2 hp2 hr2 hown3 hg3 ho3 hp3 hr3 hb3 st4 hw4 hw2 hb2 hz2 q1 q2 q3 q4
  go_enter Tryz.func20, Tryz.ntmps20
  go_wp2_with fail
  rw [← Hw4.out]
  clear hr o0 f0
  go_loopw [4] (fun i wr => ∃ (k : Nat) (v2 : Value), k ≤ n2 ∧ i = .int .i64 (k : Int) ∧ GivSt 31 26 3 44 46 w wr m [.slice a1 n1 p1, .slice a2 n2 p2, .slice a3 n3 p3] (.slice b1 n1 d1) v2 (.slice none 0 0) k 0) (fun i _ => n2 - (intOf i).toNat)
  case atStart => exact ⟨0, _, by omega, rfl, Hst4.out⟩
  case round =>
    obtain ⟨k, v2, hk, rfl, st⟩ := hrel
    have r1 : wr.cell? ⟨w.heap.size, 1, none⟩ = some (.slice a2 n2 p2) := by simpa using st.par.cell 1
    by_cases hkn : k < n2
    · have hkI : (k : Int) < (n2 : Int) := by omega
      have hkm : k < m.items.length := by rw [Hn2.out]; exact hkn
      have hm := Hh.out.keep (w' := wr) fun b _ hlt => st.below.block b hlt
      obtain ⟨b, off, rfl, -, hblt, hc⟩ := it_cell hm.items (by omega)
      obtain ⟨e0, e1, e2, e3⟩ := hc k hkm
      obtain ⟨q, hq⟩ : ∃ q, m.items[k] = q := ⟨_, rfl⟩
      rw [hq] at e0 e1 e2 e3
      obtain ⟨ka, da, sa, va⟩ := q
      dsimp only at e0 e1 e2 e3
      obtain ⟨wt, hwt⟩ : ∃ wt, wt = wr.alloc (.cells #[.string ⟨ka.toArray⟩, .int .i64 da, .int .i64 sa, .int .i64 va] 47) := ⟨_, rfl⟩
      have hbt : Below wr.heap.size wr wt := by rw [hwt]; exact kept_alloc _ _
      have stt := st.kept hbt
      obtain ⟨i0, q1, q2, q3, q4⟩ := info_parts infoItR
      obtain ⟨v2', w5, hr, hown5, hg5⟩ := run_append_one (P := Tryz.prog) wt w.heap.size 23 44 Tryz.underlying23 q1 q2 q3 q4 rfl (by decide) v2 k _ stt.o2 #[.string ⟨ka.toArray⟩, .int .i64 da, .int .i64 sa, .int .i64 va] rfl (by simp [Value.oneCell']) (by unfold maxLen; omega) (by omega) (by have := stt.below.size; omega)
      obtain ⟨b2, d2, rfl, -⟩ := (Rows.of_owns hown5).shape
      have st5 := (stt.kept (kept_alloc wt (.cells #[.string ⟨ka.toArray⟩, .int .i64 da, .int .i64 sa, .int .i64 va] 44))).stepIt hkm (by rw [hq]; exact hown5) hg5 (by decide) (by decide) (by decide) (by decide) (by decide) (by decide)
      have ho5 := (stt.kept (kept_alloc wt (.cells #[.string ⟨ka.toArray⟩, .int .i64 da, .int .i64 sa, .int .i64 va] 44))).out.grownNe (stt.kept (kept_alloc wt (.cells #[.string ⟨ka.toArray⟩, .int .i64 da, .int .i64 sa, .int .i64 va] 44))).o2 (by decide) hg5
      have o1 := ho5.cell 1
      have f1 := ho5.free 1
      simp at o1
      have ht1 : wr.cell? ⟨w.heap.size + 1 + 1, 1, none⟩ = some v2 := by simpa using st.out.cell 1
      have hlt1 := st.out.lt
      have hlt0 := st.par.lt
      have Hst5 := Lib.hid st5; have Hq := Lib.hid hq
      rw [show wt.heap.size = wr.heap.size + 1 by rw [hwt]; simp, hwt] at hr
      clear hm hc hq hbt stt hown5 hg5 st5 ho5 st q1 q2 q3 q4 hwt
      go_wp2_with fail
      go_roundw
      case rel => exact ⟨k + 1, _, by omega, by go_num, Hst5.out⟩
      case measure => simp [intOf]; omega
    · have hkI : ¬ (k : Int) < (n2 : Int) := by omega
      have hke : k = m.items.length := by rw [Hn2.out]; omega
      have Hst := Lib.hid st
      have Hke := Lib.hid hke
      clear st hke
      go_wp2_with fail
      clear r1
      go_loopw [6] (fun i wr => ∃ (k' : Nat) (v3 : Value), k' ≤ n3 ∧ i = .int .i64 (k' : Int) ∧ GivSt 31 26 3 44 46 w wr m [.slice a1 n1 p1, .slice a2 n2 p2, .slice a3 n3 p3] (.slice b1 n1 d1) v2 v3 k k') (fun i _ => n3 - (intOf i).toNat)
      case atStart => exact ⟨0, _, by omega, rfl, Hst.out⟩
      case round =>
        obtain ⟨k', v3, hk', rfl, st⟩ := hrel
        clear Hst
        have r1 : wr.cell? ⟨w.heap.size, 2, none⟩ = some (.slice a3 n3 p3) := by simpa using st.par.cell 2
        by_cases hkn' : k' < n3
        · have hkI' : (k' : Int) < (n3 : Int) := by omega
          have hkm : k' < m.gone.length := by rw [Hn3.out]; exact hkn'
          have hm := Hh.out.keep (w' := wr) fun b _ hlt => st.below.block b hlt
          obtain ⟨b, off, rfl, -, hblt, hc⟩ := go_cell hm.gone (by omega)
          obtain ⟨e0, e1, e2⟩ := hc k' hkm
          obtain ⟨q, hq⟩ : ∃ q, m.gone[k'] = q := ⟨_, rfl⟩
          rw [hq] at e0 e1 e2
          obtain ⟨ka, da, sa⟩ := q
          dsimp only at e0 e1 e2
          obtain ⟨wt, hwt⟩ : ∃ wt, wt = wr.alloc (.cells #[.string ⟨ka.toArray⟩, .int .i64 da, .int .i64 sa] 48) := ⟨_, rfl⟩
          have hbt : Below wr.heap.size wr wt := by rw [hwt]; exact kept_alloc _ _
          have stt := st.kept hbt
          obtain ⟨i0, q1, q2, q3, q4⟩ := info_parts infoGoR
          obtain ⟨v3', w5, hr, hown5, hg5⟩ := run_append_one (P := Tryz.prog) wt w.heap.size 24 46 Tryz.underlying24 q1 q2 q3 q4 rfl (by decide) v3 k' _ stt.o3 #[.string ⟨ka.toArray⟩, .int .i64 da, .int .i64 sa] rfl (by simp [Value.oneCell']) (by unfold maxLen; omega) (by omega) (by have := stt.below.size; omega)
          obtain ⟨b3, d3, rfl, -⟩ := (Rows.of_owns hown5).shape
          have st5 := (stt.kept (kept_alloc wt (.cells #[.string ⟨ka.toArray⟩, .int .i64 da, .int .i64 sa] 46))).stepGo hkm (by rw [hq]; exact hown5) hg5 (by decide) (by decide) (by decide) (by decide) (by decide) (by decide)
          have ho5 := (stt.kept (kept_alloc wt (.cells #[.string ⟨ka.toArray⟩, .int .i64 da, .int .i64 sa] 46))).out.grownNe (stt.kept (kept_alloc wt (.cells #[.string ⟨ka.toArray⟩, .int .i64 da, .int .i64 sa] 46))).o3 (by decide) hg5
          have o1 := ho5.cell 2
          have f1 := ho5.free 2
          simp at o1
          have ht1 : wr.cell? ⟨w.heap.size + 1 + 1, 2, none⟩ = some v3 := by simpa using st.out.cell 2
          have hlt1 := st.out.lt
          have hlt0 := st.par.lt
          have Hst5 := Lib.hid st5; have Hq := Lib.hid hq
          rw [show wt.heap.size = wr.heap.size + 1 by rw [hwt]; simp, hwt] at hr
          clear hm hc hq hbt stt hown5 hg5 st5 ho5 st q1 q2 q3 q4 hwt
          go_wp2_with fail
          go_roundw
          case rel => exact ⟨k' + 1, _, by omega, by go_num, Hst5.out⟩
          case measure => simp [intOf]; omega
        · have hkI' : ¬ (k' : Int) < (n3 : Int) := by omega
          have hke' : k' = m.gone.length := by rw [Hn3.out]; omega
          obtain ⟨b2, d2, rfl, -⟩ := (Rows.of_owns st.o2).shape
          obtain ⟨b3, d3, rfl, -⟩ := (Rows.of_owns st.o3).shape
          have x0 := st.out.cell 0
          have x1 := st.out.cell 1
          have x2 := st.out.cell 2
          have y0 := st.res.cell 0
          have y1 := st.res.cell 1
          have y2 := st.res.cell 2
          have z0 := st.res.free 0
          have z1 := st.res.free 1
          have z2 := st.res.free 2
          simp at x0 x1 x2 y0 y1 y2
          obtain ⟨wf, hwf⟩ : ∃ wf, wf = ((wr.setCell ⟨w.heap.size + 1, 0, none⟩ (.slice b1 n1 d1)).setCell ⟨w.heap.size + 1, 1, none⟩ (.slice b2 k d2)).setCell ⟨w.heap.size + 1, 2, none⟩ (.slice b3 k' d3) := ⟨_, rfl⟩
          obtain ⟨hrf, hmf, hof, hbf⟩ := st.done Hke.out hke' Hh.out (by decide) (by decide) (by decide) hwf
          have Hwf := Lib.hid hwf; have Hmf := Lib.hid hmf; have Hof := Lib.hid hof; have Hbf := Lib.hid hbf; have Hrf := Lib.hid hrf
          clear st hke' hwf hrf hmf hof hbf
          go_wp2_with fail
          rw [← Hwf.out]
          have q0 := Hrf.out.cell 0
          have q1 := Hrf.out.cell 1
          have q2 := Hrf.out.cell 2
          simp at q0 q1 q2
          exact bodyPost_ret (v := .agg #[.slice b1 n1 d1, .slice b2 k d2, .slice b3 k' d3]) (by simp [results, Tryz.results20, go_sem, q0, q1, q2]) rfl ⟨_, rfl, Hof.out, Hmf.out, Hbf.out⟩
theorem taken_any (w : World) (F : Blks) (v : Value) (m : RMap) (h : MapV F w v m) (hs : m.seen.length ≤ 1000000) (hi : m.items.length ≤ 1000000) (hg : m.gone.length ≤ 1000000) :
    Calls Tryz.prog 20 #[v] w (GivenPost w m) := (taken_own w F v m h hs hi hg).mono fun e w' ⟨v, h1, _, h2, h3⟩ => ⟨v, h1, h2, h3⟩
end Go.Proofs.YtohahloghmanpaaGreatDoor
/- same, equal, New. -/
namespace Go.Proofs.YtohahloghmanpaaGreatDoor
open Go.RowKit
set_option linter.unusedVariables false
set_option maxRecDepth 20000
attribute [local go_sem ↓] seal_append
attribute [local go_sem] opC upC

theorem cellLt {w : World} {a : Addr} {x : Value} (h : w.cell? a = some x) : a.block < w.heap.size := by
  rcases Nat.lt_or_ge a.block w.heap.size with hlt | hge
  · exact hlt
  · unfold World.cell? at h
    rw [Array.getElem?_eq_none hge] at h
    cases h
theorem laterC {w w' : World} {a : Addr} {x : Value} (h : w.cell? a = some x) (hl : Later w.drew w') : w'.cell? a = some x := by
  have hb : w'.heap[a.block]? = w.heap[a.block]? := hl.block a.block (cellLt h)
  unfold World.cell? at *
  rw [hb]
  exact h

set_option maxRecDepth 100000 in
set_option maxHeartbeats 1500000 in
theorem same_any (w : World) (F G : Blks) (va vb : Value) (a b : RMap) (ha : MapV F w va a) (hb : MapV G w vb b) (hs : a.seen.length ≤ 1000000) (hi : a.items.length ≤ 1000000) (hg : a.gone.length ≤ 1000000) :
    Calls Tryz.prog 10 #[va, vb] w (SamePost w a b) := by
  obtain ⟨s1a, s2a, s3a, rfl, ha⟩ := ha
  obtain ⟨a1a, p1a, rfl, -⟩ := ha.seen.shape
  obtain ⟨a2a, p2a, rfl, -⟩ := ha.items.shape
  obtain ⟨a3a, p3a, rfl, -⟩ := ha.gone.shape
  have l1a := ha.seen.len
  have l2a := ha.items.len
  have l3a := ha.gone.len
  unfold maxLen at l1a l2a l3a
  obtain ⟨n1a, hn1a⟩ : ∃ n, a.seen.length = n := ⟨_, rfl⟩
  obtain ⟨n2a, hn2a⟩ : ∃ n, a.items.length = n := ⟨_, rfl⟩
  obtain ⟨n3a, hn3a⟩ : ∃ n, a.gone.length = n := ⟨_, rfl⟩
  rw [hn1a, hn2a, hn3a] at ha
  rw [hn1a] at l1a ⊢
  rw [hn2a] at l2a ⊢
  rw [hn3a] at l3a ⊢
  obtain ⟨wxa, hwxa⟩ : ∃ wx, wx = w.alloc (.cells #[.slice a1a n1a p1a, .slice a2a n2a p2a, .slice a3a n3a p3a] 31) := ⟨_, rfl⟩
  have hbxa : Below w.heap.size w wxa := by rw [hwxa]; exact kept_alloc _ _
  have hzxa : wxa.heap.size = w.heap.size + 1 := by rw [hwxa]; simp
  have hxa := ha.keep (w' := wxa) fun b _ hlt => hbxa.block b hlt
  have hnxa : Blk wxa w.heap.size [.slice a1a n1a p1a, .slice a2a n2a p2a, .slice a3a n3a p3a] 31 := by rw [hwxa]; exact Blk.new _ _ _
  have Hxa := Lib.hid hxa; have Hn1a := Lib.hid hn1a; have Hn2a := Lib.hid hn2a; have Hn3a := Lib.hid hn3a
  have Hwxa := Lib.hid hwxa; have Hbxa := Lib.hid hbxa; have Hzxa := Lib.hid hzxa
  have c0a := hnxa.cell 0
  have c1a := hnxa.cell 1
  have c2a := hnxa.cell 2
  simp at c0a c1a c2a
  have Hnxa := Lib.hid hnxa
  clear hxa hn1a hn2a hn3a hwxa hbxa hnxa hzxa
  replace hb := hb.keep (w' := wxa) fun b _ hlt => Hbxa.out.block b hlt
  obtain ⟨s1b, s2b, s3b, rfl, hb⟩ := hb
  obtain ⟨a1b, p1b, rfl, -⟩ := hb.seen.shape
  obtain ⟨a2b, p2b, rfl, -⟩ := hb.items.shape
  obtain ⟨a3b, p3b, rfl, -⟩ := hb.gone.shape
  have l1b := hb.seen.len
  have l2b := hb.items.len
  have l3b := hb.gone.len
  unfold maxLen at l1b l2b l3b
  obtain ⟨n1b, hn1b⟩ : ∃ n, b.seen.length = n := ⟨_, rfl⟩
  obtain ⟨n2b, hn2b⟩ : ∃ n, b.items.length = n := ⟨_, rfl⟩
  obtain ⟨n3b, hn3b⟩ : ∃ n, b.gone.length = n := ⟨_, rfl⟩
  rw [hn1b, hn2b, hn3b] at hb
  rw [hn1b] at l1b ⊢
  rw [hn2b] at l2b ⊢
  rw [hn3b] at l3b ⊢
  obtain ⟨wxb, hwxb⟩ : ∃ wx, wx = wxa.alloc (.cells #[.slice a1b n1b p1b, .slice a2b n2b p2b, .slice a3b n3b p3b] 26) := ⟨_, rfl⟩
  have hbxb : Below wxa.heap.size wxa wxb := by rw [hwxb]; exact kept_alloc _ _
  have hzxb : wxb.heap.size = wxa.heap.size + 1 := by rw [hwxb]; simp
  have hxb := hb.keep (w' := wxb) fun b _ hlt => hbxb.block b hlt
  have hnxb : Blk wxb wxa.heap.size [.slice a1b n1b p1b, .slice a2b n2b p2b, .slice a3b n3b p3b] 26 := by rw [hwxb]; exact Blk.new _ _ _
  have Hxb := Lib.hid hxb; have Hn1b := Lib.hid hn1b; have Hn2b := Lib.hid hn2b; have Hn3b := Lib.hid hn3b
  have Hwxb := Lib.hid hwxb; have Hbxb := Lib.hid hbxb; have Hzxb := Lib.hid hzxb
  have c0b := hnxb.cell 0
  have c1b := hnxb.cell 1
  have c2b := hnxb.cell 2
  simp at c0b c1b c2b
  have Hnxb := Lib.hid hnxb
  clear hxb hn1b hn2b hn3b hwxb hbxb hnxb hzxb
  have Hxa := Lib.hid (Hxa.out.keep (w' := wxb) fun b _ hlt => Hbxb.out.block b hlt)
  have hnxa := Hnxa.out.keep (Hbxb.out.block _ Hnxa.out.lt)
  have c0a := hnxa.cell 0
  have c1a := hnxa.cell 1
  have c2a := hnxa.cell 2
  simp at c0a c1a c2a
  have Hnxa := Lib.hid hnxa
  rw [Hzxa.out] at c0b c1b c2b
  have Hbx := Lib.hid (kept_trans Hbxa.out Hbxb.out)
  clear hnxa
  have kd : Below w.heap.size w wxb := Hbx.out
  have HT := Lib.hid (taken_any wxb.drew F (.agg #[.slice a1a n1a p1a, .slice a2a n2a p2a, .slice a3a n3a p3a]) a (show MapV F wxb.drew _ a from ⟨_, _, _, rfl, Hxa.out.keep (w' := wxb.drew) fun b _ _ => rfl⟩) hs hi hg)
  have r0 : ∀ w', Later wxb.drew w' → w'.cell? ⟨w.heap.size, 0, none⟩ = some (.slice a1a n1a p1a) := fun w' hh => laterC c0a hh
  have r1 : ∀ w', Later wxb.drew w' → w'.cell? ⟨w.heap.size, 1, none⟩ = some (.slice a2a n2a p2a) := fun w' hh => laterC c1a hh
  have r2 : ∀ w', Later wxb.drew w' → w'.cell? ⟨w.heap.size, 2, none⟩ = some (.slice a3a n3a p3a) := fun w' hh => laterC c2a hh
  have s0 : ∀ w', Later wxb.drew w' → w'.cell? ⟨w.heap.size + 1, 0, none⟩ = some (.slice a1b n1b p1b) := fun w' hh => laterC c0b hh
  have s1 : ∀ w', Later wxb.drew w' → w'.cell? ⟨w.heap.size + 1, 1, none⟩ = some (.slice a2b n2b p2b) := fun w' hh => laterC c1b hh
  have s2 : ∀ w', Later wxb.drew w' → w'.cell? ⟨w.heap.size + 1, 2, none⟩ = some (.slice a3b n3b p3b) := fun w' hh => laterC c2b hh
  clear ha hb hs hi hg
  go_enter Tryz.func10, Tryz.ntmps10
  go_wp2_with fail
  rw [← Hwxa.out, ← Hwxb.out]
  refine wp_region_can Later [(0, true), (2, true), (1, false), (3, false), (4, true)] (by kernel_rfl) (by kernel_rfl) later_refl later_trans ?_
  clear c0a c1a c2a c0b c1b c2b
  repeat (refine can_yes (v := ?_) rfl (wanted_none rfl) (fun w' hC => ?_) (fun K hK => ?_); rotate_left; (focus (go_simp; first | done | exact rfl)); go_simp; refine hK _ ?_; clear hK K)
  refine can_go rfl rfl (fun KK hK => ?_)
  go_simp
  refine HT.out.mono ?_
  rintro e w3 ⟨vt, rfl, hvt, hb3⟩
  refine ⟨_, rfl, hb3, hK _ _ ?_⟩
  clear hK KK
  go_simp
  have HS := Lib.hid (same_any0 w3 _ _ _ (.agg #[.slice a1b n1b p1b, .slice a2b n2b p2b, .slice a3b n3b p3b]) a b hvt (show MapV G w3 _ b from ⟨_, _, _, rfl, Hxb.out.keep (w' := w3) fun b _ hlt => hb3.block b hlt⟩))
  have Hb3 := Lib.hid hb3
  clear HT hvt hb3
  repeat (refine can_yes (v := ?_) rfl (wanted_none rfl) (fun w' hC => ?_) (fun K hK => ?_); rotate_left; (focus (go_simp; first | done | exact rfl)); go_simp; refine hK _ ?_; clear hK K)
  refine can_go rfl rfl (fun KK hK => ?_)
  go_simp
  refine HS.out.mono ?_
  rintro e w4 ⟨r, rfl, hr, hb4⟩
  refine ⟨_, rfl, hb4, hK _ _ ?_⟩
  clear hK KK r0 r1 r2 s0 s1 s2 HS
  go_simp
  repeat (refine can_yes (v := ?_) rfl (wanted_none rfl) (fun w' hC => ?_) (fun K hK => ?_); rotate_left; (focus (go_simp; first | done | exact rfl)); go_simp; refine hK _ ?_; clear hK K)
  refine can_nil ?_
  have Hr := Lib.hid hr
  clear hr
  go_wp2_with fail
  go_ret
  have hz3 : wxb.heap.size ≤ w3.heap.size := Hb3.out.size
  exact ⟨r, rfl, Hr.out, (kd.drew).trans ((Hb3.out.mono kd.size).trans (hb4.mono (Nat.le_trans kd.size hz3)))⟩

/-! New -/
theorem made8 : (madeCells (Value.int .i64 0).cells (8 * 1)).toList = (List.replicate 8 (0 : Int)).map eI := by
  have h : madeCells (Array.replicate 1 (Value.int .i64 0)) 8 = Array.replicate 8 (Value.int .i64 0) := by
    apply Array.ext
    · simp [madeCells]
    · intro i h1 h2
      simp only [madeCells, Array.getElem_map, Array.getElem_range, Array.size_replicate, Array.getElem_replicate]
      rw [getElem!_pos (Array.replicate 1 (Value.int .i64 0)) (i % 1) (by simpa using Nat.mod_lt i (show 0 < 1 by decide))]
      simp
  simp only [Value.cells]
  rw [show #[Value.int .i64 0] = Array.replicate 1 (Value.int .i64 0) from rfl, show 8 * 1 = 8 from rfl, h]
  simp
attribute [local go_sem ↓] seal_make
set_option maxRecDepth 100000 in
set_option maxHeartbeats 1500000 in
theorem pnew_any (w : World) :
    Calls Tryz.prog 22 #[] w (GivenPost w RMap.new) := by
  obtain ⟨w1, hw1⟩ : ∃ w1, w1 = w.alloc (.cells #[.slice none 0 0, .slice none 0 0, .slice none 0 0] 31) := ⟨_, rfl⟩
  have hb1 : Below w.heap.size w w1 := by rw [hw1]; exact kept_alloc _ _
  have hz1 : w1.heap.size = w.heap.size + 1 := by rw [hw1]; simp
  have hr1 : Blk w1 w.heap.size [.slice none 0 0, .slice none 0 0, .slice none 0 0] 31 := by rw [hw1]; exact Blk.new _ _ _
  obtain ⟨i0, q1, q2, q3, q4⟩ := info_parts infoI
  obtain ⟨w2, hr, hown, hgb⟩ := run_make_full (P := Tryz.prog) w1 w.heap.size 22 3 i0 _ 1 Tryz.underlying22 q1 q2 q3 .i64 .i64 8 (by rw [q4]; omega) (by unfold maxLen; omega) (by omega)
  have hr' : (MK 22 (.int .i64 8) (.int .i64 8)).run Tryz.prog w1 = .ok (.slice (some ⟨w1.heap.size, 0, none⟩) 8 8) w2 := hr
  rw [made8] at hown
  have hr2 : Blk w2 w.heap.size _ _ := hr1.keep (hgb.block _ hr1.lt (by simp))
  have hb2 : Below w.heap.size w w2 := hb1.trans ((Below.refl w.heap.size w1).grown hgb (by omega) (by simp))
  have y0 := hr2.cell 0
  have y1 := hr2.cell 1
  have y2 := hr2.cell 2
  have z0 := hr2.free 0
  have z1 := hr2.free 1
  have z2 := hr2.free 2
  simp at y0 y1 y2
  rw [hz1] at hr' hown
  obtain ⟨wf, hwf⟩ : ∃ wf, wf = ((w2.setCell ⟨w.heap.size, 0, none⟩ (.slice (some ⟨w.heap.size + 1, 0, none⟩) 8 8)).setCell ⟨w.heap.size, 1, none⟩ (.slice none 0 0)).setCell ⟨w.heap.size, 2, none⟩ (.slice none 0 0) := ⟨_, rfl⟩
  have e1 := hr2.set 0 (.slice (some ⟨w.heap.size + 1, 0, none⟩) 8 8)
  have e2 := e1.set 1 (.slice none 0 0)
  have e3 := e2.set 2 (.slice none 0 0)
  have o1 := own_setCell (i := 2) (own_setCell (i := 1) (own_setCell (i := 0) hown hr2 (by decide) (.slice (some ⟨w.heap.size + 1, 0, none⟩) 8 8)) e1 (by decide) (.slice none 0 0)) e2 (by decide) (.slice none 0 0)
  have hbf : Below w.heap.size w wf := by
    rw [hwf]
    exact ((hb2.setCell (p := ⟨w.heap.size, 0, none⟩) (Nat.le_refl _) _).setCell (p := ⟨w.heap.size, 1, none⟩) (Nat.le_refl _) _).setCell (p := ⟨w.heap.size, 2, none⟩) (Nat.le_refl _) _
  have hmf : MapV (fun b => w.heap.size ≤ b) wf (.agg #[.slice (some ⟨w.heap.size + 1, 0, none⟩) 8 8, .slice none 0 0, .slice none 0 0]) RMap.new := by
    rw [hwf]
    refine ⟨_, _, _, rfl, (Rows.of_owns o1).mono (fun b h _ => h.1), Rows.nil _ _ _, Rows.nil _ _ _, ?_, nofun, nofun⟩
    intro n hn
    obtain rfl := List.eq_of_mem_replicate hn
    exact ⟨by decide, by decide⟩
  rw [← hwf] at e3
  have q0 := e3.cell 0
  have q1' := e3.cell 1
  have q2' := e3.cell 2
  simp at q0 q1' q2'
  rw [hw1] at hr'
  have Hwf := Lib.hid hwf; have Hmf := Lib.hid hmf; have Hbf := Lib.hid hbf
  have Q0 := Lib.hid q0; have Q1 := Lib.hid q1'; have Q2 := Lib.hid q2'
  clear hb1 hz1 hr1 hw1 hr hown hgb hr2 hb2 e1 e2 e3 o1 hbf hmf hwf q0 q1' q2' q1 q2 q3 q4
  go_enter Tryz.func22, Tryz.ntmps22
  go_wp2_with fail
  rw [← Hwf.out]
  have q0 := Q0.out
  have q1 := Q1.out
  have q2 := Q2.out
  exact bodyPost_ret (v := .agg #[.slice (some ⟨w.heap.size + 1, 0, none⟩) 8 8, .slice none 0 0, .slice none 0 0]) (by simp [results, Tryz.results22, go_sem, q0, q1, q2]) rfl ⟨_, rfl, Hmf.out, Hbf.out⟩
end Go.Proofs.YtohahloghmanpaaGreatDoor
