/- The law's spoil and short. -/
import Derived.Test.YtbjkkmabafaogaaGreatDoorRUse
namespace Go.Proofs.YtbjkkmabafaogaaGreatDoor
open Go.RowKit
set_option linter.unusedVariables false
set_option maxRecDepth 20000

/-- a row whose cells may be written -/
def WRow (B A : Nat) (w : World) (v : Value) (n k : Nat) : Prop := n = 0 ∨ ∃ g cap L t, v = .slice (some ⟨g, 0, none⟩) n cap ∧ B ≤ g ∧ g < A ∧ Blk w g L t ∧ n * k ≤ L.length
theorem WRow.of_own {w : World} {B A : Nat} {e : TypeId} {v : Value} {n k : Nat} {xs : List Value} (h : w.ownsRow B e k v n xs) (hA : w.heap.size ≤ A) : WRow B A w v n k := by
  rcases h.2 with ⟨_, h0⟩ | ⟨g, cap, cur, hv, hb, hg, hc, _, hs, _⟩
  · exact .inl h0
  · exact .inr ⟨g, cap, cur.toList, e, hv, hb, Nat.lt_of_lt_of_le (lt_of_block hg) hA, hg, by simp [hs]; exact Nat.mul_le_mul_right _ hc⟩
theorem WRow.set {w : World} {B A : Nat} {v : Value} {n k : Nat} (h : WRow B A w v n k) (g j : Nat) (u : Value) : WRow B A (w.setCell ⟨g, j, none⟩ u) v n k := by
  rcases h with h | ⟨g', cap, L, t, hv, hb, hA, hk, hl⟩
  · exact .inl h
  · by_cases he : g' = g
    · subst he
      exact .inr ⟨g', cap, _, t, hv, hb, hA, hk.set j u, by simpa using hl⟩
    · exact .inr ⟨g', cap, L, t, hv, hb, hA, hk.set_other u he, hl⟩
theorem WRow.keep {w w' : World} {B A : Nat} {v : Value} {n k : Nat} (h : WRow B A w v n k) (hk : ∀ g, g < A → w'.heap[g]? = w.heap[g]?) : WRow B A w' v n k := by
  rcases h with h | ⟨g', cap, L, t, hv, hb, hA, h1, hl⟩
  · exact .inl h
  · exact .inr ⟨g', cap, L, t, hv, hb, hA, h1.keep (hk g' hA), hl⟩
structure SpSt (B A : Nat) (w wr : World) (s1 s2 s3 : Value) (n1 n2 n3 : Nat) : Prop where
  box : Blk wr A [s1, s2, s3] 31
  r1 : WRow B A wr s1 n1 1
  r2 : WRow B A wr s2 n2 4
  r3 : WRow B A wr s3 n3 3
  bel : Below B w wr
theorem SpSt.set {B A : Nat} {w wr : World} {s1 s2 s3 : Value} {n1 n2 n3 : Nat} (h : SpSt B A w wr s1 s2 s3 n1 n2 n3) {g : Nat} (hB : B ≤ g) (hA : g < A) (j : Nat) (u : Value) : SpSt B A w (wr.setCell ⟨g, j, none⟩ u) s1 s2 s3 n1 n2 n3 :=
  ⟨h.box.set_other u (by show A ≠ g; omega), h.r1.set g j u, h.r2.set g j u, h.r3.set g j u, h.bel.setCell hB u⟩

set_option maxRecDepth 100000 in
set_option maxHeartbeats 2000000 in
theorem spoil_any (w : World) (B : Nat) (v : Value) (m : RMap) (h : OwnV w B v m) (hB : B ≤ w.heap.size) (hs : m.seen.length ≤ 1000000) (hi : m.items.length ≤ 1000000) (hg : m.gone.length ≤ 1000000) :
    Calls Tryz.prog 28 #[v] w fun e w' => e = .returned (.tuple #[]) ∧ Below B w w' := by
  obtain ⟨s1, s2, s3, rfl, ho⟩ := h
  obtain ⟨a1, p1, rfl⟩ := own_shape ho.seen
  obtain ⟨a2, p2, rfl⟩ := own_shape ho.items
  obtain ⟨a3, p3, rfl⟩ := own_shape ho.gone
  obtain ⟨n1, hn1⟩ : ∃ n, m.seen.length = n := ⟨_, rfl⟩
  obtain ⟨n2, hn2⟩ : ∃ n, m.items.length = n := ⟨_, rfl⟩
  obtain ⟨n3, hn3⟩ : ∃ n, m.gone.length = n := ⟨_, rfl⟩
  obtain ⟨wx, hwx⟩ : ∃ wx, wx = w.alloc (.cells #[.slice a1 m.seen.length p1, .slice a2 m.items.length p2, .slice a3 m.gone.length p3] 31) := ⟨_, rfl⟩
  have Hst := Lib.hid (show SpSt B w.heap.size w wx (.slice a1 m.seen.length p1) (.slice a2 m.items.length p2) (.slice a3 m.gone.length p3) m.seen.length m.items.length m.gone.length by
    rw [hwx]
    have hk : ∀ g, g < w.heap.size → (w.alloc (.cells #[.slice a1 m.seen.length p1, .slice a2 m.items.length p2, .slice a3 m.gone.length p3] 31)).heap[g]? = w.heap[g]? := fun g hg => Below.heap_alloc _ _ _ hg
    exact ⟨Blk.new _ _ _, (WRow.of_own ho.seen (Nat.le_refl _)).keep hk, (WRow.of_own ho.items (Nat.le_refl _)).keep hk, (WRow.of_own ho.gone (Nat.le_refl _)).keep hk, (Below.refl B w).alloc hB _⟩)
  have Hwx := Lib.hid hwx
  rw [hn1, hn2, hn3] at Hst
  rw [hn1, hn2, hn3] at Hwx ⊢
  rw [hn1] at hs
  rw [hn2] at hi
  rw [hn3] at hg
  clear hwx ho hn1 hn2 hn3 hB
  go_enter Tryz.func28, Tryz.ntmps28
  go_wp2_with fail
  rw [← Hwx.out]
  go_loopw [2] (fun i wr => ∃ k : Nat, k ≤ n1 ∧ i = .int .i64 (k : Int) ∧ SpSt B w.heap.size w wr (.slice a1 n1 p1) (.slice a2 n2 p2) (.slice a3 n3 p3) n1 n2 n3) (fun i _ => n1 - (intOf i).toNat)
  case atStart => exact ⟨0, by omega, rfl, Hst.out⟩
  case round =>
    obtain ⟨k, hk, rfl, st⟩ := hrel
    obtain ⟨c0, c1, c2⟩ := cell3 st.box
    by_cases hkn : k < n1
    · have hkI : (k : Int) < (n1 : Int) := by omega
      obtain ⟨g, cap, L, t, hv, hb, hA, hblk, hle⟩ := st.r1.resolve_left (by omega)
      simp at hv
      obtain ⟨rfl, rfl⟩ := hv
      obtain ⟨z0, e0⟩ : ∃ z, wr.cell? ⟨g, k, none⟩ = some z := ⟨_, (hblk.cell (k)).trans (List.getElem?_eq_getElem (show k < L.length by omega))⟩
      have f0 := hblk.free k
      have Hst2 := Lib.hid (st.set hb hA k (.int .i64 (-7)))
      clear st hblk hle
      go_wp2_with fail
      go_roundw
      case rel => exact ⟨k + 1, by omega, by go_num, Hst2.out⟩
      case measure => simp [intOf]; omega
    · have hkI : ¬ (k : Int) < (n1 : Int) := by omega
      have Hst2 := Lib.hid st
      rename World => wr
      clear st
      go_wp2_with fail
      clear c0 c1 c2
      go_loopw [3] (fun i wr => ∃ k : Nat, k ≤ n2 ∧ i = .int .i64 (k : Int) ∧ SpSt B w.heap.size w wr (.slice a1 n1 p1) (.slice a2 n2 p2) (.slice a3 n3 p3) n1 n2 n3) (fun i _ => n2 - (intOf i).toNat)
      case atStart => exact ⟨0, by omega, rfl, Hst2.out⟩
      case round =>
        obtain ⟨k, hk, rfl, st⟩ := hrel
        obtain ⟨c0, c1, c2⟩ := cell3 st.box
        by_cases hkn : k < n2
        · have hkI : (k : Int) < (n2 : Int) := by omega
          obtain ⟨g, cap, L, t, hv, hb, hA, hblk, hle⟩ := st.r2.resolve_left (by omega)
          simp at hv
          obtain ⟨rfl, rfl⟩ := hv
          obtain ⟨z0, e0⟩ : ∃ z, wr.cell? ⟨g, k * 4, none⟩ = some z := ⟨_, (hblk.cell (k * 4)).trans (List.getElem?_eq_getElem (show k * 4 < L.length by omega))⟩
          obtain ⟨z1, e1⟩ : ∃ z, wr.cell? ⟨g, k * 4 + 1, none⟩ = some z := ⟨_, (hblk.cell (k * 4 + 1)).trans (List.getElem?_eq_getElem (show k * 4 + 1 < L.length by omega))⟩
          obtain ⟨z2, e2⟩ : ∃ z, wr.cell? ⟨g, k * 4 + 2, none⟩ = some z := ⟨_, (hblk.cell (k * 4 + 2)).trans (List.getElem?_eq_getElem (show k * 4 + 2 < L.length by omega))⟩
          obtain ⟨z3, e3⟩ : ∃ z, wr.cell? ⟨g, k * 4 + 3, none⟩ = some z := ⟨_, (hblk.cell (k * 4 + 3)).trans (List.getElem?_eq_getElem (show k * 4 + 3 < L.length by omega))⟩
          have f0 := hblk.free (k * 4)
          have f1 := hblk.free (k * 4 + 1)
          have f2 := hblk.free (k * 4 + 2)
          have f3 := hblk.free (k * 4 + 3)
          have Hst2 := Lib.hid ((((st.set hb hA (k * 4) (.string ⟨#[115, 112, 111, 105, 108, 116]⟩)).set hb hA (k * 4 + 1) (.int .i64 0)).set hb hA (k * 4 + 2) (.int .i64 0)).set hb hA (k * 4 + 3) (.int .i64 0))
          clear st hblk hle
          go_wp2_with fail
          go_roundw
          case rel => exact ⟨k + 1, by omega, by go_num, Hst2.out⟩
          case measure => simp [intOf]; omega
        · have hkI : ¬ (k : Int) < (n2 : Int) := by omega
          have Hst3 := Lib.hid st
          rename World => wr
          clear st
          go_wp2_with fail
          clear c0 c1 c2
          go_loopw [4] (fun i wr => ∃ k : Nat, k ≤ n3 ∧ i = .int .i64 (k : Int) ∧ SpSt B w.heap.size w wr (.slice a1 n1 p1) (.slice a2 n2 p2) (.slice a3 n3 p3) n1 n2 n3) (fun i _ => n3 - (intOf i).toNat)
          case atStart => exact ⟨0, by omega, rfl, Hst3.out⟩
          case round =>
            obtain ⟨k, hk, rfl, st⟩ := hrel
            obtain ⟨c0, c1, c2⟩ := cell3 st.box
            by_cases hkn : k < n3
            · have hkI : (k : Int) < (n3 : Int) := by omega
              obtain ⟨g, cap, L, t, hv, hb, hA, hblk, hle⟩ := st.r3.resolve_left (by omega)
              simp at hv
              obtain ⟨rfl, rfl⟩ := hv
              obtain ⟨z0, e0⟩ : ∃ z, wr.cell? ⟨g, k * 3, none⟩ = some z := ⟨_, (hblk.cell (k * 3)).trans (List.getElem?_eq_getElem (show k * 3 < L.length by omega))⟩
              obtain ⟨z1, e1⟩ : ∃ z, wr.cell? ⟨g, k * 3 + 1, none⟩ = some z := ⟨_, (hblk.cell (k * 3 + 1)).trans (List.getElem?_eq_getElem (show k * 3 + 1 < L.length by omega))⟩
              obtain ⟨z2, e2⟩ : ∃ z, wr.cell? ⟨g, k * 3 + 2, none⟩ = some z := ⟨_, (hblk.cell (k * 3 + 2)).trans (List.getElem?_eq_getElem (show k * 3 + 2 < L.length by omega))⟩
              have f0 := hblk.free (k * 3)
              have f1 := hblk.free (k * 3 + 1)
              have f2 := hblk.free (k * 3 + 2)
              have Hst2 := Lib.hid (((st.set hb hA (k * 3) (.string ⟨#[115, 112, 111, 105, 108, 116]⟩)).set hb hA (k * 3 + 1) (.int .i64 0)).set hb hA (k * 3 + 2) (.int .i64 0))
              clear st hblk hle
              go_wp2_with fail
              go_roundw
              case rel => exact ⟨k + 1, by omega, by go_num, Hst2.out⟩
              case measure => simp [intOf]; omega
            · have hkI : ¬ (k : Int) < (n3 : Int) := by omega
              have Hbel := Lib.hid st.bel
              clear st
              go_wp2_with fail
              go_end0
              exact ⟨rfl, Hbel.out⟩

def ShortPost (w : World) (l : List RKey) (e : Ending) (w' : World) : Prop := ∃ r, e = .returned (.bool r) ∧ (r = true → l.length ≤ 20 ∧ ∀ k ∈ l, k.length ≤ 500) ∧ w = w'
set_option maxHeartbeats 1000000 in
theorem short_any (w : World) (F : Blks) (v : Value) (l : List RKey) (hv : Rows F w 1 v l.length (l.map eS)) :
    Calls Tryz.prog 25 #[v] w (ShortPost w l) := by
  obtain ⟨n, hn⟩ : ∃ n, l.length = n := ⟨_, rfl⟩
  obtain ⟨a, cap, rfl, -⟩ := hv.shape
  have hm := hv.len
  unfold maxLen at hm
  have Hv := Lib.hid hv
  rw [hn] at hm ⊢
  have Hn := Lib.hid hn
  clear hv hn
  go_enter Tryz.func25, Tryz.ntmps25
  go_wp2_with fail
  go_loop [3] (fun i => ∃ k : Nat, k ≤ n ∧ k ≤ 20 ∧ i = .int .i64 (k : Int) ∧ ∀ j (hj : j < l.length), j < k → l[j].length ≤ 500) (fun i => n - (intOf i).toNat)
  case atStart => exact ⟨0, by omega, by omega, rfl, fun j _ hj => by omega⟩
  case round =>
    obtain ⟨k, hk, hk20, rfl, hall⟩ := hrel
    have Hall := Lib.hid hall
    clear hall
    by_cases hkn : k < n
    · have hkI : (k : Int) < (n : Int) := by omega
      have hkl : k < l.length := by rw [Hn.out]; exact hkn
      by_cases h20 : k < 20
      · have hkJ : (k : Int) < 20 := by omega
        obtain ⟨b, off, rfl, -, -, hc⟩ := str_cell Hv.out (by omega)
        have e0 := hc k hkl
        obtain ⟨q, hq⟩ : ∃ q, l[k] = q := ⟨_, rfl⟩
        rw [hq] at e0
        have Hq := Lib.hid hq
        clear hc hq
        by_cases hl : (q.length : Int) > 500
        · have dl : decide ((q.length : Int) > 500) = true := by simpa using hl
          go_wp2_with fail
          go_ret
          exact ⟨false, rfl, nofun, rfl⟩
        · have dl : decide ((q.length : Int) > 500) = false := by simpa using hl
          go_wp2_with fail
          go_round
          case rel => exact ⟨k + 1, by omega, by omega, by go_num, fun j hj hjk => by
            rcases Nat.lt_succ_iff_lt_or_eq.1 hjk with h | h
            · exact Hall.out j hj h
            · subst h; rw [Hq.out]; omega⟩
          case measure => simp [intOf]; omega
      · have hkJ : ¬ (k : Int) < 20 := by omega
        have hn20 : ¬ (n : Int) ≤ 20 := by omega
        go_wp2_with fail
        go_ret
        exact ⟨false, by simp, nofun, rfl⟩
    · have hkI : ¬ (k : Int) < (n : Int) := by omega
      have hn20 : (n : Int) ≤ 20 := by omega
      have Hik := Lib.hid (show l.length ≤ 20 ∧ ∀ x ∈ l, x.length ≤ 500 from ⟨by rw [Hn.out]; omega, fun x hx => by
        obtain ⟨j, hj, rfl⟩ := List.getElem_of_mem hx
        exact Hall.out j hj (by rw [Hn.out] at hj; omega)⟩)
      go_wp2_with fail
      go_ret
      exact ⟨true, by simp, fun _ => Hik.out, rfl⟩

/-- append onto a new, empty row: what was there is there -/
theorem app_new {P : Program} (W : World) (base : Nat) (ts te : TypeId) {i0 : TypeInfo} {z : Value} {k bz : Nat} (hu : P.underlying ts = some (.slice te)) (hi : P.info? te = some i0) (hz : i0.zero = some z) (hs : i0.size = k) (hbz : i0.bytes = bz) (hzk : z.cells.size = k) (hk : 0 < k)
    (e0 : Nat) (he : Blk W e0 [] te) (hb : base ≤ e0) (F : Blks) (x : Value) (m : Nat) (X : List Value) (hx : Rows F W k x m X) (h1 : ∀ u ∈ X, u.oneCell' = true)
    (hlen : m ≤ maxLen) (hb47 : m * bz ≤ 140737488355328) (hbase : base ≤ W.heap.size) :
    ∃ v' w', (AP #[ts, ts] ts #[.slice (some ⟨e0, 0, none⟩) 0 0, x]).run P W = .ok v' w' ∧ w'.ownsRow base te k v' m X ∧ Below W.heap.size W w' := by
  have hown : W.ownsRow base te k (.slice (some ⟨e0, 0, none⟩) 0 0) 0 [] := ⟨by simp, .inr ⟨e0, 0, #[], rfl, hb, he, Nat.le_refl _, by unfold maxLen; omega, by simp, by simp⟩⟩
  obtain ⟨v', w', hr, ho, -⟩ := run_append_rows (P := P) W base ts te hu hi hz hs hbz hzk hk _ 0 [] hown F x m X hx h1 (by omega) (by simpa using hb47) hbase
  rw [Nat.zero_add, List.nil_append] at ho
  refine ⟨v', w', hr, ho, ?_⟩
  obtain ⟨a, cap, rfl, hc, hm, hzz, hX, hx⟩ := hx
  cases a with
  | none =>
    have h2 := run_append_owned_none (P := P) W base ts ts te i0 k hu hi _ _ _ hown
    obtain rfl := hzz rfl
    obtain rfl : m = 0 := by omega
    have hr' : (Builtin.append_ #[ts, ts] ts #[.slice (some ⟨e0, 0, none⟩) 0 0, .slice none 0 0]).run P W = .ok v' w' := hr
    rw [h2] at hr'
    simp at hr'
    rw [← hr'.2]
    exact Below.refl _ _
  | some ad =>
    have hnews : ∀ j u, X[j]? = some u → W.cell? (ad.add j) = some u := fun j u hj => by
      have hjl : j < m * k := by rw [← hX]; exact (List.getElem?_eq_some_iff.1 hj).1
      rcases hx with rfl | ⟨b, off, L, t, fz, hb, hF, hg, hL, hrr⟩
      · simp at hjl
      · simp at hb
        subst hb
        rw [Addr.add_lit, cell_of_row W b (off + j) L t fz hg, hrr j hjl, hj]
    have hr' : (Builtin.append_ #[ts, ts] ts #[.slice (some ⟨e0, 0, none⟩) 0 0, .slice (some ad) m cap]).run P W = .ok v' w' := hr
    by_cases hm0 : m = 0
    · subst hm0
      obtain rfl : X = [] := List.length_eq_zero_iff.1 (by omega)
      have h2 := run_append_room (P := P) W ts ts te i0 hu hi e0 0 0 #[] he ad 0 cap [] (by simp) hnews nofun (Nat.le_refl _) (by simp)
      rw [h2] at hr'
      simp at hr'
      rw [← hr'.2]
      refine ⟨rfl, rfl, rfl, by simp [World.setRow], fun b hb => ?_⟩
      by_cases hbe : b = e0
      · subst hbe
        rw [setRow_heap W b #[] _ te (0, 0) he]
        exact he.symm
      · exact setRow_other W e0 b _ hbe
    · have h2 := run_append_grow (P := P) W ts ts te i0 z hu hi hz ⟨e0, 0, none⟩ 0 0 [] (by simp) (fun j u hj => by simp at hj) ad m cap X (by rw [hX, hs]) hnews (by omega) (by unfold maxLen at hm; simp; omega) (growslice_fits (by omega) (by rw [hbz]; simpa using hb47))
      rw [h2] at hr'
      simp only [Result.ok.injEq] at hr'
      rw [← hr'.2]
      exact (Below.refl W.heap.size W).drew.alloc (Nat.le_refl _) _

def SmallM (m : RMap) : Prop := m.seen.length ≤ 1000000 ∧ m.items.length ≤ 1000000 ∧ m.gone.length ≤ 1000000
theorem small_empty : SmallM .empty := by unfold SmallM; decide
theorem small_valid {m : RMap} (h : validR m = true) : SmallM m := by
  have := (valid_formed h).len
  unfold validR at h
  simp at h
  refine ⟨by omega, by omega, by omega⟩
theorem full_small (m : RMap) : SmallM (fullR m).1 := by
  unfold fullR
  split
  · next h => exact small_valid h
  · exact small_empty
theorem useR_small (m : RMap) (d : Int) (l : List RKey) : SmallM (useR m d l).1 := by
  unfold useR
  split
  · split
    · exact full_small _
    · exact small_empty
  · exact small_empty
theorem one_strs (l : List RKey) : ∀ u ∈ l.map eS, u.oneCell' = true := by
  intro u hu
  obtain ⟨k, -, rfl⟩ := List.mem_map.1 hu
  rfl
end Go.Proofs.YtbjkkmabafaogaaGreatDoor
