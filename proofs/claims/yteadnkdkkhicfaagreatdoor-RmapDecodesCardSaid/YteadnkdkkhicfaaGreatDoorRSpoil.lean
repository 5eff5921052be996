/- The law's spoil and short. -/
import Derived.Test.YteadnkdkkhicfaaGreatDoorRUse
namespace Go.Proofs.YteadnkdkkhicfaaGreatDoor
open Go.RowKit
set_option linter.unusedVariables false
set_option maxRecDepth 20000

/-- a row whose cells may be written -/
def WRow (B A : Nat) (w : World) (v : Value) (n k : Nat) : Prop := n = 0 ∨ ∃ g cap L t, v = .slice (some ⟨g, 0, none⟩) n cap ∧ B ≤ g ∧ g < A ∧ Blk w g L t ∧ n * k ≤ L.length
theorem WRow.of_own {w : World} {B A : Nat} {e : TypeId} {v : Value} {n k : Nat} {xs : List Value} (h : w.ownsRow B e k v n xs) (hA : w.heap.size ≤ A) : WRow B A w v n k := by
  rcases h.2 with ⟨_, h0⟩ | ⟨g, cap, cur, hv, hb, hg, hc, _, hs, _⟩
  · exact .inl h0
  · exact .inr ⟨g, cap, cur.toList, e, hv, hb, Nat.lt_of_lt_of_le (lt_of_block hg) hA, hg, by simp [hs]; exact Nat.mul_le_mul_right _ hc⟩
theorem WRow.set {w : World} {B A : Nat} {v : Value} {n k : Nat} (h : WRow B A w v n k) (g j : Nat) (u : Value) : WRow B A (w.setCell ⟨g, j, none⟩ u) v n k := by
  rcases h with h | ⟨g', cap, L, t, hv, hb, hA, hk, hl⟩
  · exact .inl h
  · by_cases he : g' = g
    · subst he
      exact .inr ⟨g', cap, _, t, hv, hb, hA, hk.set j u, by simpa using hl⟩
    · exact .inr ⟨g', cap, L, t, hv, hb, hA, hk.set_other u he, hl⟩
theorem WRow.keep {w w' : World} {B A : Nat} {v : Value} {n k : Nat} (h : WRow B A w v n k) (hk : ∀ g, g < A → w'.heap[g]? = w.heap[g]?) : WRow B A w' v n k := by
  rcases h with h | ⟨g', cap, L, t, hv, hb, hA, h1, hl⟩
  · exact .inl h
  · exact .inr ⟨g', cap, L, t, hv, hb, hA, h1.keep (hk g' hA), hl⟩
structure SpSt (B A : Nat) (w wr : World) (s1 s2 s3 : Value) (n1 n2 n3 : Nat) : Prop where
  box : Blk wr A [s1, s2, s3] 27
  r1 : WRow B A wr s1 n1 1
  r2 : WRow B A wr s2 n2 4
  r3 : WRow B A wr s3 n3 3
  bel : Below B w wr
theorem SpSt.set {B A : Nat} {w wr : World} {s1 s2 s3 : Value} {n1 n2 n3 : Nat} (h : SpSt B A w wr s1 s2 s3 n1 n2 n3) {g : Nat} (hB : B ≤ g) (hA : g < A) (j : Nat) (u : Value) : SpSt B A w (wr.setCell ⟨g, j, none⟩ u) s1 s2 s3 n1 n2 n3 :=
  ⟨h.box.set_other u (by show A ≠ g; omega), h.r1.set g j u, h.r2.set g j u, h.r3.set g j u, h.bel.setCell hB u⟩

def ShortPost (w : World) (l : List RKey) (e : Ending) (w' : World) : Prop := ∃ r, e = .returned (.bool r) ∧ (r = true → l.length ≤ 20 ∧ ∀ k ∈ l, k.length ≤ 500) ∧ w = w'
/-- append onto a new, empty row: what was there is there -/
theorem app_new {P : Program} (W : World) (base : Nat) (ts te : TypeId) {i0 : TypeInfo} {z : Value} {k bz : Nat} (hu : P.underlying ts = some (.slice te)) (hi : P.info? te = some i0) (hz : i0.zero = some z) (hs : i0.size = k) (hbz : i0.bytes = bz) (hzk : z.cells.size = k) (hk : 0 < k)
    (e0 : Nat) (he : Blk W e0 [] te) (hb : base ≤ e0) (F : Blks) (x : Value) (m : Nat) (X : List Value) (hx : Rows F W k x m X) (h1 : ∀ u ∈ X, u.oneCell' = true)
    (hlen : m ≤ maxLen) (hb47 : m * bz ≤ 140737488355328) (hbase : base ≤ W.heap.size) :
    ∃ v' w', (AP #[ts, ts] ts #[.slice (some ⟨e0, 0, none⟩) 0 0, x]).run P W = .ok v' w' ∧ w'.ownsRow base te k v' m X ∧ Below W.heap.size W w' := by
  have hown : W.ownsRow base te k (.slice (some ⟨e0, 0, none⟩) 0 0) 0 [] := ⟨by simp, .inr ⟨e0, 0, #[], rfl, hb, he, Nat.le_refl _, by unfold maxLen; omega, by simp, by simp⟩⟩
  obtain ⟨v', w', hr, ho, -⟩ := run_append_rows (P := P) W base ts te hu hi hz hs hbz hzk hk _ 0 [] hown F x m X hx h1 (by omega) (by simpa using hb47) hbase
  rw [Nat.zero_add, List.nil_append] at ho
  refine ⟨v', w', hr, ho, ?_⟩
  obtain ⟨a, cap, rfl, hc, hm, hzz, hX, hx⟩ := hx
  cases a with
  | none =>
    have h2 := run_append_owned_none (P := P) W base ts ts te i0 k hu hi _ _ _ hown
    obtain rfl := hzz rfl
    obtain rfl : m = 0 := by omega
    have hr' : (Builtin.append_ #[ts, ts] ts #[.slice (some ⟨e0, 0, none⟩) 0 0, .slice none 0 0]).run P W = .ok v' w' := hr
    rw [h2] at hr'
    simp at hr'
    rw [← hr'.2]
    exact Below.refl _ _
  | some ad =>
    have hnews : ∀ j u, X[j]? = some u → W.cell? (ad.add j) = some u := fun j u hj => by
      have hjl : j < m * k := by rw [← hX]; exact (List.getElem?_eq_some_iff.1 hj).1
      rcases hx with rfl | ⟨b, off, L, t, fz, hb, hF, hg, hL, hrr⟩
      · simp at hjl
      · simp at hb
        subst hb
        rw [Addr.add_lit, cell_of_row W b (off + j) L t fz hg, hrr j hjl, hj]
    have hr' : (Builtin.append_ #[ts, ts] ts #[.slice (some ⟨e0, 0, none⟩) 0 0, .slice (some ad) m cap]).run P W = .ok v' w' := hr
    by_cases hm0 : m = 0
    · subst hm0
      obtain rfl : X = [] := List.length_eq_zero_iff.1 (by omega)
      have h2 := run_append_room (P := P) W ts ts te i0 hu hi e0 0 0 #[] he ad 0 cap [] (by simp) hnews nofun (Nat.le_refl _) (by simp)
      rw [h2] at hr'
      simp at hr'
      rw [← hr'.2]
      refine ⟨rfl, rfl, rfl, by simp [World.setRow], fun b hb => ?_⟩
      by_cases hbe : b = e0
      · subst hbe
        rw [setRow_heap W b #[] _ te (0, 0) he]
        exact he.symm
      · exact setRow_other W e0 b _ hbe
    · have h2 := run_append_grow (P := P) W ts ts te i0 z hu hi hz ⟨e0, 0, none⟩ 0 0 [] (by simp) (fun j u hj => by simp at hj) ad m cap X (by rw [hX, hs]) hnews (by omega) (by unfold maxLen at hm; simp; omega) (growslice_fits (by omega) (by rw [hbz]; simpa using hb47))
      rw [h2] at hr'
      simp only [Result.ok.injEq] at hr'
      rw [← hr'.2]
      exact (Below.refl W.heap.size W).drew.alloc (Nat.le_refl _) _

def SmallM (m : RMap) : Prop := m.seen.length ≤ 1000000 ∧ m.items.length ≤ 1000000 ∧ m.gone.length ≤ 1000000
theorem small_empty : SmallM .empty := by unfold SmallM; decide
theorem small_valid {m : RMap} (h : validR m = true) : SmallM m := by
  have := (valid_formed h).len
  unfold validR at h
  simp at h
  refine ⟨by omega, by omega, by omega⟩
theorem full_small (m : RMap) : SmallM (fullR m).1 := by
  unfold fullR
  split
  · next h => exact small_valid h
  · exact small_empty
theorem useR_small (m : RMap) (d : Int) (l : List RKey) : SmallM (useR m d l).1 := by
  unfold useR
  split
  · split
    · exact full_small _
    · exact small_empty
  · exact small_empty
theorem one_strs (l : List RKey) : ∀ u ∈ l.map eS, u.oneCell' = true := by
  intro u hu
  obtain ⟨k, -, rfl⟩ := List.mem_map.1 hu
  rfl
end Go.Proofs.YteadnkdkkhicfaaGreatDoor
