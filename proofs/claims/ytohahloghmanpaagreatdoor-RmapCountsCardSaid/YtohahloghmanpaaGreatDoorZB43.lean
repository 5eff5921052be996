/-
  Read
-/
import Derived.Test.YtohahloghmanpaaGreatDoorZB05
import Derived.OpenShut
import Derived.Deep.Slices
import Derived.ChangeSame
namespace Go.Proofs.YtohahloghmanpaaGreatDoor
open Go.RowKit Go.ChangeShapes Go.WideShapes Go.Deep
set_option linter.unusedVariables false
set_option maxRecDepth 20000

theorem cell_block {w : World} {a : Addr} {v : Value} (h : w.cell? a = some v) : a.spot = none ∧ ∃ L t fz, w.heap[a.block]? = some (.cells L t fz) ∧ L[a.off]? = some v := by
  unfold World.cell? at h
  split at h
  · rename_i c e f hb
    by_cases hs : a.spot.isSome = true
    · simp [hs] at h
    · refine ⟨by simpa using hs, c, e, f, hb, ?_⟩
      simpa [hs] using h
  · cases h

def RowOf (k : Nat) (E : List Value → Prop) (w : World) (v : Value) (n : Nat) : Prop :=
  ∃ a cap, v = .slice a n cap ∧ n ≤ cap ∧ cap ≤ maxLen ∧ (a = none → cap = 0) ∧
    (n = 0 ∨ ∃ b off L t fz, a = some ⟨b, off, none⟩ ∧ b < w.heap.size ∧ w.heap[b]? = some (.cells L t fz) ∧ off + n * k ≤ L.size ∧ ∀ i, i < n → E ((L.toList.drop (off + i * k)).take k))

section
variable {H : Type} {enc : TypeId × Value → H} {P : Program} {w : World} {base : Nat} {held : Bool}

theorem read_row {t e : TypeId} {fuel k : Nat} {v : Value} {x : DataW H × List MemPlace} (hk : 0 < k) (ht : P.underlying t = some (.slice e)) (hC : P.cellsOf e = k) (E : List Value → Prop)
    (hE : ∀ (m : Nat) (cs : List Value) (y : DataW H × List MemPlace), DataW.trod enc P w base (fun _ => true) held m e cs = some y → E cs)
    (h : DataW.trod enc P w base (fun _ => true) held fuel t [v] = some x) : ∃ n, RowOf k E w v n := by
  rcases open_slice ht h with ⟨h0, _⟩ | ⟨a, len, cap, m, n, D, Pl, hcs, hb, hl, hm, hmm, hx, hi⟩
  · simp at h0
    subst h0
    exact ⟨0, none, 0, rfl, Nat.le_refl _, by unfold maxLen; omega, fun _ => rfl, .inl rfl⟩
  · simp at hcs
    subst hcs
    simp only [if_true] at hmm
    subst hmm
    refine ⟨len, some a, m, rfl, hl, hm, nofun, ?_⟩
    by_cases h0 : len = 0
    · exact .inl h0
    · right
      rw [hC] at hi
      obtain ⟨cs0, hc0, _⟩ := hi 0 (by omega)
      obtain ⟨_, hl0, ha0⟩ := World.cells?_some hc0
      have h00 := ha0 0 hk
      rw [List.getElem?_eq_getElem (by omega)] at h00
      simp only [Nat.zero_mul] at h00
      have hadd : (a.add 0).add 0 = a := by simp [Addr.add]
      rw [hadd] at h00
      obtain ⟨hs, L, t', fz, hbk, _⟩ := cell_block h00
      have haa : a = ⟨a.block, a.off, none⟩ := by cases a; simp_all
      have hcell : ∀ i j, i < len → j < k → ∀ cs', w.cells? base (a.add (i * k)) k = some cs' → L[a.off + i * k + j]? = cs'[j]? := by
        intro i j hi' hj cs' hcs'
        obtain ⟨_, hlc, hac⟩ := World.cells?_some hcs'
        have hh := hac j hj
        rw [add_add, haa, Addr.add_lit, cell_of_row w a.block _ L t' fz hbk] at hh
        rw [Nat.add_assoc]
        exact hh
      refine ⟨a.block, a.off, L, t', fz, by rw [← haa], lt_of_block hbk, hbk, ?_, fun i hil => ?_⟩
      · obtain ⟨cs1, hc1, _⟩ := hi (len - 1) (by omega)
        obtain ⟨_, hl1, _⟩ := World.cells?_some hc1
        have := hcell (len - 1) (k - 1) (by omega) (by omega) cs1 hc1
        rw [List.getElem?_eq_getElem (by omega)] at this
        have := (Array.getElem?_eq_some_iff.1 this).1
        have e1 : len * k = (len - 1) * k + k := by
          obtain ⟨q, rfl⟩ : ∃ q, len = q + 1 := ⟨len - 1, by omega⟩
          simp [Nat.add_mul]
        omega
      · obtain ⟨cs1, hc1, ht1⟩ := hi i (by omega)
        obtain ⟨_, hl1, _⟩ := World.cells?_some hc1
        have e : (L.toList.drop (a.off + i * k)).take k = cs1 := by
          apply List.ext_getElem?
          intro j
          rw [List.getElem?_take]
          by_cases hj : j < k
          · rw [if_pos hj, List.getElem?_drop, ← hcell i j hil hj cs1 hc1]
            simp
          · rw [if_neg hj, List.getElem?_eq_none (by omega)]
        rw [e]
        exact hE _ _ _ ht1

end

theorem RowOf.keep {k : Nat} {E : List Value → Prop} {w w' : World} {v : Value} {n : Nat} (h : RowOf k E w v n) (hb : Below w.heap.size w w') : RowOf k E w' v n := by
  obtain ⟨a, cap, rfl, h1, h2, h3, h4⟩ := h
  refine ⟨a, cap, rfl, h1, h2, h3, ?_⟩
  rcases h4 with h4 | ⟨b, off, L, t, fz, rfl, hlt, hg, hle, hE⟩
  · exact .inl h4
  · exact .inr ⟨b, off, L, t, fz, rfl, Nat.lt_of_lt_of_le hlt hb.size, (hb.block b hlt).trans hg, hle, hE⟩
end Go.Proofs.YtohahloghmanpaaGreatDoor
