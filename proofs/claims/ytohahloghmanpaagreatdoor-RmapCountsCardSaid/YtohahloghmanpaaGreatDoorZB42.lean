/-
  RSpoil
-/
import Derived.Test.YtohahloghmanpaaGreatDoorZB29
namespace Go.Proofs.YtohahloghmanpaaGreatDoor
open Go.RowKit
set_option linter.unusedVariables false
set_option maxRecDepth 20000

def WRow (B A : Nat) (w : World) (v : Value) (n k : Nat) : Prop := n = 0 ∨ ∃ g cap L t, v = .slice (some ⟨g, 0, none⟩) n cap ∧ B ≤ g ∧ g < A ∧ Blk w g L t ∧ n * k ≤ L.length
theorem WRow.set {w : World} {B A : Nat} {v : Value} {n k : Nat} (h : WRow B A w v n k) (g j : Nat) (u : Value) : WRow B A (w.setCell ⟨g, j, none⟩ u) v n k := by
  rcases h with h | ⟨g', cap, L, t, hv, hb, hA, hk, hl⟩
  · exact .inl h
  · by_cases he : g' = g
    · subst he
      exact .inr ⟨g', cap, _, t, hv, hb, hA, hk.set j u, by simpa using hl⟩
    · exact .inr ⟨g', cap, L, t, hv, hb, hA, hk.set_other u he, hl⟩
theorem WRow.keep {w w' : World} {B A : Nat} {v : Value} {n k : Nat} (h : WRow B A w v n k) (hk : ∀ g, g < A → w'.heap[g]? = w.heap[g]?) : WRow B A w' v n k := by
  rcases h with h | ⟨g', cap, L, t, hv, hb, hA, h1, hl⟩
  · exact .inl h
  · exact .inr ⟨g', cap, L, t, hv, hb, hA, h1.keep (hk g' hA), hl⟩
structure SpSt (B A : Nat) (w wr : World) (s1 s2 s3 : Value) (n1 n2 n3 : Nat) : Prop where
  box : Blk wr A [s1, s2, s3] 31
  r1 : WRow B A wr s1 n1 1
  r2 : WRow B A wr s2 n2 4
  r3 : WRow B A wr s3 n3 3
  bel : Below B w wr
theorem SpSt.set {B A : Nat} {w wr : World} {s1 s2 s3 : Value} {n1 n2 n3 : Nat} (h : SpSt B A w wr s1 s2 s3 n1 n2 n3) {g : Nat} (hB : B ≤ g) (hA : g < A) (j : Nat) (u : Value) : SpSt B A w (wr.setCell ⟨g, j, none⟩ u) s1 s2 s3 n1 n2 n3 :=
  ⟨h.box.set_other u (by show A ≠ g; omega), h.r1.set g j u, h.r2.set g j u, h.r3.set g j u, h.bel.setCell hB u⟩

end Go.Proofs.YtohahloghmanpaaGreatDoor
