/-
  Tree
-/
import Derived.Test.YtohahloghmanpaaGreatDoorZB10
namespace Go.Proofs.YtohahloghmanpaaGreatDoor
open Go

inductive Tree where
  | done
  | steady (i : Nat) (r : Tree)
  | move (i : Nat) (r : Tree)
  | both (i j : Nat) (r s : Tree)

section
variable {P : Program} {ops : Array Oper} {md : Region.Mode} {C : World → World → Prop}

def wpT (P : Program) (ops : Array Oper) (C : World → World → Prop) (Q : Act → World → Prop) : Tree → Act → World → Prop
  | .done, a, w => Q a w
  | .steady i r, a, w => match ops[i]? with
    | none => False
    | some o => if Region.wanted o (yielded ops a.tmps) then ∃ v, (∀ w', C w w' → (execOp a.eval o).run P w' = .ok (.value v) w') ∧ wpT P ops C Q r (a.put o.dst v) w else wpT P ops C Q r (a.put o.dst undef) w
  | .move i r, a, w => match ops[i]? with
    | none => False
    | some o => if Region.wanted o (yielded ops a.tmps) then opC P o a w (fun v w' => C w w' ∧ wpT P ops C Q r (a.put o.dst v) w') else wpT P ops C Q r (a.put o.dst undef) w
  | .both i j r s, a, w => (match ops[i]? with
    | none => False
    | some o => if Region.wanted o (yielded ops a.tmps) then opC P o a w (fun v w' => C w w' ∧ wpT P ops C Q r (a.put o.dst v) w') else wpT P ops C Q r (a.put o.dst undef) w) ∧
    (match ops[j]? with
    | none => False
    | some o => if Region.wanted o (yielded ops a.tmps) then opC P o a w (fun v w' => C w w' ∧ wpT P ops C Q s (a.put o.dst v) w') else wpT P ops C Q s (a.put o.dst undef) w)

def canTB (md : Region.Mode) (ops : Array Oper) : Tree → Nat → Array Bool → Bool
  | .done, 0, listed => (Region.ready md ops listed).isEmpty
  | .steady i r, n + 1, listed => (Region.ready md ops listed).contains i && Region.free md ops listed i && canTB md ops r n (listed.setIfInBounds i true)
  | .move i r, n + 1, listed => (Region.ready md ops listed == [i]) && canTB md ops r n (listed.setIfInBounds i true)
  | .both i j r s, n + 1, listed => (Region.ready md ops listed == [i, j]) && canTB md ops r n (listed.setIfInBounds i true) && canTB md ops s n (listed.setIfInBounds j true)
  | _, _, _ => false

theorem stC_of {Q : Act → World → Prop} {fuel : Nat} {listed : Array Bool} {i : Nat} {r : Tree} {a : Act} {w : World}
    (ih : ∀ (listed : Array Bool) (a : Act) (w : World), canTB md ops r fuel listed = true → wpT P ops C Q r a w → wpAnyC P md ops C Q fuel listed a w)
    (hB : canTB md ops r fuel (listed.setIfInBounds i true) = true)
    (h : match ops[i]? with
      | none => False
      | some o => if Region.wanted o (yielded ops a.tmps) then opC P o a w (fun v w' => C w w' ∧ wpT P ops C Q r (a.put o.dst v) w') else wpT P ops C Q r (a.put o.dst undef) w) :
    stC P ops C i (wpAnyC P md ops C Q fuel (listed.setIfInBounds i true)) a w := by
  unfold stC
  cases h0 : ops[i]? with
  | none => simp [h0] at h
  | some o =>
    simp only [h0] at h
    simp only
    split
    · rename_i hw
      simp only [hw, if_true] at h
      exact upC_mono (fun v w' hv => ⟨hv.1, ih _ _ _ hB hv.2⟩) h
    · rename_i hw
      simp only [hw] at h
      exact ih _ _ _ hB h

theorem wpAnyC_tree {Q : Act → World → Prop} (hrefl : ∀ w, C w w) (htrans : ∀ a b c, C a b → C b c → C a c) (hs : Region.noSelect ops = true) : ∀ (t : Tree) (n : Nat) (listed : Array Bool) (a : Act) (w : World),
    canTB md ops t n listed = true → wpT P ops C Q t a w → wpAnyC P md ops C Q n listed a w
  | .done, 0, _, _, _, hB, h => ⟨by simpa [canTB] using hB, h⟩
  | .done, _ + 1, _, _, _, hB, _ => by simp [canTB] at hB
  | .steady _ _, 0, _, _, _, hB, _ => by simp [canTB] at hB
  | .move _ _, 0, _, _, _, hB, _ => by simp [canTB] at hB
  | .both _ _ _ _, 0, _, _, _, hB, _ => by simp [canTB] at hB
  | .steady i r, n + 1, listed, a, w, hB, h => by
    simp only [canTB, Bool.and_eq_true] at hB
    obtain ⟨⟨hr, hf⟩, hB'⟩ := hB
    simp only [wpT] at h
    cases h0 : ops[i]? with
    | none => simp [h0] at h
    | some o =>
      simp only [h0] at h
      by_cases hw : Region.wanted o (yielded ops a.tmps) = true
      · simp only [hw, if_true] at h
        obtain ⟨v, hv, hK⟩ := h
        exact wpAnyC_first hrefl htrans h0 (Region.noSelect_spec hs) n listed a w (Region.free_spec h0 hf) (by simpa using hr) (.inl ⟨hw, hv⟩) (wpAnyC_tree hrefl htrans hs r n _ _ _ hB' hK)
      · simp only [hw] at h
        exact wpAnyC_first hrefl htrans h0 (Region.noSelect_spec hs) n listed a w (Region.free_spec h0 hf) (by simpa using hr) (.inr ⟨by simpa using hw, rfl⟩) (wpAnyC_tree hrefl htrans hs r n _ _ _ hB' h)
  | .move i r, n + 1, listed, a, w, hB, h => by
    simp only [canTB, Bool.and_eq_true] at hB
    obtain ⟨hr, hB'⟩ := hB
    have hr' : Region.ready md ops listed = [i] := by simpa using hr
    simp only [wpT] at h
    refine ⟨fun h0 => (by rw [hr'] at h0; cases h0), fun j hj => ?_⟩
    rw [hr'] at hj
    obtain rfl : j = i := by simpa using hj
    exact stC_of (wpAnyC_tree hrefl htrans hs r n) hB' h
  | .both i j r s, n + 1, listed, a, w, hB, h => by
    simp only [canTB, Bool.and_eq_true] at hB
    obtain ⟨⟨hr, hB1⟩, hB2⟩ := hB
    have hr' : Region.ready md ops listed = [i, j] := by simpa using hr
    simp only [wpT] at h
    refine ⟨fun h0 => (by rw [hr'] at h0; cases h0), fun k hk => ?_⟩
    rw [hr'] at hk
    simp only [List.mem_cons, List.not_mem_nil, or_false] at hk
    rcases hk with rfl | rfl
    · exact stC_of (wpAnyC_tree hrefl htrans hs r n) hB1 h.1
    · exact stC_of (wpAnyC_tree hrefl htrans hs s n) hB2 h.2

theorem wp_region_tree {id : Nat} {Q : Exit → Act → World → Prop} {a : Act} {w : World} {l : List Oper} (C : World → World → Prop) (t : Tree) (n : Nat) (hm : P.follows .mixedOrders = true) (hB : (Region.noSelect l.toArray && canTB .any l.toArray t n (Array.replicate n false) && (n == l.length)) = true)
    (hrefl : ∀ w, C w w) (htrans : ∀ a b c, C a b → C b c → C a c)
    (Z : Act → World → Prop) (hZ : ∀ a' w', Z a' w' → Q .normal a' w')
    (h : wpT P l.toArray C Z t a w.drew) : (Code.region id l.toArray true).wp P Q a w := by
  simp only [Bool.and_eq_true] at hB
  obtain ⟨⟨h1, h2⟩, h3⟩ := hB
  have h3' : n = l.length := by simpa using h3
  refine wp_region_any hm (wpAny_of_C (C := C) (Q := Z) hZ _ _ _ _ ?_)
  have := wpAnyC_tree (md := .any) hrefl htrans h1 t n _ a w.drew h2 h
  subst h3'
  simpa using this

theorem canT_nil {Q : Act → World → Prop} {a : Act} {w : World} (h : Q a w) : wpT P ops C Q .done a w := h
theorem canT_yes {Q : Act → World → Prop} {i : Nat} {o : Oper} {r : Tree} {a : Act} {w : World} (ho : ops[i]? = some o) (hw : Region.wanted o (yielded ops a.tmps) = true) {v : Value}
    (hv : ∀ w', C w w' → (execOp a.eval o).run P w' = .ok (.value v) w')
    (h : ∀ K : Act → Prop, (∀ a', wpT P ops C Q r a' w → K a') → K (a.put o.dst v)) : wpT P ops C Q (.steady i r) a w := by
  simp only [wpT, ho, hw, if_true]
  exact ⟨v, hv, h _ (fun _ h => h)⟩
theorem canT_go {Q : Act → World → Prop} {i : Nat} {o : Oper} {r : Tree} {a : Act} {w : World} (ho : ops[i]? = some o) (hw : Region.wanted o (yielded ops a.tmps) = true)
    (h : ∀ K : Act → World → Prop, (∀ a' w', wpT P ops C Q r a' w' → K a' w') → opC P o a w (fun v w' => C w w' ∧ K (a.put o.dst v) w')) : wpT P ops C Q (.move i r) a w := by
  simp only [wpT, ho, hw, if_true]
  exact h _ (fun _ _ h => h)
theorem canT_both {Q : Act → World → Prop} {i j : Nat} {oi oj : Oper} {r s : Tree} {a : Act} {w : World} (hi : ops[i]? = some oi) (hwi : Region.wanted oi (yielded ops a.tmps) = true) (hj : ops[j]? = some oj) (hwj : Region.wanted oj (yielded ops a.tmps) = true)
    (h1 : ∀ K : Act → World → Prop, (∀ a' w', wpT P ops C Q r a' w' → K a' w') → opC P oi a w (fun v w' => C w w' ∧ K (a.put oi.dst v) w'))
    (h2 : ∀ K : Act → World → Prop, (∀ a' w', wpT P ops C Q s a' w' → K a' w') → opC P oj a w (fun v w' => C w w' ∧ K (a.put oj.dst v) w')) : wpT P ops C Q (.both i j r s) a w := by
  simp only [wpT, hi, hwi, hj, hwj, if_true]
  exact ⟨h1 _ (fun _ _ h => h), h2 _ (fun _ _ h => h)⟩
end
attribute [irreducible] wpT
end Go.Proofs.YtohahloghmanpaaGreatDoor
