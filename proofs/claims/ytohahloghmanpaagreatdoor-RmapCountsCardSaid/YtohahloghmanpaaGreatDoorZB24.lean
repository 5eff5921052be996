/-
  Range
-/
import Derived.RangeFuncFrom
import Derived.Test.YtohahloghmanpaaGreatDoorZB05
import Derived.Test.YtohahloghmanpaaGreatDoorZB11
import Derived.OrdersIn
import Derived.RangeFuncCalls
namespace Go.Proofs.YtohahloghmanpaaGreatDoor
open Go Go.RowKit
set_option linter.unusedVariables false
set_option maxRecDepth 20000
variable {P : Program}

def SeqG {α : Type} (P : Program) (gf : Nat) (lb : Array Value) (encs : α → Array Value) (Kp : World → World → Prop) (G : List α → α → World → Prop) (S Sp : List α → Prop) (w : World) : Prop :=
  ∀ (l : Nat) (J Jx : List α → World → Prop) (W : World), Below w.heap.size w W → AbidesFrom W.heap.size J → AbidesFrom W.heap.size Jx →
    (∀ pre x W1, J pre W1 → G pre x W1 → YieldAt Fence.wide 0 P l (encs x) W1 fun e W' =>
      (e = .returned (.bool true) ∧ J (pre ++ [x]) W' ∧ Kp W1 W') ∨ (e = .returned (.bool false) ∧ Jx (pre ++ [x]) W')) →
    J [] W →
    CallsIn Fence.wide 1 P gf (#[.func (.yield l) #[] #[]] ++ lb) W fun e W' => (∃ v, e = .returned v) ∧ ((∃ xs, S xs ∧ J xs W') ∨ (∃ pre, Sp pre ∧ Jx pre W'))

def roundLeft {α : Type} (Kp : World → World → Prop) (I E : List α → World → Prop) (xs : List α) (W : World) : Exit → Act → World → Prop
  | .normal, _, W' => KeepsOthers W W' ∧ Kp W W' ∧ I xs W'
  | .ret, _, W' => KeepsOthers W W' ∧ E xs W'
  | _, _, _ => False

def Booked (B : Nat) (r : Loop) (W : World) : Prop := W.heap[B + 1]? = some (.loop r) ∧ W.heap[B]? = some (.deferred (some []))

theorem Booked.grown {B : Nat} {r : Loop} {W W' : World} {row : Option Nat} (h : Booked B r W) (hg : W.grownBy W' row) (hr : ∀ q, row = some q → ∃ o : Obj, W.heap[q]? = some o ∧ o.isWalk = true) : Booked B r W' :=
  ⟨(grownBy_keeps hg hr h.1 rfl).trans h.1, (grownBy_keeps hg hr h.2 rfl).trans h.2⟩
theorem Booked.others {B : Nat} {r : Loop} {W W' : World} (h : Booked B r W) (hk : KeepsOthers W W') : Booked B r W' := ⟨hk.same _ _ h.1 rfl, hk.same _ _ h.2 rfl⟩
theorem Booked.put {B : Nat} {r : Loop} {W : World} (h : Booked B r W) (r' : Loop) : Booked B r' (W.putObj (B + 1) (.loop r')) :=
  ⟨World.putObj_heap_same (Array.getElem?_eq_some_iff.1 h.1).1, (World.putObj_heap_other (by omega)).trans h.2⟩

theorem range_known {α : Type} {g : Operand} {ps : Array Tmp} {assign body : Code} {Q : Exit → Act → World → Prop} {a : Act} {w : World} {n : Nat}
    {gf : Nat} {lb : Array Value} (hg : a.eval g = .func (.func gf) #[] lb) (eg : ∀ args w, (callFunc gf args).run P w = .ok (.enter gf args) w)
    {encs : α → Array Value} {Kp : World → World → Prop} {G : List α → α → World → Prop} {S Sp : List α → Prop} (hseq : SeqG P gf lb encs Kp G S Sp w) (hps : ∀ x, (encs x).size = ps.size)
    (hGb : ∀ pre x (W : World) (l : Nat) (o o' : Obj), w.heap.size ≤ l → W.heap[l]? = some o → o.isCells = false → G pre x W → G pre x (W.putObj l o'))
    (hKt : ∀ {A B C : World}, Kp A B → Kp B C → Kp A C) (hKb : ∀ (W : World) (l : Nat) (o o' : Obj), w.heap.size ≤ l → W.heap[l]? = some o → o.isCells = false → Kp W (W.putObj l o'))
    (I E : List α → World → Prop) (hI : OwnFrom w.heap.size I) (hE : OwnFrom w.heap.size E) (h0 : I [] w) (a₁ : α → Act)
    (hassign : ∀ (l : Nat) (x : α) (W : World) (K : Act → World → Prop), K (a₁ x) W →
      assign.wpIn (Fence.wide.inRound l) 0 P (Exit.then K (fun _ _ _ => False)) { tmps := (ps.zip (encs x)).foldl (fun t (p, v) => t.setIfInBounds p v) a.tmps, defers := [] } W)
    (hbody : ∀ (l : Nat) (pre : List α) (x : α) (W : World), I pre W → G pre x W → body.wpIn (Fence.wide.inRound l) 0 P (roundLeft Kp I E (pre ++ [x]) W) (a₁ x) W)
    (hdone : ∀ (D : Nat) (xs : List α) (W : World), w.heap.size ≤ D → S xs → I xs W → W.heap[D]? = some (.deferred (some [])) → Q .normal { a with defers := { target := .collected D, args := #[] } :: a.defers } W)
    (hstop : ∀ (D : Nat) (pre : List α) (W : World), w.heap.size ≤ D → Sp pre → E pre W → W.heap[D]? = some (.deferred (some [])) → Code.ret.wpIn Fence.wide (n + 2) P Q { a with defers := { target := .collected D, args := #[] } :: a.defers } W) :
    (Code.rangeFunc g ps assign body).wpIn Fence.wide (n + 2) P Q a w := by
  refine wpIn_rangeFunc fun fn hfn => ?_
  let R : LoopState → Option Code → Loop := fun st pe => { state := st, pending := pe, fn, tmps := a.tmps, params := ps, assign, body, defers := w.heap.size }
  have hbook : Booked w.heap.size (R .ready none) ((w.alloc (.deferred (some []))).alloc (.loop (R .ready none))) := by
    have h1 := World.alloc_heap_new (w.alloc (.deferred (some []))) (.loop (R .ready none))
    rw [World.size_alloc] at h1
    exact ⟨h1, (Below.heap_alloc _ _ _ (by simp)).trans (World.alloc_heap_new w _)⟩
  have hI0 : I [] ((w.alloc (.deferred (some []))).alloc (.loop (R .ready none))) := hI.alloc _ (hI.alloc _ h0)
  have hbelow : Below w.heap.size w ((w.alloc (.deferred (some []))).alloc (.loop (R .ready none))) := ((Below.refl _ w).alloc (Nat.le_refl _) _).alloc (by simp) _
  have hsize : ((w.alloc (.deferred (some []))).alloc (.loop (R .ready none))).heap.size = w.heap.size + 2 := by simp
  have henter := run_enterLoop_outer (P := P) (w := w) fn a.tmps ps assign body
  change _ = Result.ok _ ((w.alloc (.deferred (some []))).alloc (.loop (R .ready none))) at henter
  generalize (w.alloc (.deferred (some []))).alloc (.loop (R .ready none)) = W1 at *
  refine ⟨w.heap.size + 1, [{ target := .collected w.heap.size, args := #[] }], W1, { target := .fn (.func gf) lb, args := #[.func (.yield (w.heap.size + 1)) #[] #[]] }, W1, gf, #[.func (.yield (w.heap.size + 1)) #[] #[]] ++ lb, W1,
    henter, ?_, fun _ _ => trivial, ?_, fun h => (by cases h), ?_⟩
  · simp only [resolve, hg]
    simp [go_sem]
  · simp [invoke, go_sem, eg]
  have turned : ∀ {A : World} {row : Option Nat}, (∀ q, row = some q → W1.heap.size ≤ q ∧ ∃ o : Obj, A.heap[q]? = some o ∧ o.isWalk = true) → ∀ q, row = some q → w.heap.size ≤ q ∧ ∃ o : Obj, A.heap[q]? = some o ∧ o.isCells = false :=
    fun hr q e => ⟨by have := (hr q e).1; omega, by obtain ⟨o, ho, hw⟩ := (hr q e).2; exact ⟨o, ho, Obj.not_cells_of_walk hw⟩⟩
  have hcall := hseq (w.heap.size + 1) (fun pre W => I pre W ∧ Booked w.heap.size (R .ready none) W) (fun pre W => E pre W ∧ Booked w.heap.size (R .done (some .ret)) W) W1 hbelow
    (fun s A A' row hs hgr hr => ⟨hI s A A' row hs.1 hgr (turned hr), hs.2.grown hgr (fun q e => (hr q e).2)⟩)
    (fun s A A' row hs hgr hr => ⟨hE s A A' row hs.1 hgr (turned hr), hs.2.grown hgr (fun q e => (hr q e).2)⟩)
    (fun pre x W hIW hGW => by
      obtain ⟨hiw, hbk⟩ := hIW
      have hy := run_yield (P := P) (args := encs x) hbk.1 (hps x)
      refine ⟨fn, _, assign, body, hy, roundIn_of_wpIn hfn (hassign _ x W _ ⟨_, run_beginRound hbk.1 rfl, ?_⟩)⟩
      have hbusy := hbk.put { R .ready none with state := .busy }
      have hw := hbody (w.heap.size + 1) pre x (W.putObj (w.heap.size + 1) (.loop { R .ready none with state := .busy })) (hI.putObj _ hiw (by omega) hbk.1 rfl) (hGb _ _ _ _ _ _ (by omega) hbk.1 rfl hGW)
      have hkp := hKb W _ _ (.loop { R .ready none with state := .busy }) (by omega) hbk.1 rfl
      refine wpIn_mono hw ?_
      intro ex a3 W3 hp
      cases ex with
      | normal =>
        obtain ⟨k1, k2, k3⟩ := hp
        have hb3 := hbusy.others k1
        exact ⟨_, _, run_endRound (P := P) none hb3.1, .inl ⟨rfl, ⟨hI.putObj _ k3 (by omega) hb3.1 rfl, hb3.put _⟩, hKt (hKt hkp k2) (hKb _ _ _ _ (by omega) hb3.1 rfl)⟩⟩
      | ret =>
        obtain ⟨k1, k2⟩ := hp
        have hb3 := hbusy.others k1
        exact ⟨_, _, run_endRound (P := P) (some .ret) hb3.1, .inr ⟨rfl, hE.putObj _ k2 (by omega) hb3.1 rfl, hb3.put _⟩⟩
      | exit id => exact hp.elim
      | goto t => exact hp.elim
      | panic c => exact hp.elim
      | outgrown => exact hp.elim) ⟨hI0, hbook⟩
  refine (callsIn_wide (n := n + 2 - 1)).2 ((callsIn_wide (n := 1)).1 (hcall.mono ?_))
  rintro e W2 ⟨⟨v, rfl⟩, (⟨xs, hS, hi, hb⟩ | ⟨pre, hSp, he, hb⟩)⟩
  · exact ⟨none, _, run_endLoop (P := P) hb.1 (by simp [R]), hdone _ xs _ (Nat.le_refl _) hS (hI.putObj _ hi (by omega) hb.1 rfl) (hb.put _).2⟩
  · exact ⟨some .ret, _, run_endLoop (P := P) hb.1 (by simp [R]), hstop _ pre _ (Nat.le_refl _) hSp (hE.putObj _ he (by omega) hb.1 rfl) (hb.put _).2⟩
end Go.Proofs.YtohahloghmanpaaGreatDoor
/- The walks of regions that draw their order, in a round of a range over a function. Over any program. -/
namespace Go.Proofs.YtohahloghmanpaaGreatDoor
open Go
section
variable {P : Program} {ops : Array Oper} {md : Region.Mode} {C : World → World → Prop} {lx lp n : Nat}

end
end Go.Proofs.YtohahloghmanpaaGreatDoor
