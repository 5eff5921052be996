/-
  SStep RegionP
-/
import Derived.Test.YtelphnigdancpaaGreatDoorZA38
import Derived.Test.YtelphnigdancpaaGreatDoorZA03
import Derived.Test.YtelphnigdancpaaGreatDoorZA33
import Derived.Test.YtelphnigdancpaaGreatDoorZA07
namespace Go.Proofs.YtelphnigdancpaaGreatDoor
set_option linter.unusedVariables false
set_option maxRecDepth 20000

def oneOf (A : SAct) : Nat := (A.one.tmod 3).toNat
def twoOf (A : SAct) : Nat := (A.two.tmod 3).toNat
def stepS (s : SW) (A : SAct) : SW :=
  if A.kind.tmod 6 = 0 ∨ A.kind.tmod 6 = 1 then ⟨putM s.m (oneOf A) (useM (s.m (oneOf A)) (oneOf A) (named4 A.keys)), s.heard, s.lets⟩
  else if A.kind.tmod 6 = 2 then ⟨putM s.m (oneOf A) (forgetM (s.m (oneOf A)) (oneOf A) (named4 A.keys)), s.heard, s.lets⟩
  else if A.kind.tmod 6 = 3 then writeS s (oneOf A) (twoOf A)
  else match s.lets[A.which.toNat % s.lets.length]? with
    | some l => arriveS s l
    | none => s
theorem oneOf_lt {A : SAct} (h : ActOk A) : oneOf A < 3 ∧ A.one.tmod 3 = (oneOf A : Int) := by
  obtain ⟨-, ⟨h1, h2⟩, -⟩ := h
  unfold oneOf
  have : A.one.tmod 3 = A.one % 3 := Int.tmod_eq_emod_of_nonneg h1
  rw [this]
  omega
theorem twoOf_lt {A : SAct} (h : ActOk A) : twoOf A < 3 ∧ A.two.tmod 3 = (twoOf A : Int) := by
  obtain ⟨-, -, ⟨h1, h2⟩, -⟩ := h
  unfold twoOf
  have : A.two.tmod 3 = A.two % 3 := Int.tmod_eq_emod_of_nonneg h1
  rw [this]
  omega
theorem SInv.mono {K : List RKey} {N N' : Int} {E : List SLet} {s : SW} (h : SInv K N E s) (hN : N ≤ N') : SInv K N' E s :=
  ⟨⟨fun i hi => (h.three.good i hi).mono hN, h.three.own⟩, fun l hl => by
    have k := h.lets l hl
    exact ⟨k.dst, k.frm, k.good.mono hN, k.own, k.knows, k.old, k.src⟩, h.heard, h.cov⟩
theorem step_inv {N : Int} {E : List SLet} {s : SW} {A : SAct} (h : SInv K4 N E s) (hA : ActOk A) (hN : N < 1099511627776) : SInv K4 (N + 1) E (stepS s A) := by
  have h1 := (oneOf_lt hA).1
  have h2 := (twoOf_lt hA).1
  have ha : Allowed (oneOf A : Int) (named4 A.keys) := named4_allowed (by omega) (by omega) _
  unfold stepS
  split
  · exact h.use h1 ha (fun k hk => named4_mem hk) hN
  · split
    · exact h.forget h1 ha hN
    · split
      · exact (h.write h1 h2).mono (by omega)
      · split
        · rename_i l hl
          have hm : l ∈ s.lets ++ E := List.mem_append_left _ (List.mem_of_getElem? hl)
          exact (h.arrive (h.lets l hm) (.inr ⟨l, hm, rfl⟩)).mono (by omega)
        · exact h.mono (by omega)
def s0 : SW := ⟨fun _ => .new, fun _ _ => no8, []⟩
theorem s0_inv : SInv K4 0 [] s0 := by
  refine ⟨Three.new K4, nofun, fun a b _ _ => ⟨⟨rfl, fun n hn => ?_⟩, fun i => Int.le_refl _⟩, fun X Y hX hY => ?_⟩
  · have : n = 0 := by simpa [s0, no8] using hn
    omega
  · have e : ∀ {Z : RMap}, Fam [] s0 Z → Z = .new := fun {Z} h => by
      rcases h with ⟨i, hi, e⟩ | ⟨l, hl, -⟩
      · exact e
      · exact absurd hl (by simp [s0])
    rw [e hX, e hY]; exact cov_self _
def runS (A : List SAct) (k : Nat) : SW := (A.take k).foldl stepS s0
theorem runS_succ (A : List SAct) (k : Nat) (h : k < A.length) : runS A (k + 1) = stepS (runS A k) A[k] := by
  unfold runS
  rw [List.take_succ_eq_append_getElem h, List.foldl_append]
  rfl
theorem run_inv {A : List SAct} (hA : ∀ x ∈ A, ActOk x) : ∀ k : Nat, k ≤ A.length → k ≤ 1000 → SInv K4 k [] (runS A k)
  | 0, _, _ => s0_inv
  | k + 1, hk, hk2 => by
    rw [runS_succ A k (by omega)]
    exact step_inv (run_inv hA k (by omega) (by omega)) (hA _ (List.getElem_mem _)) (by omega)
theorem put_self {m : Nat → RMap} {d : Nat} {x : RMap} : putM m d x d = x := by unfold putM; rw [if_pos rfl]
theorem put_le {m : Nat → RMap} {d j : Nat} {x F : RMap} (hx : d = j → mergeM x F = x) (h : mergeM (m j) F = m j) : mergeM (putM m d x j) F = putM m d x j := by
  unfold putM
  split
  · rename_i e; exact hx e.symm
  · exact h
theorem Good.now {K : List RKey} {N : Int} {m : RMap} (h : Good K N m) (hN : N < 1099511627776) (d : Int) : nowR m d ≤ 1099511627776 := by
  have := h.seen d.toNat
  unfold nowR
  omega
theorem step_le {N : Int} {E : List SLet} {s : SW} {A : SAct} (h : SInv K4 N E s) (hA : ActOk A) (hN : N < 1099511627776) {F : RMap} (hF : Formed F) {j : Nat} (he : mergeM (s.m j) F = s.m j) : mergeM ((stepS s A).m j) F = (stepS s A).m j := by
  have h1 := (oneOf_lt hA).1
  have ha : Allowed (oneOf A : Int) (named4 A.keys) := named4_allowed (by omega) (by omega) _
  have hg := h.three.good _ h1
  unfold stepS
  split
  · exact put_le (fun e => by rw [e] at hg ⊢; exact le_use hg.formed hF (e ▸ ha) (hg.now hN _) he) he
  · split
    · exact put_le (fun e => by rw [e] at hg ⊢; exact le_forget hg.formed hF (e ▸ ha) (hg.now hN _) he) he
    · split
      · exact he
      · split
        · rename_i l hl
          have hm : l ∈ s.lets ++ E := List.mem_append_left _ (List.mem_of_getElem? hl)
          have ho := h.lets l hm
          exact put_le (fun e => by rw [e]; exact le_merge (e ▸ (h.three.good _ ho.dst).formed) hF ho.good.formed he) he
        · exact he
def runB (s : SW) (A : List SAct) (k : Nat) : SW := (A.take k).foldl stepS s
theorem runB_succ (s : SW) (A : List SAct) (k : Nat) (h : k < A.length) : runB s A (k + 1) = stepS (runB s A k) A[k] := by
  unfold runB
  rw [List.take_succ_eq_append_getElem h, List.foldl_append]
  rfl
theorem runB_inv {A : List SAct} (hA : ∀ x ∈ A, ActOk x) {N : Int} {E : List SLet} {s : SW} (hs : SInv K4 N E s) (hN : N ≤ 1000) {F : RMap} (hF : Formed F) {j : Nat} (he : mergeM (s.m j) F = s.m j) :
    ∀ k : Nat, k ≤ A.length → k ≤ 1000 → SInv K4 (N + k) E (runB s A k) ∧ mergeM ((runB s A k).m j) F = (runB s A k).m j
  | 0, _, _ => ⟨hs.mono (by omega), he⟩
  | k + 1, hk, hk2 => by
    obtain ⟨h1, h2⟩ := runB_inv hA hs hN hF he k (by omega) (by omega)
    rw [runB_succ s A k (by omega)]
    have hkA : k < A.length := by omega
    have hx : ActOk A[k] := hA _ (List.getElem_mem hkA)
    exact ⟨(step_inv h1 hx (by omega)).mono (by omega), step_le h1 hx (by omega) hF h2⟩
theorem flat6 {α : Type} : ∀ (C : List (List α)) (i j : Nat) (c : List α), (∀ c ∈ C, c.length = 6) → C[i]? = some c → j < 6 → (C.flatMap id)[i * 6 + j]? = c[j]?
  | [], i, j, c, _, h, _ => by simp at h
  | x :: C, 0, j, c, hl, h, hj => by
    have e : x = c := by simpa using h
    have hx := hl x List.mem_cons_self
    rw [List.flatMap_cons, List.getElem?_append_left (by show 0 * 6 + j < x.length; omega), e]
    simp
  | x :: C, i + 1, j, c, hl, h, hj => by
    have hx : (id x).length = 6 := hl x List.mem_cons_self
    rw [List.flatMap_cons, List.getElem?_append_right (by omega), hx, show (i + 1) * 6 + j - 6 = i * 6 + j by omega]
    exact flat6 C i j c (fun c hc => hl c (List.mem_cons_of_mem _ hc)) (by simpa using h) hj
end Go.Proofs.YtelphnigdancpaaGreatDoor

namespace Go.Proofs.YtelphnigdancpaaGreatDoor
open Go
section
variable {P : Program} {ops : Array Oper} {md : Region.Mode} {C : World → World → Prop} {lx : Nat} {pu : List Nat}

def Cp (p : Bool) (C : World → World → Prop) (w w' : World) : Prop := p = true ∨ C w w'
theorem Cp.refl (p : Bool) (hrefl : ∀ w, C w w) (w : World) : Cp p C w w := .inr (hrefl w)
theorem Cp.trans (p : Bool) (htrans : ∀ a b c, C a b → C b c → C a c) (a b c : World) (h : Cp p C a b) (k : Cp p C b c) : Cp p C a c := by
  rcases h with h | h
  · exact .inl h
  · rcases k with k | k
    · exact .inl k
    · exact .inr (htrans _ _ _ h k)
def lastP (md : Region.Mode) (ops : Array Oper) (lx : Nat) (pu : List Nat) : Bool :=
  (List.range ops.size).all fun i => (i == lx) || (reachOf md ops 12 (depsOf md ops lx)).contains i || (reachOf md ops 12 (depsOf md ops i)).contains lx || pu.contains i
theorem stP_put {p : Bool} {j : Nat} {oi oj : Oper} {v : Value} (hrefl : ∀ w, C w w) (htrans : ∀ a b c, C a b → C b c → C a c) (hj : ops[j]? = some oj) (hjl : j ≠ lx ∨ p = true) (hap : oi.apart ops oj = true)
    (hsi : ∀ cs b, oi.op ≠ .select cs b) (hsj : ∀ cs b, oj.op ≠ .select cs b) {K : Act → World → Prop} {a : Act} {w : World}
    (hy : Steady P ops (Cp p C) oi v a w) (h : stL P ops C lx j K (a.put oi.dst v) w) :
    stL P ops C lx j (fun a' w' => Steady P ops (Cp p C) oi v a' w' ∧ K (a'.put oi.dst v) w') a w := by
  obtain ⟨h1, h2, h3⟩ := Oper.apart_spec hap
  unfold stL at *
  simp only [hj] at *
  rw [wanted_put oj a oi.dst v h1] at h
  split
  · rename_i hw
    simp only [hw, if_true] at h
    unfold opC at *
    rw [execOp_put oj hsj a oi.dst v h1] at h
    exact upC_mono (fun u w' hu => ⟨hu.1, hy.keep (Cp.trans p htrans) hap hsi (hjl.elim (fun h => .inr (hu.1.resolve_left h)) .inl), by rw [← Act.put_comm a v u h2]; exact hu.2⟩) h
  · rename_i hw
    simp only [hw] at h
    exact ⟨hy.keep (Cp.trans p htrans) hap hsi (.inr (hrefl w)), by rw [← Act.put_comm a v undef h2]; exact h⟩

theorem lastP_of (h : lastP md ops lx pu = true) {i : Nat} {listed : Array Bool} (hc : Closed md ops listed) (hi : i ∈ Region.ready md ops listed) (hl : lx ∈ Region.ready md ops listed) : i = lx ∨ pu.contains i = true := by
  obtain ⟨hu, oi, hoi, _⟩ := mem_ready.1 hi
  have hlt : i < ops.size := (Array.getElem?_eq_some_iff.1 hoi).1
  have h0 := List.all_eq_true.1 h i (by simpa using hlt)
  simp only [Bool.or_eq_true, beq_iff_eq] at h0
  have hno : ∀ k, listed.getD k true = false → listed.getD k false = true → False := fun k hu this => by
    rcases Nat.lt_or_ge k listed.size with h' | h'
    · simp [h'] at hu this
      rw [hu] at this
      cases this
    · simp [Array.getElem?_eq_none h'] at this
  rcases h0 with ((h0 | hm) | hm) | hm
  · exact .inl h0
  · exact (hno i hu (reach_listed hc 12 _ (deps_listed hl) i (by simpa using hm))).elim
  · exact (hno lx (mem_ready.1 hl).1 (reach_listed hc 12 _ (deps_listed hi) lx (by simpa using hm))).elim
  · exact .inr hm

theorem steadyP_stL {p : Bool} {i : Nat} {o : Oper} {v : Value} {a : Act} {w : World} (hrefl : ∀ w, C w w) (hi : ops[i]? = some o) (hy : Steady P ops (Cp p C) o v a w) {K : Act → World → Prop} (h : K (a.put o.dst v) w) : stL P ops C lx i K a w := by
  refine Steady.stL hrefl hi ?_ h
  rcases hy with ⟨hw, hv⟩ | hy
  · exact .inl ⟨hw, fun w' hc => hv w' (.inr hc)⟩
  · exact .inr hy
theorem wpAnyP_first {Q : Act → World → Prop} {i : Nat} {oi : Oper} {v : Value} (hlast : lastP md ops lx pu = true) (hrefl : ∀ w, C w w) (htrans : ∀ a b c, C a b → C b c → C a c) (hi : ops[i]? = some oi) (hsel : ∀ (j : Nat) (o : Oper) cs b, ops[j]? = some o → o.op ≠ .select cs b) :
    ∀ (fuel : Nat) (listed : Array Bool) (a : Act) (w : World), Closed md ops listed →
      (∀ j oj, ops[j]? = some oj → j ≠ i → listed.getD j true = false → (∀ e ∈ oj.after, Region.binds md e = true → e.on ≠ i) → oi.apart ops oj = true) →
      i ∈ Region.ready md ops listed → Steady P ops (Cp (pu.contains i) C) oi v a w →
      wpAnyL P md ops C lx Q fuel (listed.setIfInBounds i true) (a.put oi.dst v) w → wpAnyL P md ops C lx Q (fuel + 1) listed a w := by
  intro fuel
  induction fuel with
  | zero =>
    intro listed a w _ _ hr hy H
    refine ⟨fun h => (by rw [h] at hr; cases hr), fun j hj => ?_⟩
    by_cases hji : j = i
    · subst hji; exact (steadyP_stL hrefl hi hy H)
    · have := ready_mono hj hji
      rw [H.1] at this
      cases this
  | succ fuel ih =>
    intro listed a w hcl hfree hr hy H
    refine ⟨fun h => (by rw [h] at hr; cases hr), fun j hj => ?_⟩
    by_cases hji : j = i
    · subst hji; exact (steadyP_stL hrefl hi hy H)
    · have h1 := H.2 j (ready_mono hj hji)
      obtain ⟨hjun, oj, hoj, hall⟩ := mem_ready.1 hj
      have hnot : ∀ e ∈ oj.after, Region.binds md e = true → e.on ≠ i := fun e he hb heq => by
        have h1 := hall e he hb
        have h0 := (mem_ready.1 hr).1
        rw [heq] at h1
        rcases Nat.lt_or_ge i listed.size with h' | h'
        · simp [h'] at h0 h1; rw [h0] at h1; cases h1
        · simp [Array.getElem?_eq_none h'] at h1
      have hjl : j ≠ lx ∨ pu.contains i = true := by
        by_cases e : j = lx
        · exact (lastP_of hlast hcl hr (e ▸ hj)).elim (fun h => absurd (e.trans h.symm) hji) .inr
        · exact .inl e
      have h2 := stP_put hrefl htrans hoj hjl (hfree j oj hoj hji hjun hnot) (fun cs b => hsel i oi cs b hi) (fun cs b => hsel j oj cs b hoj) hy h1
      have hfree' : ∀ k ok, ops[k]? = some ok → k ≠ i → (listed.setIfInBounds j true).getD k true = false →
          (∀ e ∈ ok.after, Region.binds md e = true → e.on ≠ i) → oi.apart ops ok = true := fun k ok hk hki hun hno => by
        refine hfree k ok hk hki ?_ hno
        by_cases hjk : j = k
        · subst hjk; exact hjun
        · rw [getD_set_ne true hjk] at hun; exact hun
      refine stL_mono (fun a' w' h3 => ih (listed.setIfInBounds j true) a' w' (hcl.set hj) hfree' (ready_mono hr (Ne.symm hji)) h3.1 ?_) h2
      rw [Array.setIfInBounds_comm _ _ hji]
      exact h3.2

def wpCanP (P : Program) (ops : Array Oper) (C : World → World → Prop) (lx : Nat) (pu : List Nat) (Q : Act → World → Prop) : List (Nat × Bool) → Act → World → Prop
  | [], a, w => Q a w
  | (i, true) :: r, a, w => match ops[i]? with
    | none => False
    | some o => if Region.wanted o (yielded ops a.tmps) then ∃ v, (∀ w', Cp (pu.contains i) C w w' → (execOp a.eval o).run P w' = .ok (.value v) w') ∧ wpCanP P ops C lx pu Q r (a.put o.dst v) w else wpCanP P ops C lx pu Q r (a.put o.dst undef) w
  | (i, false) :: r, a, w => match ops[i]? with
    | none => False
    | some o => if Region.wanted o (yielded ops a.tmps) then opC P o a w (fun v w' => (i = lx ∨ C w w') ∧ wpCanP P ops C lx pu Q r (a.put o.dst v) w') else wpCanP P ops C lx pu Q r (a.put o.dst undef) w

theorem wpAnyP_can {Q : Act → World → Prop} (hlast : lastP md ops lx pu = true) (hrefl : ∀ w, C w w) (htrans : ∀ a b c, C a b → C b c → C a c) (hs : Region.noSelect ops = true) : ∀ (l : List (Nat × Bool)) (listed : Array Bool) (a : Act) (w : World),
    Closed md ops listed → canB md ops l listed = true → wpCanP P ops C lx pu Q l a w → wpAnyL P md ops C lx Q l.length listed a w
  | [], _, _, _, _, hB, h => ⟨by simpa [canB] using hB, h⟩
  | (i, true) :: l, listed, a, w, hcl, hB, h => by
    simp only [canB, Bool.and_eq_true] at hB
    obtain ⟨⟨hr, hf⟩, hB'⟩ := hB
    simp only [wpCanP] at h
    cases h0 : ops[i]? with
    | none => simp [h0] at h
    | some o =>
      simp only [h0] at h
      by_cases hw : Region.wanted o (yielded ops a.tmps) = true
      · simp only [hw, if_true] at h
        obtain ⟨v, hv, hK⟩ := h
        exact wpAnyP_first hlast hrefl htrans h0 (Region.noSelect_spec hs) l.length listed a w hcl (Region.free_spec h0 hf) (by simpa using hr) (.inl ⟨hw, hv⟩) (wpAnyP_can hlast hrefl htrans hs l _ _ _ (hcl.set (by simpa using hr)) hB' hK)
      · simp only [hw] at h
        exact wpAnyP_first hlast hrefl htrans h0 (Region.noSelect_spec hs) l.length listed a w hcl (Region.free_spec h0 hf) (by simpa using hr) (.inr ⟨by simpa using hw, rfl⟩) (wpAnyP_can hlast hrefl htrans hs l _ _ _ (hcl.set (by simpa using hr)) hB' h)
  | (i, false) :: l, listed, a, w, hcl, hB, h => by
    simp only [canB, Bool.and_eq_true] at hB
    obtain ⟨hr, hB'⟩ := hB
    have hr' : Region.ready md ops listed = [i] := by simpa using hr
    simp only [wpCanP] at h
    refine ⟨fun h0 => (by rw [hr'] at h0; cases h0), fun j hj => ?_⟩
    rw [hr'] at hj
    obtain rfl : j = i := by simpa using hj
    have hr : j ∈ Region.ready md ops listed := by rw [hr']; simp
    unfold stL
    cases h0 : ops[j]? with
    | none => simp [h0] at h
    | some o =>
      simp only [h0] at h
      simp only
      split
      · rename_i hw
        simp only [hw, if_true] at h
        exact upC_mono (fun v w' hv => ⟨hv.1, wpAnyP_can hlast hrefl htrans hs l _ _ _ (hcl.set (by simpa using hr)) hB' hv.2⟩) h
      · rename_i hw
        simp only [hw] at h
        exact wpAnyP_can hlast hrefl htrans hs l _ _ _ (hcl.set (by simpa using hr)) hB' h

theorem wp_region_canP {id : Nat} {Q : Exit → Act → World → Prop} {a : Act} {w : World} {l : List Oper} (C : World → World → Prop) (lx : Nat) (pu : List Nat) (ord : List (Nat × Bool)) (hm : P.follows .mixedOrders = true) (hB : (Region.noSelect l.toArray && canB .any l.toArray ord (Array.replicate ord.length false) && (ord.length == l.length)) = true)
    (hlast : lastP .any l.toArray lx pu = true) (hrefl : ∀ w, C w w) (htrans : ∀ a b c, C a b → C b c → C a c)
    (h : wpCanP P l.toArray C lx pu (fun a' w' => Q .normal a' w') ord a w.drew) : (Code.region id l.toArray true).wp P Q a w := by
  simp only [Bool.and_eq_true] at hB
  obtain ⟨⟨h1, h2⟩, h3⟩ := hB
  have h3' : ord.length = l.length := by simpa using h3
  refine wp_region_any hm (wpAny_of_L (C := C) (lx := lx) (Q := fun a' w' => Q .normal a' w') (fun _ _ h => h) _ _ _ _ ?_)
  have := wpAnyP_can (md := .any) hlast hrefl htrans h1 ord _ a w.drew (fun k hk => by simp [Array.getElem?_replicate] at hk; split at hk <;> simp at hk) h2 h
  rw [h3'] at this
  simpa using this

theorem canP_nil {Q : Act → World → Prop} {a : Act} {w : World} (h : Q a w) : wpCanP P ops C lx pu Q [] a w := h
theorem canP_yes {Q : Act → World → Prop} {i : Nat} {o : Oper} {r : List (Nat × Bool)} {a : Act} {w : World} (ho : ops[i]? = some o) (hw : Region.wanted o (yielded ops a.tmps) = true) (hp : pu.contains i = false) {v : Value}
    (hv : ∀ w', C w w' → (execOp a.eval o).run P w' = .ok (.value v) w')
    (h : ∀ K : Act → Prop, (∀ a', wpCanP P ops C lx pu Q r a' w → K a') → K (a.put o.dst v)) : wpCanP P ops C lx pu Q ((i, true) :: r) a w := by
  simp only [wpCanP, ho, hw, if_true]
  exact ⟨v, fun w' hc => hv w' (hc.resolve_left (by rw [hp]; exact Bool.false_ne_true)), h _ (fun _ h => h)⟩
theorem canP_pure {Q : Act → World → Prop} {i : Nat} {o : Oper} {r : List (Nat × Bool)} {a : Act} {w : World} (ho : ops[i]? = some o) (hw : Region.wanted o (yielded ops a.tmps) = true) {v : Value}
    (hv : ∀ w', (execOp a.eval o).run P w' = .ok (.value v) w')
    (h : ∀ K : Act → Prop, (∀ a', wpCanP P ops C lx pu Q r a' w → K a') → K (a.put o.dst v)) : wpCanP P ops C lx pu Q ((i, true) :: r) a w := by
  simp only [wpCanP, ho, hw, if_true]
  exact ⟨v, fun w' _ => hv w', h _ (fun _ h => h)⟩
theorem canP_go {Q : Act → World → Prop} {i : Nat} {o : Oper} {r : List (Nat × Bool)} {a : Act} {w : World} (ho : ops[i]? = some o) (hw : Region.wanted o (yielded ops a.tmps) = true)
    (h : ∀ K : Act → World → Prop, (∀ a' w', wpCanP P ops C lx pu Q r a' w' → K a' w') → opC P o a w (fun v w' => (i = lx ∨ C w w') ∧ K (a.put o.dst v) w')) : wpCanP P ops C lx pu Q ((i, false) :: r) a w := by
  simp only [wpCanP, ho, hw, if_true]
  exact h _ (fun _ _ h => h)
theorem canP_last {Q : Act → World → Prop} {i : Nat} {o : Oper} {r : List (Nat × Bool)} {a : Act} {w : World} (hx : i = lx) (ho : ops[i]? = some o) (hw : Region.wanted o (yielded ops a.tmps) = true)
    (h : ∀ K : Act → World → Prop, (∀ a' w', wpCanP P ops C lx pu Q r a' w' → K a' w') → opC P o a w (fun v w' => K (a.put o.dst v) w')) : wpCanP P ops C lx pu Q ((i, false) :: r) a w := by
  simp only [wpCanP, ho, hw, if_true]
  exact upC_mono (fun v w' hv => ⟨.inl hx, hv⟩) (h _ (fun _ _ h => h))
end
attribute [irreducible] wpCanP
end Go.Proofs.YtelphnigdancpaaGreatDoor
