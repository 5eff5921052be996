/- The length of a code; lists of keys. No program. -/
import Derived.Test.YtbjkkmabafaogaaGreatDoorRMath2
namespace Go.Proofs.YtbjkkmabafaogaaGreatDoor
set_option linter.unusedVariables false
set_option maxRecDepth 20000

theorem keyOk_len {k : List UInt8} (h : keyOk k = true) : k.length ≤ 400 := by
  cases k with
  | nil => simp
  | cons c r =>
    obtain ⟨i, hi, -, hm⟩ := (keyOk_iff c r).1 h
    unfold makeOk at hm
    simp only [Bool.and_eq_true, decide_eq_true_eq, List.length_take, List.length_drop] at hm
    simp only [List.length_cons]
    omega
theorem flat_len_le {α β : Type} (f : α → List β) (k : Nat) : ∀ l : List α, (∀ x ∈ l, (f x).length ≤ k) → (l.flatMap f).length ≤ l.length * k
  | [], _ => by simp
  | x :: l, h => by
    rw [List.flatMap_cons, List.length_append, List.length_cons, Nat.succ_mul]
    have h1 := h x List.mem_cons_self
    have h2 := flat_len_le f k l fun y hy => h y (List.mem_cons_of_mem _ hy)
    omega
theorem codeText_len (k : RKey) (h : k.length ≤ 400) : (codeText k).length ≤ 410 := by
  unfold codeText
  have := uvar_len k.length
  rw [List.length_append]; omega
theorem codeIt_len (x : RIt) (h : x.key.length ≤ 400) : (codeIt x).length ≤ 440 := by
  unfold codeIt
  have h1 := codeText_len x.key h
  have h2 := uvar_len x.dev.toNat
  have h3 := uvar_len x.seq.toNat
  have h4 := uvar_len x.val.toNat
  simp only [List.length_append]; omega
theorem codeGo_len (x : RGo) (h : x.key.length ≤ 400) : (codeGo x).length ≤ 430 := by
  unfold codeGo
  have h1 := codeText_len x.key h
  have h2 := uvar_len x.dev.toNat
  have h3 := uvar_len x.seq.toNat
  simp only [List.length_append]; omega
theorem codeR_len (m : RMap) (hs : m.seen.length ≤ 1000) (hi : m.items.length ≤ 100000) (hg : m.gone.length ≤ 100000) (ki : ∀ x ∈ m.items, x.key.length ≤ 400) (kg : ∀ x ∈ m.gone, x.key.length ≤ 400) : (codeR m).length ≤ 1000000000 := by
  unfold codeR
  have h1 := flat_len_le (fun n : Int => uvar n.toNat) 10 m.seen fun n _ => uvar_len _
  have h2 := flat_len_le codeIt 440 m.items fun x hx => codeIt_len x (ki x hx)
  have h3 := flat_len_le codeGo 430 m.gone fun x hx => codeGo_len x (kg x hx)
  have h4 := uvar_len m.items.length
  have h5 := uvar_len m.gone.length
  simp only [List.length_append]
  omega

/-! a code in its steps -/
def codeA (m : RMap) : List UInt8 := m.seen.flatMap (fun n => uvar n.toNat) ++ uvar m.items.length
def codeB (m : RMap) (k : Nat) : List UInt8 := codeA m ++ (m.items.take k).flatMap codeIt
def codeC (m : RMap) (k : Nat) : List UInt8 := codeB m m.items.length ++ (uvar m.gone.length ++ (m.gone.take k).flatMap codeGo)
theorem codeC_all (m : RMap) : codeC m m.gone.length = codeR m := by
  unfold codeC codeB codeA codeR
  simp only [List.take_length, List.append_assoc]
theorem codeB_zero (m : RMap) : codeB m 0 = codeA m := by simp [codeB]
theorem codeC_zero (m : RMap) : codeC m 0 = codeB m m.items.length ++ uvar m.gone.length := by simp [codeC]
theorem flat_take {α β : Type} (f : α → List β) (l : List α) (k : Nat) (h : k < l.length) : (l.take (k + 1)).flatMap f = (l.take k).flatMap f ++ f l[k] := by
  rw [List.take_succ_eq_append_getElem h, List.flatMap_append]
  simp
theorem codeB_succ (m : RMap) (k : Nat) (h : k < m.items.length) : codeB m (k + 1) = codeB m k ++ codeText m.items[k].key ++ [m.items[k].dev, m.items[k].seq, m.items[k].val].flatMap (fun n => uvar n.toNat) := by
  unfold codeB
  rw [flat_take _ _ _ h]
  simp [codeIt, List.append_assoc]
theorem codeC_succ (m : RMap) (k : Nat) (h : k < m.gone.length) : codeC m (k + 1) = codeC m k ++ codeText m.gone[k].key ++ [m.gone[k].dev, m.gone[k].seq].flatMap (fun n => uvar n.toNat) := by
  unfold codeC
  rw [flat_take _ _ _ h]
  simp [codeGo, List.append_assoc]
theorem flat_take_le {α β : Type} (f : α → List β) (l : List α) (k : Nat) : ((l.take k).flatMap f).length ≤ (l.flatMap f).length := by
  conv => rhs; rw [← List.take_append_drop k l, List.flatMap_append, List.length_append]
  omega
theorem codeC_le (m : RMap) (k : Nat) : (codeC m k).length ≤ (codeR m).length := by
  have h3 := flat_take_le codeGo m.gone k
  unfold codeC codeB codeA codeR
  simp only [List.take_length, List.length_append]
  omega
theorem codeB_le (m : RMap) (k : Nat) : (codeB m k).length ≤ (codeR m).length := by
  have h3 := flat_take_le codeIt m.items k
  unfold codeB codeA codeR
  simp only [List.length_append]
  omega
theorem codeA_le (m : RMap) : (codeA m).length ≤ (codeR m).length := by rw [← codeB_zero]; exact codeB_le m 0
/-! merging and putting, step by step -/
section
variable {α : Type} {pl : α → RPl}
theorem merge_at_lt (better : α → α → α) (A B : List α) (i j : Nat) (hi : i < A.length) (hj : j < B.length) (h : plt (pl A[i]) (pl B[j])) : mergeL pl better (A.drop i) (B.drop j) = A[i] :: mergeL pl better (A.drop (i + 1)) (B.drop j) := by
  rw [List.drop_eq_getElem_cons hi, List.drop_eq_getElem_cons hj, mergeL_lt _ _ _ h]
theorem merge_at_gt (better : α → α → α) (A B : List α) (i j : Nat) (hi : i < A.length) (hj : j < B.length) (h : plt (pl B[j]) (pl A[i])) : mergeL pl better (A.drop i) (B.drop j) = B[j] :: mergeL pl better (A.drop i) (B.drop (j + 1)) := by
  rw [List.drop_eq_getElem_cons hi, List.drop_eq_getElem_cons hj, mergeL_gt _ _ _ h]
theorem merge_at_eq (better : α → α → α) (A B : List α) (i j : Nat) (hi : i < A.length) (hj : j < B.length) (h : pl A[i] = pl B[j]) : mergeL pl better (A.drop i) (B.drop j) = better A[i] B[j] :: mergeL pl better (A.drop (i + 1)) (B.drop (j + 1)) := by
  rw [List.drop_eq_getElem_cons hi, List.drop_eq_getElem_cons hj, mergeL_eq _ _ _ h]
theorem merge_end (better : α → α → α) (A B : List α) (i j : Nat) (h : ¬ (i < A.length ∧ j < B.length)) : mergeL pl better (A.drop i) (B.drop j) = A.drop i ++ B.drop j := by
  by_cases hi : i < A.length
  · rw [List.drop_eq_nil_of_le (as := B) (by omega), mergeL_nil_r, List.append_nil]
  · rw [List.drop_eq_nil_of_le (as := A) (by omega), mergeL_nil_l, List.nil_append]
/-- what is still to come when an element is put -/
def putRest (pl : α → RPl) (l : List α) (x : α) (k : Nat) (done : Bool) : List α := if done then (l.drop k).filter (fun e => decide (pl e ≠ pl x)) else putL pl (l.drop k) x
theorem putRest_zero (l : List α) (x : α) : putRest pl l x 0 false = putL pl l x := by simp [putRest]
theorem putRest_end_done (l : List α) (x : α) : putRest pl l x l.length true = [] := by simp [putRest]
theorem putRest_end (l : List α) (x : α) : putRest pl l x l.length false = [x] := by simp [putRest, put_nil]
theorem putRest_lt (l : List α) (x : α) (k : Nat) (hk : k < l.length) (h : plt (pl l[k]) (pl x)) : putRest pl l x k false = l[k] :: putRest pl l x (k + 1) false := by
  simp only [putRest, if_neg Bool.false_ne_true]
  rw [List.drop_eq_getElem_cons hk, put_cons_lt _ h]
theorem putRest_now (l : List α) (x : α) (k : Nat) (hk : k < l.length) (h : ¬ plt (pl l[k]) (pl x)) : putRest pl l x k false = x :: putRest pl l x k true := by
  simp only [putRest, if_neg Bool.false_ne_true, if_pos]
  rw [List.drop_eq_getElem_cons hk, put_cons_not _ h]
theorem putRest_ne (l : List α) (x : α) (k : Nat) (hk : k < l.length) (h : pl l[k] ≠ pl x) : putRest pl l x k true = l[k] :: putRest pl l x (k + 1) true := by
  simp only [putRest, if_pos]
  rw [List.drop_eq_getElem_cons hk, List.filter_cons, if_pos (by simpa using h)]
theorem putRest_eq (l : List α) (x : α) (k : Nat) (hk : k < l.length) (h : pl l[k] = pl x) : putRest pl l x k true = putRest pl l x (k + 1) true := by
  simp only [putRest, if_pos]
  rw [List.drop_eq_getElem_cons hk, List.filter_cons, if_neg (by simpa using h)]
end
end Go.Proofs.YtbjkkmabafaogaaGreatDoor
