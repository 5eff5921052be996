/-
  RCnt
-/
import Derived.Test.YtohahloghmanpaaGreatDoorZB03
namespace Go.Proofs.YtohahloghmanpaaGreatDoor
set_option linter.unusedVariables false
set_option maxRecDepth 20000

abbrev RCn := RKey × Int
def cpl (x : RCn) : RPl := (x.1, 0)
def headAt (l : List RIt) (k : Nat) (x : RIt) : Bool := decide (k = 0) || decide ((l[k - 1]?.map RIt.key) ≠ some x.key)
def cnt1 (m : RMap) (k : Nat) : List RCn := match m.items[k]? with
  | none => []
  | some x => if headAt m.items k x = true ∧ 0 < valueM m x.key then [(x.key, valueM m x.key)] else []
def refC (m : RMap) : Nat → List RCn
  | 0 => []
  | k + 1 => refC m k ++ cnt1 m k
def countsM (m : RMap) : List RCn := refC m m.items.length
def countsR (m : RMap) : List RCn := if validR m then countsM m else []
theorem refC_len (m : RMap) : ∀ k, (refC m k).length ≤ k
  | 0 => Nat.le_refl _
  | k + 1 => by
    have := refC_len m k
    unfold refC cnt1
    split
    · simp; omega
    · split <;> simp <;> omega

theorem asc_mem_ext {α : Type} {pl : α → RPl} {a b : List α} (ha : Asc pl a) (hb : Asc pl b) (h : ∀ x, x ∈ a ↔ x ∈ b) : a = b := by
  refine asc_ext ha hb fun p => ?_
  cases e : look pl a p with
  | none =>
    symm
    rw [look_none] at e ⊢
    exact fun x hx => e x ((h x).2 hx)
  | some x =>
    symm
    rw [look_some_iff ha] at e
    rw [look_some_iff hb]
    exact ⟨(h x).1 e.1, e.2⟩
theorem key_le_of_plt {a b : RPl} (h : plt a b) : a.1 < b.1 ∨ a.1 = b.1 := by
  rcases h with h | h
  · exact .inl h
  · exact .inr h.1
theorem cpl_lt {a b : RCn} : plt (cpl a) (cpl b) ↔ a.1 < b.1 := by
  unfold plt cpl
  constructor
  · rintro (h | ⟨_, h⟩)
    · exact h
    · exact absurd h (by simp)
  · exact .inl
structure CntOk (m : RMap) (S : RKey → Prop) (l : List RCn) : Prop where
  asc : Asc cpl l
  mem : ∀ k n, (k, n) ∈ l ↔ S k ∧ n = valueM m k ∧ 0 < n
theorem CntOk.eq {m : RMap} {S : RKey → Prop} {a b : List RCn} (ha : CntOk m S a) (hb : CntOk m S b) : a = b :=
  asc_mem_ext ha.asc hb.asc fun x => (ha.mem x.1 x.2).trans (hb.mem x.1 x.2).symm
theorem items_lt {m : RMap} (f : Asc RIt.pl m.items) {i j : Nat} (h : i < j) (hj : j < m.items.length) : plt (m.items[i]'(by omega)).pl m.items[j].pl := List.pairwise_iff_getElem.1 f i j (by omega) hj h
theorem ref_ok {m : RMap} (f : Asc RIt.pl m.items) : ∀ k, k ≤ m.items.length → CntOk m (fun key => ∃ i, ∃ h : i < m.items.length, i < k ∧ m.items[i].key = key) (refC m k)
  | 0, _ => ⟨List.Pairwise.nil, fun k n => ⟨nofun, fun h => by obtain ⟨⟨i, _, hi, _⟩, _⟩ := h; omega⟩⟩
  | k + 1, hk => by
    have ih := ref_ok f k (by omega)
    have hkl : k < m.items.length := by omega
    obtain ⟨x, hx⟩ : ∃ x, m.items[k] = x := ⟨_, rfl⟩
    have hx? : m.items[k]? = some x := by rw [List.getElem?_eq_getElem hkl, hx]
    have h1 : cnt1 m k = if headAt m.items k x = true ∧ 0 < valueM m x.key then [(x.key, valueM m x.key)] else [] := by unfold cnt1; rw [hx?]
    have hS : ∀ key, (∃ i, ∃ h : i < m.items.length, i < k + 1 ∧ m.items[i].key = key) ↔ (∃ i, ∃ h : i < m.items.length, i < k ∧ m.items[i].key = key) ∨ key = x.key := fun key => by
      constructor
      · rintro ⟨i, h, hi, e⟩
        by_cases hik : i = k
        · subst hik; right; rw [← e, hx]
        · exact .inl ⟨i, h, by omega, e⟩
      · rintro (⟨i, h, hi, e⟩ | rfl)
        · exact ⟨i, h, by omega, e⟩
        · exact ⟨k, hkl, by omega, by rw [hx]⟩
    unfold refC
    rw [h1]
    by_cases hh : headAt m.items k x = true
    · have hnew : ∀ i (h : i < m.items.length), i < k → m.items[i].key < x.key := fun i h hi => by
        have hk0 : k ≠ 0 := by omega
        have hne : m.items[k - 1].key ≠ x.key := by
          unfold headAt at hh
          simp only [hk0, decide_false, Bool.false_or, decide_eq_true_eq] at hh
          intro e
          apply hh
          rw [List.getElem?_eq_getElem (show k - 1 < m.items.length by omega)]
          simp [e]
        have hp := items_lt f (show k - 1 < k by omega) hkl
        rw [hx] at hp
        have hlast : m.items[k - 1].key < x.key := by
          rcases key_le_of_plt hp with h | h
          · exact h
          · exact absurd h hne
        by_cases hi1 : i = k - 1
        · subst hi1; exact hlast
        · rcases key_le_of_plt (items_lt f (show i < k - 1 by omega) (by omega)) with h | h
          · exact klt_trans h hlast
          · rw [show m.items[i].key = m.items[k - 1].key from h]; exact hlast
      by_cases hv : 0 < valueM m x.key
      · rw [if_pos ⟨hh, hv⟩]
        refine ⟨List.pairwise_append.2 ⟨ih.asc, List.pairwise_singleton _ _, fun a ha b hb => ?_⟩, fun key n => ?_⟩
        · rw [List.mem_singleton.1 hb, cpl_lt]
          obtain ⟨⟨i, h, hi, e⟩, _⟩ := (ih.mem a.1 a.2).1 ha
          rw [← e]
          exact hnew i h hi
        · rw [List.mem_append, List.mem_singleton, ih.mem, hS]
          constructor
          · rintro (⟨h1, h2⟩ | h)
            · exact ⟨.inl h1, h2⟩
            · injection h with h1 h2
              subst h1 h2
              exact ⟨.inr rfl, rfl, hv⟩
          · rintro ⟨h | rfl, h2⟩
            · exact .inl ⟨h, h2⟩
            · right; rw [h2.1]
      · rw [if_neg (fun h => hv h.2), List.append_nil]
        refine ⟨ih.asc, fun key n => ?_⟩
        rw [ih.mem, hS]
        constructor
        · rintro ⟨h1, h2⟩
          exact ⟨.inl h1, h2⟩
        · rintro ⟨h | rfl, h2⟩
          · exact ⟨h, h2⟩
          · exact absurd (by rw [← h2.1]; exact h2.2) hv
    · rw [if_neg (fun h => hh h.1), List.append_nil]
      have hk0 : k ≠ 0 := by
        intro e
        apply hh
        unfold headAt
        simp [e]
      have he : m.items[k - 1].key = x.key := by
        unfold headAt at hh
        simp only [hk0, decide_false, Bool.false_or, decide_eq_true_eq, Decidable.not_not] at hh
        rw [List.getElem?_eq_getElem (show k - 1 < m.items.length by omega)] at hh
        simpa using hh
      refine ⟨ih.asc, fun key n => ?_⟩
      rw [ih.mem, hS]
      constructor
      · rintro ⟨h1, h2⟩
        exact ⟨.inl h1, h2⟩
      · rintro ⟨h | rfl, h2⟩
        · exact ⟨h, h2⟩
        · exact ⟨⟨k - 1, by omega, by omega, he⟩, h2⟩
def keyIn (m : RMap) (key : RKey) : Prop := ∃ x ∈ m.items, x.key = key
theorem counts_ok {m : RMap} (f : Asc RIt.pl m.items) : CntOk m (keyIn m) (countsM m) := by
  have h := ref_ok f m.items.length (Nat.le_refl _)
  refine ⟨h.asc, fun k n => (h.mem k n).trans (and_congr ⟨?_, ?_⟩ Iff.rfl)⟩
  · rintro ⟨i, hi, _, e⟩
    exact ⟨_, List.getElem_mem hi, e⟩
  · rintro ⟨x, hx, e⟩
    obtain ⟨i, hi, rfl⟩ := List.mem_iff_getElem.1 hx
    exact ⟨i, hi, hi, e⟩
theorem counts_of {m : RMap} (f : Asc RIt.pl m.items) {l s : List RCn} (hn : (l.map Prod.fst).Nodup) (hm : ∀ k n, (k, n) ∈ l ↔ keyIn m k ∧ n = valueM m k ∧ 0 < n) (hp : s.Perm l) (hs : s.Pairwise fun a b => ¬ b.1 < a.1) : s = countsM m := by
  have hsn : (s.map Prod.fst).Nodup := (hp.map Prod.fst).nodup_iff.2 hn
  have hp2 : s.Pairwise fun a b => a.1 ≠ b.1 := List.pairwise_map.1 hsn
  refine CntOk.eq (S := keyIn m) ⟨?_, fun k n => (hp.mem_iff).trans (hm k n)⟩ (counts_ok f)
  refine (hs.and hp2).imp fun {a b} h => ?_
  rw [cpl_lt]
  rcases Classical.em (a.1 < b.1) with h1 | h1
  · exact h1
  · exact absurd (klt_tri h1 h.1) h.2
theorem value_counts {m : RMap} (hv : validR m = true) {x : RCn} (h : x ∈ countsR m) : valueR m x.1 = x.2 := by
  unfold countsR at h
  rw [if_pos hv] at h
  have := ((counts_ok (valid_formed hv).items).mem x.1 x.2).1 h
  unfold valueR
  rw [if_pos hv, this.2.1]
end Go.Proofs.YtohahloghmanpaaGreatDoor
