/- Codes can be read in one way only. No program. -/
import Derived.Test.YtbjkkmabafaogaaGreatDoorRMath3
namespace Go.Proofs.YtbjkkmabafaogaaGreatDoor
set_option linter.unusedVariables false
set_option maxRecDepth 20000

/-- codes of which none is the beginning of another one -/
def Pfx {α : Type} (P : α → Prop) (f : α → List UInt8) : Prop := ∀ x y r s, P x → P y → f x ++ r = f y ++ s → x = y ∧ r = s
theorem ofNat8_inj {a b : Nat} (ha : a < 256) (hb : b < 256) (h : UInt8.ofNat a = UInt8.ofNat b) : a = b := by
  have := congrArg UInt8.toNat h
  rwa [UInt8.toNat_ofNat', UInt8.toNat_ofNat', Nat.mod_eq_of_lt (by omega), Nat.mod_eq_of_lt (by omega)] at this
theorem uvar_pfx : Pfx (fun n : Nat => n < 18446744073709551616) uvar := by
  intro n
  induction n using Nat.strongRecOn with
  | _ n ih =>
    intro n' r s hn hn' h
    by_cases h1 : n < 128
    · rw [uvar_small n h1] at h
      by_cases h2 : n' < 128
      · rw [uvar_small n' h2] at h
        obtain ⟨e1, e2⟩ := List.cons.inj h
        exact ⟨ofNat8_inj (by omega) (by omega) e1, e2⟩
      · rw [uvar_step n' h2 hn'] at h
        have := ofNat8_inj (by omega) (by omega) (List.cons.inj h).1
        omega
    · rw [uvar_step n h1 hn] at h
      by_cases h2 : n' < 128
      · rw [uvar_small n' h2] at h
        have := ofNat8_inj (by omega) (by omega) (List.cons.inj h).1
        omega
      · rw [uvar_step n' h2 hn'] at h
        obtain ⟨e1, e2⟩ := List.cons.inj h
        have e3 := ofNat8_inj (by omega) (by omega) e1
        obtain ⟨e4, e5⟩ := ih (n / 128) (by omega) (n' / 128) r s (by omega) (by omega) e2
        exact ⟨by omega, e5⟩
theorem uvar_pfxI : Pfx (fun n : Int => 0 ≤ n ∧ n ≤ 9223372036854775807) (fun n => uvar n.toNat) := by
  intro x y r s hx hy h
  obtain ⟨e1, e2⟩ := uvar_pfx x.toNat y.toNat r s (by omega) (by omega) h
  exact ⟨by omega, e2⟩
theorem text_pfx : Pfx (fun k : RKey => k.length ≤ 9223372036854775807) codeText := by
  intro x y r s hx hy h
  unfold codeText at h
  rw [List.append_assoc, List.append_assoc] at h
  obtain ⟨e1, e2⟩ := uvar_pfx x.length y.length _ _ (by omega) (by omega) h
  exact List.append_inj e2 e1
def itC (x : RIt) : Prop := x.key.length ≤ 9223372036854775807 ∧ (0 ≤ x.dev ∧ x.dev ≤ 9223372036854775807) ∧ (0 ≤ x.seq ∧ x.seq ≤ 9223372036854775807) ∧ 0 ≤ x.val ∧ x.val ≤ 9223372036854775807
def goC (x : RGo) : Prop := x.key.length ≤ 9223372036854775807 ∧ (0 ≤ x.dev ∧ x.dev ≤ 9223372036854775807) ∧ 0 ≤ x.seq ∧ x.seq ≤ 9223372036854775807
theorem it_pfx : Pfx itC codeIt := by
  intro x y r s hx hy h
  unfold codeIt at h
  simp only [List.append_assoc] at h
  obtain ⟨e1, h⟩ := text_pfx _ _ _ _ hx.1 hy.1 h
  obtain ⟨e2, h⟩ := uvar_pfxI _ _ _ _ hx.2.1 hy.2.1 h
  obtain ⟨e3, h⟩ := uvar_pfxI _ _ _ _ hx.2.2.1 hy.2.2.1 h
  obtain ⟨e4, h⟩ := uvar_pfxI _ _ _ _ hx.2.2.2 hy.2.2.2 h
  cases x; cases y
  simp_all
theorem go_pfx : Pfx goC codeGo := by
  intro x y r s hx hy h
  unfold codeGo at h
  simp only [List.append_assoc] at h
  obtain ⟨e1, h⟩ := text_pfx _ _ _ _ hx.1 hy.1 h
  obtain ⟨e2, h⟩ := uvar_pfxI _ _ _ _ hx.2.1 hy.2.1 h
  obtain ⟨e3, h⟩ := uvar_pfxI _ _ _ _ hx.2.2 hy.2.2 h
  cases x; cases y
  simp_all
/-- what has been read of a list is its beginning -/
theorem flat_prefix {α : Type} {P : α → Prop} {f : α → List UInt8} (hf : Pfx P f) : ∀ (s t : List α) (r u : List UInt8), (∀ x ∈ s, P x) → (∀ x ∈ t, P x) → s.length ≤ t.length → s.flatMap f ++ r = t.flatMap f ++ u → s = t.take s.length ∧ r = (t.drop s.length).flatMap f ++ u
  | [], t, r, u, _, _, _, h => by simpa using h
  | x :: s, [], r, u, _, _, hl, _ => by simp at hl
  | x :: s, y :: t, r, u, hs, ht, hl, h => by
    simp only [List.flatMap_cons, List.append_assoc] at h
    obtain ⟨e, h⟩ := hf x y _ _ (hs x List.mem_cons_self) (ht y List.mem_cons_self) h
    obtain ⟨h1, h2⟩ := flat_prefix hf s t r u (fun z hz => hs z (List.mem_cons_of_mem _ hz)) (fun z hz => ht z (List.mem_cons_of_mem _ hz)) (by simpa using hl) h
    subst e
    exact ⟨by simpa using h1, by simpa using h2⟩
theorem flat_inj {α : Type} {P : α → Prop} {f : α → List UInt8} (hf : Pfx P f) (s t : List α) (r u : List UInt8) (hs : ∀ x ∈ s, P x) (ht : ∀ x ∈ t, P x) (hl : s.length = t.length) (h : s.flatMap f ++ r = t.flatMap f ++ u) : s = t ∧ r = u := by
  obtain ⟨h1, h2⟩ := flat_prefix hf s t r u hs ht (by omega) h
  rw [hl] at h1 h2
  simp at h1 h2
  exact ⟨h1, h2⟩
theorem valid_nums {m : RMap} (h : validR m = true) : (∀ n ∈ m.seen, 0 ≤ n ∧ n ≤ 1099511627776) ∧ (∀ x ∈ m.items, x.key.length ≤ 400 ∧ (0 ≤ x.dev ∧ x.dev < 8) ∧ (1 ≤ x.seq ∧ x.seq ≤ 1099511627776) ∧ 1 ≤ x.val ∧ x.val ≤ 16777216) ∧
    (∀ x ∈ m.gone, x.key.length ≤ 400 ∧ (0 ≤ x.dev ∧ x.dev < 8) ∧ 1 ≤ x.seq ∧ x.seq ≤ 1099511627776) := by
  have f := valid_formed h
  have sg : ∀ i, m.seen.getD i 0 ≤ 1099511627776 := fun i => by
    by_cases hi : i < m.seen.length
    · rw [List.getD_eq_getElem?_getD, List.getElem?_eq_getElem hi]
      exact (f.seen _ (List.getElem_mem hi)).2
    · rw [List.getD_eq_getElem?_getD, List.getElem?_eq_none (by omega)]
      decide
  refine ⟨f.seen, fun x hx => ?_, fun x hx => ?_⟩
  · obtain ⟨h1, h2, h3, h4⟩ := known_seq (f.iknown x hx)
    have := sg x.pl.2.toNat
    rw [f.len] at h2
    exact ⟨keyOk_len (known_key (f.iknown x hx)), ⟨h1, h2⟩, ⟨h3, by omega⟩, f.val x hx⟩
  · obtain ⟨h1, h2, h3, h4⟩ := known_seq (f.gknown x hx)
    have := sg x.pl.2.toNat
    rw [f.len] at h2
    exact ⟨keyOk_len (known_key (f.gknown x hx)), ⟨h1, h2⟩, h3, by omega⟩
theorem valid_lens {m : RMap} (h : validR m = true) : m.seen.length = 8 ∧ m.items.length ≤ 4096 ∧ m.gone.length ≤ 4096 ∧ (codeR m).length ≤ 60000 := by
  have f := valid_formed h
  unfold validR at h
  simp only [Bool.and_eq_true, decide_eq_true_eq] at h
  exact ⟨f.len, h.1.1.2, h.1.2, h.2⟩
theorem valid_itC {m : RMap} (h : validR m = true) : ∀ x ∈ m.items, itC x := fun x hx => by
  obtain ⟨h1, h2, h3, h4⟩ := (valid_nums h).2.1 x hx
  exact ⟨by omega, by omega, by omega, by omega⟩
theorem valid_goC {m : RMap} (h : validR m = true) : ∀ x ∈ m.gone, goC x := fun x hx => by
  obtain ⟨h1, h2, h3⟩ := (valid_nums h).2.2 x hx
  exact ⟨by omega, by omega, by omega⟩
theorem valid_seenC {m : RMap} (h : validR m = true) : ∀ n ∈ m.seen, 0 ≤ n ∧ n ≤ 9223372036854775807 := fun n hn => by
  have := (valid_nums h).1 n hn
  omega
theorem code_inj {a b : RMap} (ha : validR a = true) (hb : validR b = true) (h : codeR a = codeR b) : a = b := by
  obtain ⟨la, ia, ga, -⟩ := valid_lens ha
  obtain ⟨lb, ib, gb, -⟩ := valid_lens hb
  unfold codeR at h
  obtain ⟨h1, h⟩ := flat_inj uvar_pfxI _ _ _ _ (valid_seenC ha) (valid_seenC hb) (by omega) h
  obtain ⟨h2, h⟩ := uvar_pfx _ _ _ _ (by omega) (by omega) h
  obtain ⟨h3, h⟩ := flat_inj it_pfx _ _ _ _ (valid_itC ha) (valid_itC hb) h2 h
  obtain ⟨h4, h⟩ := uvar_pfx _ _ _ _ (by omega) (by omega) h
  obtain ⟨h5, -⟩ := flat_inj go_pfx a.gone b.gone [] [] (valid_goC ha) (valid_goC hb) h4 (by simpa using h)
  cases a; cases b
  simp_all

/-- what reading yields: the map whose code it is, or none -/
def DecR (b : List UInt8) (m : RMap) (e : Int) : Prop := (validR m = true ∧ codeR m = b ∧ e = 0) ∨ ((∀ m', validR m' = true → codeR m' ≠ b) ∧ m = .empty ∧ e = 5)
theorem decR_fun {b : List UInt8} {m n : RMap} {e f : Int} (h : DecR b m e) (k : DecR b n f) : m = n ∧ e = f := by
  rcases h with ⟨h1, h2, rfl⟩ | ⟨h1, rfl, rfl⟩
  · rcases k with ⟨k1, k2, rfl⟩ | ⟨k1, _⟩
    · exact ⟨code_inj h1 k1 (h2.trans k2.symm), rfl⟩
    · exact absurd h2 (k1 m h1)
  · rcases k with ⟨k1, k2, rfl⟩ | ⟨k1, rfl, rfl⟩
    · exact absurd k2 (h1 n k1)
    · exact ⟨rfl, rfl⟩

/-! how far a code has been read -/
/-- what stands at the beginning of b is read as a number -/
def NumAt (b : List UInt8) (n : Nat) (r : List UInt8) : Prop := n < 18446744073709551616 ∧ b = uvar n ++ r
def NoNum (b : List UInt8) : Prop := ∀ n r, ¬ NumAt b n r
theorem numAt_fun {b : List UInt8} {n n' : Nat} {r r' : List UInt8} (h : NumAt b n r) (k : NumAt b n' r') : n = n' ∧ r = r' := uvar_pfx _ _ _ _ h.1 k.1 (h.2.symm.trans k.2)
def TextAt (b : List UInt8) (k : RKey) (r : List UInt8) : Prop := k.length < 18446744073709551616 ∧ b = codeText k ++ r
def NoText (b : List UInt8) : Prop := ∀ k r, ¬ TextAt b k r
end Go.Proofs.YtbjkkmabafaogaaGreatDoor
