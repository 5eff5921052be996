/-
  RDec
-/
import Derived.Test.YtkkacnfpdafadaaGreatDoorR02
namespace Go.Proofs.YtkkacnfpdafadaaGreatDoor
set_option linter.unusedVariables false
set_option maxRecDepth 20000

def rdF : List UInt8 → Nat → Option (Nat × List UInt8)
  | [], _ => none
  | c :: r, f => if (f = 0 ∧ 1 < c.toNat) ∨ (f < 9 ∧ c.toNat = 0) then none else if c.toNat < 128 then some (c.toNat, r) else (rdF r (f - 1)).map fun p => (c.toNat % 128 + 128 * p.1, p.2)
theorem rdF_nil (f : Nat) : rdF [] f = none := rfl
theorem rdF_bad {c : UInt8} {r : List UInt8} {f : Nat} (h : (f = 0 ∧ 1 < c.toNat) ∨ (f < 9 ∧ c.toNat = 0)) : rdF (c :: r) f = none := by rw [rdF, if_pos h]
theorem rdF_end {c : UInt8} {r : List UInt8} {f : Nat} (h : ¬ ((f = 0 ∧ 1 < c.toNat) ∨ (f < 9 ∧ c.toNat = 0))) (h2 : c.toNat < 128) : rdF (c :: r) f = some (c.toNat, r) := by rw [rdF, if_neg h, if_pos h2]
theorem rdF_go {c : UInt8} {r : List UInt8} {f : Nat} (h : ¬ ((f = 0 ∧ 1 < c.toNat) ∨ (f < 9 ∧ c.toNat = 0))) (h2 : ¬ c.toNat < 128) : rdF (c :: r) f = (rdF r (f - 1)).map fun p => (c.toNat % 128 + 128 * p.1, p.2) := by rw [rdF, if_neg h, if_neg h2]
theorem ofNat_toNat8 (n : Nat) (h : n < 256) : (UInt8.ofNat n).toNat = n := by rw [UInt8.toNat_ofNat']; omega
theorem rdF_iff : ∀ (b : List UInt8) (f n : Nat) (r : List UInt8), f ≤ 9 → (rdF b f = some (n, r) ↔ b = uvarF (f + 1) n ++ r ∧ n < 2 * 128 ^ f ∧ (f < 9 → n ≠ 0))
  | [], f, n, r, hf => by
    rw [rdF_nil]
    refine ⟨nofun, fun h => ?_⟩
    have h1 := congrArg List.length h.1
    have : 0 < (uvarF (f + 1) n).length := by unfold uvarF; split <;> simp
    rw [List.length_append] at h1
    simp at h1
    omega
  | c :: t, f, n, r, hf => by
    have hc := c.toNat_lt
    by_cases hA : (f = 0 ∧ 1 < c.toNat) ∨ (f < 9 ∧ c.toNat = 0)
    · rw [rdF_bad hA]
      refine ⟨nofun, fun h => ?_⟩
      exfalso
      obtain ⟨h1, h2, h3⟩ := h
      unfold uvarF at h1
      by_cases hn : n < 128
      · rw [if_pos hn] at h1
        have e := congrArg UInt8.toNat (List.cons.inj h1).1
        rw [ofNat_toNat8 n (by omega)] at e
        rcases hA with ⟨rfl, hA⟩ | ⟨hA, hB⟩
        · simp at h2; omega
        · exact h3 hA (by omega)
      · rw [if_neg hn] at h1
        have e := congrArg UInt8.toNat (List.cons.inj h1).1
        rw [ofNat_toNat8 _ (by omega)] at e
        rcases hA with ⟨rfl, hA⟩ | ⟨hA, hB⟩
        · simp at h2; omega
        · omega
    by_cases hB : c.toNat < 128
    · rw [rdF_end hA hB]
      constructor
      · intro h
        obtain ⟨rfl, rfl⟩ := Prod.mk.inj (Option.some.inj h)
        refine ⟨?_, ?_, fun hf9 h0 => hA (.inr ⟨hf9, h0⟩)⟩
        · unfold uvarF
          rw [if_pos hB]
          simp
        · cases f with
          | zero => simp; omega
          | succ f => have : 0 < 128 ^ f := Nat.pow_pos (by omega); rw [Nat.pow_succ]; omega
      · rintro ⟨h1, h2, h3⟩
        unfold uvarF at h1
        by_cases hn : n < 128
        · rw [if_pos hn] at h1
          obtain ⟨e1, e2⟩ := List.cons.inj h1
          have e := congrArg UInt8.toNat e1
          rw [ofNat_toNat8 n (by omega)] at e
          rw [e]
          simp at e2
          rw [e2]
        · rw [if_neg hn] at h1
          have e := congrArg UInt8.toNat (List.cons.inj h1).1
          rw [ofNat_toNat8 _ (by omega)] at e
          omega
    · rw [rdF_go hA hB]
      cases f with
      | zero => exact absurd (.inl ⟨rfl, by omega⟩) hA
      | succ f =>
        rw [Option.map_eq_some_iff, Nat.add_sub_cancel]
        constructor
        · rintro ⟨⟨n', r'⟩, h, e⟩
          obtain ⟨rfl, rfl⟩ := Prod.mk.inj e
          obtain ⟨h1, h2, h3⟩ := (rdF_iff t f n' r' (by omega)).1 h
          have h0 : n' ≠ 0 := h3 (by omega)
          dsimp only
          refine ⟨?_, by rw [Nat.pow_succ]; omega, fun _ => by omega⟩
          rw [uvarF, if_neg (by omega), show (c.toNat % 128 + 128 * n') / 128 = n' by omega, show (c.toNat % 128 + 128 * n') % 128 + 128 = c.toNat by omega, h1]
          simp
        · rintro ⟨h1, h2, h3⟩
          rw [uvarF] at h1
          by_cases hn : n < 128
          · rw [if_pos hn] at h1
            have e := congrArg UInt8.toNat (List.cons.inj h1).1
            rw [ofNat_toNat8 n (by omega)] at e
            omega
          · rw [if_neg hn] at h1
            obtain ⟨e1, e2⟩ := List.cons.inj h1
            have e := congrArg UInt8.toNat e1
            rw [ofNat_toNat8 _ (by omega)] at e
            refine ⟨(n / 128, r), (rdF_iff t f (n / 128) r (by omega)).2 ⟨e2, by rw [Nat.pow_succ] at h2; omega, fun _ => by omega⟩, ?_⟩
            exact Prod.ext (by show c.toNat % 128 + 128 * (n / 128) = n; omega) rfl
theorem rd_iff {b : List UInt8} {n : Nat} {r : List UInt8} : rdF b 9 = some (n, r) ↔ NumAt b n r := by
  rw [rdF_iff b 9 n r (Nat.le_refl _)]
  unfold NumAt uvar
  exact ⟨fun h => ⟨by have := h.2.1; omega, h.1⟩, fun h => ⟨h.2, by have := h.1; omega, fun h9 => absurd h9 (by omega)⟩⟩
theorem rd_len {b : List UInt8} {n : Nat} {r : List UInt8} (h : rdF b 9 = some (n, r)) : r.length < b.length ∧ b.length ≤ r.length + 10 ∧ n < 18446744073709551616 := by
  obtain ⟨h1, h2⟩ := rd_iff.1 h
  have := congrArg List.length h2
  rw [List.length_append] at this
  have h3 := uvar_pos n
  have h4 := uvar_len n
  exact ⟨by omega, by omega, h1⟩

/-! a reader: what is still to be read; none: something was wrong -/
abbrev RdSt := Option (List UInt8)
def numS : RdSt → Int × RdSt
  | none => (0, none)
  | some b => match rdF b 9 with
    | some (n, r) => if n ≤ 1099511627776 then ((n : Int), some r) else (0, none)
    | none => (0, none)
def rdT (b : List UInt8) : Option (RKey × List UInt8) := match rdF b 9 with
  | some (n, r) => if n ≤ r.length then some (r.take n, r.drop n) else none
  | none => none
def textS : RdSt → RKey × RdSt
  | none => ([], none)
  | some b => match rdT b with
    | some (k, r) => (k, some r)
    | none => ([], none)
def itemS (s : RdSt) : RIt × RdSt := (⟨(textS s).1, (numS (textS s).2).1, (numS (numS (textS s).2).2).1, (numS (numS (numS (textS s).2).2).2).1⟩, (numS (numS (numS (textS s).2).2).2).2)
def goneS (s : RdSt) : RGo × RdSt := (⟨(textS s).1, (numS (textS s).2).1, (numS (numS (textS s).2).2).1⟩, (numS (numS (textS s).2).2).2)
def seenL : Nat → List Int × RdSt → List Int × RdSt
  | 0, p => p
  | n + 1, p => seenL n (p.1 ++ [(numS p.2).1], (numS p.2).2)
def manyL {α : Type} (one : RdSt → α × RdSt) : Nat → List α × RdSt → List α × RdSt
  | 0, p => p
  | n + 1, p => if p.2 = none then p else manyL one n (p.1 ++ [(one p.2).1], (one p.2).2)
def dec1 (b : List UInt8) : List Int × RdSt := seenL 8 ([], some b)
def dec2 (b : List UInt8) : List RIt × RdSt := manyL itemS (numS (dec1 b).2).1.toNat ([], (numS (dec1 b).2).2)
def dec3 (b : List UInt8) : List RGo × RdSt := manyL goneS (numS (dec2 b).2).1.toNat ([], (numS (dec2 b).2).2)
def decM (b : List UInt8) : RMap := ⟨(dec1 b).1, (dec2 b).1, (dec3 b).1⟩
def decR (b : List UInt8) : RMap × Int := if (dec3 b).2 = some [] ∧ validR (decM b) = true then (decM b, 0) else (.empty, 5)
theorem manyL_none {α : Type} (one : RdSt → α × RdSt) (n : Nat) (l : List α) : manyL one n (l, none) = (l, none) := by
  cases n with
  | zero => rfl
  | succ n => rw [manyL, if_pos rfl]
theorem manyL_some {α : Type} (one : RdSt → α × RdSt) (n : Nat) (l : List α) (b : List UInt8) : manyL one (n + 1) (l, some b) = manyL one n (l ++ [(one (some b)).1], (one (some b)).2) := by rw [manyL, if_neg nofun]

/-! what was read -/
theorem numS_some {s : RdSt} {x : Int} {r : List UInt8} (h : numS s = (x, some r)) : s = some (uvar x.toNat ++ r) ∧ 0 ≤ x ∧ x ≤ 1099511627776 := by
  cases s with
  | none => cases h
  | some b =>
    unfold numS at h
    dsimp only at h
    split at h
    · rename_i n r' hr
      by_cases hn : n ≤ 1099511627776
      · rw [if_pos hn] at h
        obtain ⟨rfl, h2⟩ := Prod.mk.inj h
        obtain rfl := Option.some.inj h2
        have := (rd_iff.1 hr).2
        exact ⟨by rw [this]; simp, by omega, by omega⟩
      · rw [if_neg hn] at h; cases h
    · cases h
theorem numS_of (x : Int) (r : List UInt8) (h0 : 0 ≤ x) (h1 : x ≤ 1099511627776) : numS (some (uvar x.toNat ++ r)) = (x, some r) := by
  have h : rdF (uvar x.toNat ++ r) 9 = some (x.toNat, r) := rd_iff.2 ⟨by omega, rfl⟩
  unfold numS
  dsimp only
  rw [h]
  dsimp only
  rw [if_pos (by omega), show ((x.toNat : Nat) : Int) = x by omega]
theorem numS_bnd (s : RdSt) : 0 ≤ (numS s).1 ∧ (numS s).1 ≤ 1099511627776 := by
  unfold numS
  split
  · exact ⟨by decide, by decide⟩
  · split
    · split
      · exact ⟨by simp, by dsimp only; omega⟩
      · exact ⟨by decide, by decide⟩
    · exact ⟨by decide, by decide⟩
theorem textS_some {s : RdSt} {k : RKey} {r : List UInt8} (h : textS s = (k, some r)) : s = some (codeText k ++ r) ∧ k.length < 18446744073709551616 := by
  cases s with
  | none => cases h
  | some b =>
    unfold textS rdT at h
    dsimp only at h
    split at h
    · rename_i k' r' hr
      obtain ⟨rfl, h2⟩ := Prod.mk.inj h
      obtain rfl := Option.some.inj h2
      split at hr
      · rename_i n t ht
        by_cases hn : n ≤ t.length
        · rw [if_pos hn] at hr
          obtain ⟨rfl, rfl⟩ := Prod.mk.inj (Option.some.inj hr)
          obtain ⟨h1, h2⟩ := rd_iff.1 ht
          have hl : (t.take n).length = n := by simp [hn]
          unfold codeText
          rw [hl]
          exact ⟨by rw [h2, List.append_assoc, List.take_append_drop], h1⟩
        · rw [if_neg hn] at hr; cases hr
      · cases hr
    · cases h
theorem textS_of (k : RKey) (r : List UInt8) (hk : k.length < 18446744073709551616) : textS (some (codeText k ++ r)) = (k, some r) := by
  have h : rdF (codeText k ++ r) 9 = some (k.length, k ++ r) := rd_iff.2 ⟨hk, by unfold codeText; rw [List.append_assoc]⟩
  unfold textS rdT
  dsimp only
  rw [h]
  dsimp only
  rw [if_pos (by simp)]
  simp
def szS : RdSt → Nat
  | none => 0
  | some r => r.length + 1
theorem numS_sz (s : RdSt) : szS (numS s).2 ≤ szS s ∧ ∀ b, s = some b → szS (numS s).2 < szS s := by
  cases s with
  | none => exact ⟨Nat.le_refl _, nofun⟩
  | some b =>
    suffices h : szS (numS (some b)).2 < szS (some b) from ⟨Nat.le_of_lt h, fun _ _ => h⟩
    cases h : (numS (some b)).2 with
    | none => simp [szS]
    | some r =>
      have := (numS_some (s := some b) (x := (numS (some b)).1) (r := r) (by rw [← h])).1
      have hl := congrArg List.length (Option.some.inj this)
      rw [List.length_append] at hl
      have := uvar_pos (numS (some b)).1.toNat
      simp only [szS]
      omega
theorem textS_sz (s : RdSt) : szS (textS s).2 ≤ szS s ∧ (∀ b, s = some b → szS (textS s).2 < szS s) ∧ (textS s).1.length ≤ szS s := by
  cases s with
  | none => exact ⟨Nat.le_refl _, nofun, Nat.zero_le _⟩
  | some b =>
    suffices h : szS (textS (some b)).2 < szS (some b) ∧ (textS (some b)).1.length ≤ szS (some b) from ⟨Nat.le_of_lt h.1, fun _ _ => h.1, h.2⟩
    cases h : (textS (some b)).2 with
    | none =>
      refine ⟨by simp [szS], ?_⟩
      have : (textS (some b)).1 = [] := by
        unfold textS at h ⊢
        dsimp only at h ⊢
        split at h
        · cases h
        · rfl
      rw [this]
      simp
    | some r =>
      have := (textS_some (s := some b) (k := (textS (some b)).1) (r := r) (by rw [← h])).1
      have hl := congrArg List.length (Option.some.inj this)
      unfold codeText at hl
      rw [List.length_append, List.length_append] at hl
      have := uvar_pos (textS (some b)).1.length
      simp only [szS]
      omega
def ItB (n : Nat) (x : RIt) : Prop := x.key.length ≤ n ∧ (0 ≤ x.dev ∧ x.dev ≤ 1099511627776) ∧ (0 ≤ x.seq ∧ x.seq ≤ 1099511627776) ∧ 0 ≤ x.val ∧ x.val ≤ 1099511627776
def GoB (n : Nat) (x : RGo) : Prop := x.key.length ≤ n ∧ (0 ≤ x.dev ∧ x.dev ≤ 1099511627776) ∧ 0 ≤ x.seq ∧ x.seq ≤ 1099511627776
theorem itemS_sz (b : List UInt8) : szS (itemS (some b)).2 < szS (some b) ∧ ItB (szS (some b)) (itemS (some b)).1 := by
  have h1 := textS_sz (some b)
  have h2 := numS_sz (textS (some b)).2
  have h3 := numS_sz (numS (textS (some b)).2).2
  have h4 := numS_sz (numS (numS (textS (some b)).2).2).2
  have := h1.2.1 b rfl
  exact ⟨by unfold itemS; dsimp only; omega, h1.2.2, numS_bnd _, numS_bnd _, numS_bnd _⟩
theorem goneS_sz (b : List UInt8) : szS (goneS (some b)).2 < szS (some b) ∧ GoB (szS (some b)) (goneS (some b)).1 := by
  have h1 := textS_sz (some b)
  have h2 := numS_sz (textS (some b)).2
  have h3 := numS_sz (numS (textS (some b)).2).2
  have := h1.2.1 b rfl
  exact ⟨by unfold goneS; dsimp only; omega, h1.2.2, numS_bnd _, numS_bnd _⟩

/-! a code that was read to its end is the code of what was read -/
theorem itemS_some {s : RdSt} {x : RIt} {r : List UInt8} (h : itemS s = (x, some r)) : s = some (codeIt x ++ r) := by
  unfold itemS at h
  obtain ⟨rfl, h4⟩ := Prod.mk.inj h
  cases e3 : (numS (numS (textS s).2).2).2 with
  | none => rw [e3] at h4; cases h4
  | some r3 =>
    cases e2 : (numS (textS s).2).2 with
    | none => rw [e2] at e3; cases e3
    | some r2 =>
      cases e1 : (textS s).2 with
      | none => rw [e1] at e2; cases e2
      | some r1 =>
        have a1 := (textS_some (s := s) (k := (textS s).1) (r := r1) (by rw [← e1])).1
        have a2 := (numS_some (s := (textS s).2) (x := (numS (textS s).2).1) (r := r2) (by rw [← e2])).1
        have a3 := (numS_some (s := (numS (textS s).2).2) (x := (numS (numS (textS s).2).2).1) (r := r3) (by rw [← e3])).1
        have a4 := (numS_some (s := (numS (numS (textS s).2).2).2) (x := (numS (numS (numS (textS s).2).2).2).1) (r := r) (by rw [← h4])).1
        have b1 := Option.some.inj (e1.symm.trans a2)
        have b2 := Option.some.inj (e2.symm.trans a3)
        have b3 := Option.some.inj (e3.symm.trans a4)
        refine a1.trans (congrArg some ?_)
        unfold codeIt
        dsimp only
        simp only [List.append_assoc]
        rw [← e3, ← e2, ← e1]
        exact congrArg (codeText (textS s).1 ++ ·) (b1.trans (congrArg (uvar (numS (textS s).2).1.toNat ++ ·) (b2.trans (congrArg (uvar (numS (numS (textS s).2).2).1.toNat ++ ·) b3))))
theorem goneS_some {s : RdSt} {x : RGo} {r : List UInt8} (h : goneS s = (x, some r)) : s = some (codeGo x ++ r) := by
  unfold goneS at h
  obtain ⟨rfl, h4⟩ := Prod.mk.inj h
  cases e2 : (numS (textS s).2).2 with
  | none => rw [e2] at h4; cases h4
  | some r2 =>
    cases e1 : (textS s).2 with
    | none => rw [e1] at e2; cases e2
    | some r1 =>
      have a1 := (textS_some (s := s) (k := (textS s).1) (r := r1) (by rw [← e1])).1
      have a2 := (numS_some (s := (textS s).2) (x := (numS (textS s).2).1) (r := r2) (by rw [← e2])).1
      have a3 := (numS_some (s := (numS (textS s).2).2) (x := (numS (numS (textS s).2).2).1) (r := r) (by rw [← h4])).1
      have b1 := Option.some.inj (e1.symm.trans a2)
      have b2 := Option.some.inj (e2.symm.trans a3)
      refine a1.trans (congrArg some ?_)
      unfold codeGo
      dsimp only
      simp only [List.append_assoc]
      rw [← e2, ← e1]
      exact congrArg (codeText (textS s).1 ++ ·) (b1.trans (congrArg (uvar (numS (textS s).2).1.toNat ++ ·) b2))
theorem seenL_some : ∀ (n : Nat) (l : List Int) (s : RdSt) (l' : List Int) (r : List UInt8), seenL n (l, s) = (l', some r) → ∃ k, l' = l ++ k ∧ k.length = n ∧ s = some (k.flatMap (fun n => uvar n.toNat) ++ r)
  | 0, l, s, l', r, h => by
    obtain ⟨rfl, rfl⟩ := Prod.mk.inj h
    exact ⟨[], by simp, rfl, by simp⟩
  | n + 1, l, s, l', r, h => by
    rw [seenL] at h
    obtain ⟨k, rfl, hk, hs⟩ := seenL_some n _ _ l' r h
    have a := (numS_some (s := s) (x := (numS s).1) (r := k.flatMap (fun n => uvar n.toNat) ++ r) (by rw [← hs])).1
    exact ⟨(numS s).1 :: k, by simp, by simp [hk], a.trans (congrArg some (by simp))⟩
theorem seenL_len : ∀ (n : Nat) (p : List Int × RdSt), (seenL n p).1.length = p.1.length + n
  | 0, p => rfl
  | n + 1, p => by rw [seenL, seenL_len n]; simp; omega
theorem manyL_code {α : Type} {one : RdSt → α × RdSt} {code : α → List UInt8} (ho : ∀ s x r, one s = (x, some r) → s = some (code x ++ r)) : ∀ (n : Nat) (l : List α) (s : RdSt) (l' : List α) (r : List UInt8), manyL one n (l, s) = (l', some r) → ∃ k, l' = l ++ k ∧ k.length = n ∧ s = some (k.flatMap code ++ r)
  | 0, l, s, l', r, h => by
    obtain ⟨rfl, rfl⟩ := Prod.mk.inj h
    exact ⟨[], by simp, rfl, by simp⟩
  | n + 1, l, none, l', r, h => by rw [manyL_none] at h; cases h
  | n + 1, l, some b, l', r, h => by
    rw [manyL_some] at h
    obtain ⟨k, rfl, hk, hs⟩ := manyL_code ho n _ _ l' r h
    have a := ho (some b) (one (some b)).1 (k.flatMap code ++ r) (by rw [← hs])
    exact ⟨(one (some b)).1 :: k, by simp, by simp [hk], a.trans (congrArg some (by simp))⟩
theorem dec_code {b : List UInt8} (h : (dec3 b).2 = some []) : codeR (decM b) = b := by
  have h3 : manyL goneS (numS (dec2 b).2).1.toNat ([], (numS (dec2 b).2).2) = ((dec3 b).1, some []) := by rw [← h]; rfl
  obtain ⟨k3, e3, l3, s3⟩ := manyL_code (code := codeGo) (fun s x r => goneS_some) _ _ _ _ _ h3
  have n2 := numS_some (s := (dec2 b).2) (x := (numS (dec2 b).2).1) (r := k3.flatMap codeGo ++ []) (by rw [← s3])
  have h2 : manyL itemS (numS (dec1 b).2).1.toNat ([], (numS (dec1 b).2).2) = ((dec2 b).1, some (uvar (numS (dec2 b).2).1.toNat ++ (k3.flatMap codeGo ++ []))) := by rw [← n2.1]; rfl
  obtain ⟨k2, e2, l2, s2⟩ := manyL_code (code := codeIt) (fun s x r => itemS_some) _ _ _ _ _ h2
  have n1 := numS_some (s := (dec1 b).2) (x := (numS (dec1 b).2).1) (r := _) (by rw [← s2])
  have h1 : seenL 8 ([], some b) = ((dec1 b).1, some (uvar (numS (dec1 b).2).1.toNat ++ (k2.flatMap codeIt ++ (uvar (numS (dec2 b).2).1.toNat ++ (k3.flatMap codeGo ++ []))))) := by rw [← n1.1]; rfl
  obtain ⟨k1, e1, l1, s1⟩ := seenL_some _ _ _ _ _ h1
  simp only [List.nil_append] at e1 e2 e3
  unfold codeR decM
  dsimp only
  rw [e1, e2, e3, l2, l3]
  have := Option.some.inj s1
  simp only [List.append_nil] at this
  exact this.symm

/-! the code of a valid map is read -/
theorem seenL_of : ∀ (k l : List Int) (r : List UInt8), (∀ n ∈ k, 0 ≤ n ∧ n ≤ 1099511627776) → seenL k.length (l, some (k.flatMap (fun n => uvar n.toNat) ++ r)) = (l ++ k, some r)
  | [], l, r, _ => by simp [seenL]
  | x :: k, l, r, h => by
    have hx := h x List.mem_cons_self
    rw [List.length_cons, seenL]
    dsimp only
    rw [List.flatMap_cons, List.append_assoc, numS_of x _ hx.1 hx.2]
    dsimp only
    rw [seenL_of k _ r fun y hy => h y (List.mem_cons_of_mem _ hy)]
    simp
theorem manyL_of {α : Type} {one : RdSt → α × RdSt} {code : α → List UInt8} {P : α → Prop} (ho : ∀ x r, P x → one (some (code x ++ r)) = (x, some r)) : ∀ (k l : List α) (r : List UInt8), (∀ x ∈ k, P x) → manyL one k.length (l, some (k.flatMap code ++ r)) = (l ++ k, some r)
  | [], l, r, _ => by simp [manyL]
  | x :: k, l, r, h => by
    rw [List.length_cons, manyL_some, List.flatMap_cons, List.append_assoc, ho x _ (h x List.mem_cons_self)]
    dsimp only
    rw [manyL_of ho k _ r fun y hy => h y (List.mem_cons_of_mem _ hy)]
    simp
def itG (x : RIt) : Prop := x.key.length < 18446744073709551616 ∧ (0 ≤ x.dev ∧ x.dev ≤ 1099511627776) ∧ (0 ≤ x.seq ∧ x.seq ≤ 1099511627776) ∧ 0 ≤ x.val ∧ x.val ≤ 1099511627776
def goG (x : RGo) : Prop := x.key.length < 18446744073709551616 ∧ (0 ≤ x.dev ∧ x.dev ≤ 1099511627776) ∧ 0 ≤ x.seq ∧ x.seq ≤ 1099511627776
theorem itemS_of (x : RIt) (r : List UInt8) (h : itG x) : itemS (some (codeIt x ++ r)) = (x, some r) := by
  obtain ⟨h1, h2, h3, h4⟩ := h
  unfold itemS codeIt
  simp only [List.append_assoc]
  rw [textS_of _ _ h1]
  dsimp only
  rw [numS_of _ _ h2.1 h2.2]
  dsimp only
  rw [numS_of _ _ h3.1 h3.2]
  dsimp only
  rw [numS_of _ _ h4.1 h4.2]
theorem goneS_of (x : RGo) (r : List UInt8) (h : goG x) : goneS (some (codeGo x ++ r)) = (x, some r) := by
  obtain ⟨h1, h2, h3⟩ := h
  unfold goneS codeGo
  simp only [List.append_assoc]
  rw [textS_of _ _ h1]
  dsimp only
  rw [numS_of _ _ h2.1 h2.2]
  dsimp only
  rw [numS_of _ _ h3.1 h3.2]
theorem dec_of {m : RMap} (h : validR m = true) : decM (codeR m) = m ∧ (dec3 (codeR m)).2 = some [] := by
  obtain ⟨n1, n2, n3⟩ := valid_nums h
  obtain ⟨l1, l2, l3, -⟩ := valid_lens h
  have e1 : dec1 (codeR m) = (m.seen, some (uvar m.items.length ++ (m.items.flatMap codeIt ++ (uvar m.gone.length ++ m.gone.flatMap codeGo)))) := by
    unfold dec1 codeR
    rw [← l1, seenL_of _ _ _ n1]
    simp
  have e2 : dec2 (codeR m) = (m.items, some (uvar m.gone.length ++ m.gone.flatMap codeGo)) := by
    unfold dec2
    rw [e1]
    dsimp only
    have := numS_of (m.items.length : Int) (m.items.flatMap codeIt ++ (uvar m.gone.length ++ m.gone.flatMap codeGo)) (by omega) (by omega)
    rw [Int.toNat_natCast] at this
    rw [this]
    dsimp only
    rw [Int.toNat_natCast, manyL_of (P := itG) itemS_of _ _ _ fun x hx => by have := n2 x hx; unfold itG; omega]
    simp
  have e3 : dec3 (codeR m) = (m.gone, some []) := by
    unfold dec3
    rw [e2]
    dsimp only
    have := numS_of (m.gone.length : Int) (m.gone.flatMap codeGo) (by omega) (by omega)
    rw [Int.toNat_natCast] at this
    rw [this]
    dsimp only
    have h3 := manyL_of (P := goG) goneS_of m.gone [] [] fun x hx => by have := n3 x hx; unfold goG; omega
    rw [List.append_nil] at h3
    rw [Int.toNat_natCast, h3]
    simp
  exact ⟨by unfold decM; rw [e1, e2, e3], by rw [e3]⟩
theorem decR_of {m : RMap} (h : validR m = true) : decR (codeR m) = (m, 0) := by
  obtain ⟨h1, h2⟩ := dec_of h
  unfold decR
  rw [h1, h2, if_pos ⟨rfl, h⟩]
theorem decR_ok {b : List UInt8} (h : (decR b).2 = 0) : validR (decR b).1 = true ∧ codeR (decR b).1 = b := by
  unfold decR at h ⊢
  split
  · rename_i hh
    exact ⟨hh.2, dec_code hh.1⟩
  · rename_i hh
    rw [if_neg hh] at h
    cases h
theorem decR_or (b : List UInt8) : (decR b).2 = 0 ∨ decR b = (.empty, 5) := by
  unfold decR
  split
  · exact .inl rfl
  · exact .inr rfl
end Go.Proofs.YtkkacnfpdafadaaGreatDoor
