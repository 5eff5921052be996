/-
  KMath
-/
import Derived.Lib.ValidU
import Derived.Lib.TrimUEq
namespace Go.Proofs.YtohahloghmanpaaGreatDoor
set_option linter.unusedVariables false
set_option maxRecDepth 20000

/-! UTF-8, as the reference reads it: the character at the head of l, and how many bytes it has; 0, 0: there is none -/
def rLen (b : Nat) : Nat × Nat := if b < 128 then (1, b) else if 192 ≤ b ∧ b < 224 then (2, b - 192) else if 224 ≤ b ∧ b < 240 then (3, b - 224) else if 240 ≤ b ∧ b < 248 then (4, b - 240) else (0, 0)
def rCh (c : Nat) : Bool := decide (c ≤ 1114111 ∧ (c < 55296 ∨ 57343 < c))
def rCont (b : Nat) : Bool := decide (128 ≤ b ∧ b ≤ 191)
def rNextN (n b0 b1 b2 b3 : Nat) : Nat × Nat :=
  if b0 < 128 then (b0, 1)
  else if 192 ≤ b0 ∧ b0 < 224 then (if 2 ≤ n ∧ rCont b1 then (let c := 64 * (b0 - 192) + (b1 - 128); if 128 ≤ c ∧ rCh c then (c, 2) else (0, 0)) else (0, 0))
  else if 224 ≤ b0 ∧ b0 < 240 then (if 3 ≤ n ∧ rCont b1 ∧ rCont b2 then (let c := 64 * (64 * (b0 - 224) + (b1 - 128)) + (b2 - 128); if 2048 ≤ c ∧ rCh c then (c, 3) else (0, 0)) else (0, 0))
  else if 240 ≤ b0 ∧ b0 < 248 then (if 4 ≤ n ∧ rCont b1 ∧ rCont b2 ∧ rCont b3 then (let c := 64 * (64 * (64 * (b0 - 240) + (b1 - 128)) + (b2 - 128)) + (b3 - 128); if 65536 ≤ c ∧ rCh c then (c, 4) else (0, 0)) else (0, 0))
  else (0, 0)
theorem rNext_decode (n b0 b1 b2 b3 : Nat) (h0 : b0 < 256) (h1 : b1 < 256) (h2 : b2 < 256) (h3 : b3 < 256) :
    ((rNextN n b0 b1 b2 b3).2 = 0 ↔ Lib.decodeN n b0 b1 b2 b3 = (65533, 1)) ∧ ((rNextN n b0 b1 b2 b3).2 ≠ 0 → rNextN n b0 b1 b2 b3 = Lib.decodeN n b0 b1 b2 b3) := by
  have e1 : ∀ b : Nat, b < 256 → (rCont b = true ↔ b / 64 = 2) := fun b hb => by unfold rCont; simp only [decide_eq_true_eq]; omega
  have p6 : (b0 / 32 = 6) ↔ (192 ≤ b0 ∧ b0 < 224) := by omega
  have p14 : (b0 / 16 = 14) ↔ (224 ≤ b0 ∧ b0 < 240) := by omega
  have p30 : (b0 / 8 = 30) ↔ (240 ≤ b0 ∧ b0 < 248) := by omega
  unfold rNextN Lib.decodeN
  by_cases c0 : b0 < 128
  · simp [c0]; omega
  · simp only [if_neg c0]
    by_cases c2 : 192 ≤ b0 ∧ b0 < 224
    · by_cases cc : 1 < n ∧ b1 / 64 = 2
      · have q1 : 2 ≤ n ∧ rCont b1 = true := ⟨cc.1, (e1 b1 h1).2 cc.2⟩
        have ev : b0 % 32 * 64 + b1 % 64 = 64 * (b0 - 192) + (b1 - 128) := by omega
        simp only [if_pos c2, if_pos q1, if_pos (And.intro (p6.2 c2) cc), ev, rCh, decide_eq_true_eq]
        by_cases h : 128 ≤ 64 * (b0 - 192) + (b1 - 128)
        · have h' : 64 * (b0 - 192) + (b1 - 128) ≤ 1114111 ∧ (64 * (b0 - 192) + (b1 - 128) < 55296 ∨ 57343 < 64 * (b0 - 192) + (b1 - 128)) := by omega
          simp [h, h']
        · simp [h]
      · have q1 : ¬ (2 ≤ n ∧ rCont b1 = true) := fun h => cc ⟨h.1, (e1 b1 h1).1 h.2⟩
        have q2 : ¬ (b0 / 32 = 6 ∧ (1 < n ∧ b1 / 64 = 2)) := fun h => cc h.2
        have q3 : ¬ (b0 / 16 = 14 ∧ (1 < n ∧ b1 / 64 = 2) ∧ (2 < n ∧ b2 / 64 = 2)) := fun h => by omega
        have q4 : ¬ (b0 / 8 = 30 ∧ (1 < n ∧ b1 / 64 = 2) ∧ (2 < n ∧ b2 / 64 = 2) ∧ (3 < n ∧ b3 / 64 = 2)) := fun h => by omega
        simp [if_pos c2, if_neg q1, if_neg q2, if_neg q3, if_neg q4]
    · have q2 : ¬ (b0 / 32 = 6 ∧ (1 < n ∧ b1 / 64 = 2)) := fun h => c2 (p6.1 h.1)
      simp only [if_neg c2, if_neg q2]
      by_cases c3 : 224 ≤ b0 ∧ b0 < 240
      · by_cases cc : (1 < n ∧ b1 / 64 = 2) ∧ (2 < n ∧ b2 / 64 = 2)
        · have q1 : 3 ≤ n ∧ rCont b1 = true ∧ rCont b2 = true := ⟨by omega, (e1 b1 h1).2 cc.1.2, (e1 b2 h2).2 cc.2.2⟩
          have ev : b0 % 16 * 4096 + b1 % 64 * 64 + b2 % 64 = 64 * (64 * (b0 - 224) + (b1 - 128)) + (b2 - 128) := by omega
          simp only [if_pos c3, if_pos q1, if_pos (And.intro (p14.2 c3) cc), ev, rCh, decide_eq_true_eq]
          generalize hc : 64 * (64 * (b0 - 224) + (b1 - 128)) + (b2 - 128) = c
          have hcl : c < 65536 := by omega
          by_cases h : 2048 ≤ c ∧ (c < 55296 ∨ 57343 < c)
          · have h' : 2048 ≤ c ∧ (c ≤ 1114111 ∧ (c < 55296 ∨ 57343 < c)) := by omega
            have h'' : c ≥ 2048 ∧ (c < 55296 ∨ 57344 ≤ c ∧ c ≤ 1114111) := by omega
            simp only [if_pos h']
            rw [if_pos (by omega)]
            simp
          · have h' : ¬ (2048 ≤ c ∧ (c ≤ 1114111 ∧ (c < 55296 ∨ 57343 < c))) := by omega
            simp only [if_neg h']
            rw [if_neg (by omega)]
            simp
        · have q1 : ¬ (3 ≤ n ∧ rCont b1 = true ∧ rCont b2 = true) := fun h => cc ⟨⟨by omega, (e1 b1 h1).1 h.2.1⟩, ⟨by omega, (e1 b2 h2).1 h.2.2⟩⟩
          have q3 : ¬ (b0 / 16 = 14 ∧ (1 < n ∧ b1 / 64 = 2) ∧ (2 < n ∧ b2 / 64 = 2)) := fun h => cc h.2
          have q4 : ¬ (b0 / 8 = 30 ∧ (1 < n ∧ b1 / 64 = 2) ∧ (2 < n ∧ b2 / 64 = 2) ∧ (3 < n ∧ b3 / 64 = 2)) := fun h => by omega
          simp [if_pos c3, if_neg q1, if_neg q3, if_neg q4]
      · have q3 : ¬ (b0 / 16 = 14 ∧ (1 < n ∧ b1 / 64 = 2) ∧ (2 < n ∧ b2 / 64 = 2)) := fun h => c3 (p14.1 h.1)
        simp only [if_neg c3, if_neg q3]
        by_cases c4 : 240 ≤ b0 ∧ b0 < 248
        · by_cases cc : (1 < n ∧ b1 / 64 = 2) ∧ (2 < n ∧ b2 / 64 = 2) ∧ (3 < n ∧ b3 / 64 = 2)
          · have q1 : 4 ≤ n ∧ rCont b1 = true ∧ rCont b2 = true ∧ rCont b3 = true := ⟨by omega, (e1 b1 h1).2 cc.1.2, (e1 b2 h2).2 cc.2.1.2, (e1 b3 h3).2 cc.2.2.2⟩
            have ev : b0 % 8 * 262144 + b1 % 64 * 4096 + b2 % 64 * 64 + b3 % 64 = 64 * (64 * (64 * (b0 - 240) + (b1 - 128)) + (b2 - 128)) + (b3 - 128) := by omega
            simp only [if_pos c4, if_pos q1, if_pos (And.intro (p30.2 c4) cc), ev, rCh, decide_eq_true_eq]
            generalize hc : 64 * (64 * (64 * (b0 - 240) + (b1 - 128)) + (b2 - 128)) + (b3 - 128) = c
            by_cases h : 65536 ≤ c ∧ c ≤ 1114111
            · have h' : 65536 ≤ c ∧ (c ≤ 1114111 ∧ (c < 55296 ∨ 57343 < c)) := by omega
              simp only [if_pos h']
              rw [if_pos (by omega)]
              simp
            · have h' : ¬ (65536 ≤ c ∧ (c ≤ 1114111 ∧ (c < 55296 ∨ 57343 < c))) := by omega
              simp only [if_neg h']
              rw [if_neg (by omega)]
              simp
          · have q1 : ¬ (4 ≤ n ∧ rCont b1 = true ∧ rCont b2 = true ∧ rCont b3 = true) := fun h => cc ⟨⟨by omega, (e1 b1 h1).1 h.2.1⟩, ⟨by omega, (e1 b2 h2).1 h.2.2.1⟩, ⟨by omega, (e1 b3 h3).1 h.2.2.2⟩⟩
            have q4 : ¬ (b0 / 8 = 30 ∧ (1 < n ∧ b1 / 64 = 2) ∧ (2 < n ∧ b2 / 64 = 2) ∧ (3 < n ∧ b3 / 64 = 2)) := fun h => cc h.2
            simp [if_neg q1, if_neg q4]
        · have q4 : ¬ (b0 / 8 = 30 ∧ (1 < n ∧ b1 / 64 = 2) ∧ (2 < n ∧ b2 / 64 = 2) ∧ (3 < n ∧ b3 / 64 = 2)) := fun h => c4 (p30.1 h.1)
          simp [if_neg c4, if_neg q4]

def rNext (l : List UInt8) : Nat × Nat := rNextN l.length (l.getD 0 0).toNat (l.getD 1 0).toNat (l.getD 2 0).toNat (l.getD 3 0).toNat
theorem rNext_zero (l : List UInt8) : (rNext l).2 = 0 ↔ Lib.decodeL l = (65533, 1) := by
  rw [Lib.decodeL_N]
  exact (rNext_decode _ _ _ _ _ (UInt8.toNat_lt _) (UInt8.toNat_lt _) (UInt8.toNat_lt _) (UInt8.toNat_lt _)).1
theorem rNext_eq (l : List UInt8) (h : (rNext l).2 ≠ 0) : rNext l = Lib.decodeL l := by
  rw [Lib.decodeL_N]
  exact (rNext_decode _ _ _ _ _ (UInt8.toNat_lt _) (UInt8.toNat_lt _) (UInt8.toNat_lt _) (UInt8.toNat_lt _)).2 h

def rValid : Nat → List UInt8 → Bool
  | 0, _ => true
  | n + 1, l => if l = [] then true else if (rNext l).2 = 0 then false else rValid n (l.drop (rNext l).2)
theorem rValid_go : ∀ (n : Nat) (l : List UInt8), rValid n l = Lib.validGoD n l
  | 0, _ => rfl
  | n + 1, l => by
    unfold rValid Lib.validGoD
    by_cases hl : l = []
    · simp [hl]
    · rw [if_neg hl, if_neg hl]
      by_cases h : (rNext l).2 = 0
      · have := (rNext_zero l).1 h
        rw [if_pos h, if_pos (by rw [this]; exact ⟨rfl, rfl⟩)]
      · have hn : ¬ ((Lib.decodeL l).1 = 65533 ∧ (Lib.decodeL l).2 = 1) := fun e => h ((rNext_zero l).2 (Prod.ext e.1 e.2))
        rw [if_neg h, if_neg hn, rNext_eq l h, rValid_go n]

/-! keys -/
def partOk (s : List UInt8) : Bool := decide (s ≠ []) && Lib.validD s && decide ((0 : UInt8) ∉ s)
def makeOk (kind : Int) (a b : List UInt8) : Bool := decide (kind = 1 ∨ kind = 2) && partOk a && partOk b && decide (a.length + b.length ≤ 398)
def cutA (r : List UInt8) : List UInt8 := r.takeWhile (· != 0)
def cutB (r : List UInt8) : List UInt8 := (r.dropWhile (· != 0)).drop 1
def keyOk : List UInt8 → Bool
  | [] => false
  | c :: r => makeOk ((c.toNat : Int) - 48) (cutA r) (cutB r)

theorem cut_at : ∀ (r : List UInt8) (i : Nat), i < r.length → (∀ j, j < i → r[j]? ≠ some 0) → r[i]? = some 0 → cutA r = r.take i ∧ cutB r = r.drop (i + 1)
  | [], i, h, _, _ => by simp at h
  | c :: r, 0, _, _, h0 => by
    have : c = 0 := by simpa using h0
    subst this
    unfold cutA cutB
    simp
  | c :: r, i + 1, hi, hn, h0 => by
    have hc : c ≠ 0 := by
      have := hn 0 (by omega)
      simpa using this
    obtain ⟨h1, h2⟩ := cut_at r i (by simpa using hi) (fun j hj => by have := hn (j + 1) (by omega); simpa using this) (by simpa using h0)
    unfold cutA cutB at *
    rw [List.takeWhile_cons, List.dropWhile_cons]
    simp [hc, h1, h2]
theorem cut_none (r : List UInt8) (h : (0 : UInt8) ∉ r) : cutA r = r ∧ cutB r = [] := by
  induction r with
  | nil => exact ⟨rfl, rfl⟩
  | cons c r ih =>
    have hc : c ≠ 0 := fun e => h (by simp [e])
    obtain ⟨h1, h2⟩ := ih (fun hm => h (List.mem_cons_of_mem _ hm))
    unfold cutA cutB at *
    rw [List.takeWhile_cons, List.dropWhile_cons]
    simp [hc, h1, h2]
theorem part_nil : partOk [] = false := by simp [partOk]
theorem part_zero (s : List UInt8) (h : (0 : UInt8) ∈ s) : partOk s = false := by simp [partOk, h]
theorem keyOk_iff (c : UInt8) (r : List UInt8) : keyOk (c :: r) = true ↔ ∃ i, i < r.length ∧ r[i]? = some 0 ∧ makeOk ((c.toNat : Int) - 48) (r.take i) (r.drop (i + 1)) = true := by
  show makeOk _ (cutA r) (cutB r) = true ↔ _
  by_cases h : (0 : UInt8) ∈ r
  · obtain ⟨i, hi, h0, hn⟩ : ∃ i, ∃ _ : i < r.length, r[i]? = some 0 ∧ ∀ j, j < i → r[j]? ≠ some 0 := by
      refine ⟨r.findIdx (· == 0), List.findIdx_lt_length_of_exists ⟨0, h, by simp⟩, ?_, fun j hj hc => ?_⟩
      · have := List.findIdx_getElem (xs := r) (p := (· == 0)) (w := List.findIdx_lt_length_of_exists ⟨0, h, by simp⟩)
        rw [List.getElem?_eq_getElem (List.findIdx_lt_length_of_exists ⟨0, h, by simp⟩)]
        simpa using this
      · have hjl := (List.getElem?_eq_some_iff.1 hc).1
        have := List.not_of_lt_findIdx (xs := r) (p := (· == 0)) hj
        have h2 := (List.getElem?_eq_some_iff.1 hc).2
        simp [h2] at this
    obtain ⟨e1, e2⟩ := cut_at r i hi hn h0
    rw [e1, e2]
    refine ⟨fun hm => ⟨i, hi, h0, hm⟩, ?_⟩
    rintro ⟨j, hj, hj0, hm⟩
    rcases Nat.lt_trichotomy j i with hlt | heq | hgt
    · exact absurd hj0 (hn j hlt)
    · exact heq ▸ hm
    · exfalso
      have hmem : (0 : UInt8) ∈ r.take j := by
        have : (r.take j)[i]? = some 0 := by rw [List.getElem?_take, if_pos hgt]; exact h0
        exact List.mem_of_getElem? this
      simp [makeOk, part_zero _ hmem] at hm
  · obtain ⟨e1, e2⟩ := cut_none r h
    rw [e1, e2]
    constructor
    · intro hm
      simp [makeOk, part_nil] at hm
    · rintro ⟨j, hj, hj0, hm⟩
      exact absurd (List.mem_of_getElem? hj0) h
end Go.Proofs.YtohahloghmanpaaGreatDoor
