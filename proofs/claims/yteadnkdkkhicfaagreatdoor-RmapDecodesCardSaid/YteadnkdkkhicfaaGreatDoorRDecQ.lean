/- How the reference reads a number: it adds up the digits, and looks whether the code of the sum stands there. No program. -/
import Derived.Test.YteadnkdkkhicfaaGreatDoorRDec
namespace Go.Proofs.YteadnkdkkhicfaaGreatDoor
set_option linter.unusedVariables false
set_option maxRecDepth 20000

def digs : List UInt8 → Nat
  | [] => 0
  | c :: t => c.toNat % 128 + 128 * digs t
theorem digs_append : ∀ (a b : List UInt8), digs (a ++ b) = digs a + 128 ^ a.length * digs b
  | [], b => by simp [digs]
  | c :: t, b => by
    show c.toNat % 128 + 128 * digs (t ++ b) = c.toNat % 128 + 128 * digs t + 128 ^ (t.length + 1) * digs b
    rw [digs_append t b, Nat.pow_succ, Nat.mul_add, ← Nat.mul_assoc, Nat.mul_comm 128 (128 ^ t.length)]
    omega
theorem digs_take (D : List UInt8) (i : Nat) (h : i < D.length) : digs (D.take (i + 1)) = digs (D.take i) + 128 ^ i * (D[i].toNat % 128) := by
  rw [List.take_succ_eq_append_getElem h, digs_append]
  have hl : (D.take i).length = i := by simp; omega
  rw [hl]
  simp [digs]
/-- the last byte of a code is below 128, the others are not -/
theorem uvar_digs (n : Nat) (h : n < 18446744073709551616) : digs (uvar n) = n ∧ (∀ i (hi : i < (uvar n).length), (uvar n)[i].toNat < 128 ↔ i + 1 = (uvar n).length) := by
  induction n using Nat.strongRecOn with
  | _ n ih =>
    by_cases h1 : n < 128
    · rw [uvar_small n h1]
      refine ⟨?_, fun i hi => ?_⟩
      · simp only [digs]
        rw [ofNat_toNat8 n (by omega)]
        omega
      · have : i = 0 := by simp at hi; omega
        subst this
        simp only [List.getElem_cons_zero]
        rw [ofNat_toNat8 n (by omega)]
        simp
        exact h1
    · rw [uvar_step n h1 h]
      obtain ⟨k1, k2⟩ := ih (n / 128) (by omega) (by omega)
      refine ⟨?_, fun i hi => ?_⟩
      · simp only [digs]
        rw [ofNat_toNat8 _ (by omega), k1]
        omega
      · cases i with
        | zero =>
          simp only [List.getElem_cons_zero, List.length_cons]
          rw [ofNat_toNat8 _ (by omega)]
          have := uvar_pos (n / 128)
          omega
        | succ i =>
          simp only [List.getElem_cons_succ, List.length_cons]
          have := k2 i (by simpa using hi)
          omega
/-- no end within ten bytes: no number -/
theorem rd_none {D : List UInt8} (h : ∀ i (hi : i < D.length), i < 10 → ¬ D[i].toNat < 128) : rdF D 9 = none := by
  cases hr : rdF D 9 with
  | none => rfl
  | some p =>
    obtain ⟨n, r⟩ := p
    obtain ⟨h1, h2⟩ := rd_iff.1 hr
    have hl := uvar_len n
    have hp := uvar_pos n
    have hi : (uvar n).length - 1 < D.length := by rw [h2, List.length_append]; omega
    have := ((uvar_digs n h1).2 ((uvar n).length - 1) (by omega)).2 (by omega)
    refine absurd ?_ (h _ hi (by omega))
    have e : D[(uvar n).length - 1] = (uvar n)[(uvar n).length - 1]'(by omega) := by
      simp only [h2]
      rw [List.getElem_append_left (by omega)]
    rw [e]; exact this
/-- the first byte below 128 is at i: the sum of the digits decides -/
theorem rd_at {D : List UInt8} {i : Nat} (hi : i < D.length) (h10 : i < 10) (hb : ∀ j (hj : j < D.length), j < i → ¬ D[j].toNat < 128) (he : D[i].toNat < 128) :
    rdF D 9 = if D.take (i + 1) = uvar (digs (D.take (i + 1)) % 18446744073709551616) then some (digs (D.take (i + 1)) % 18446744073709551616, D.drop (i + 1)) else none := by
  split
  · rename_i h
    exact rd_iff.2 ⟨Nat.mod_lt _ (by omega), by rw [← h]; simp⟩
  · rename_i h
    cases hr : rdF D 9 with
    | none => rfl
    | some p =>
      obtain ⟨n, r⟩ := p
      obtain ⟨h1, h2⟩ := rd_iff.1 hr
      obtain ⟨k1, k2⟩ := uvar_digs n h1
      have hp := uvar_pos n
      have hlen : D.length = (uvar n).length + r.length := by rw [h2, List.length_append]
      have key : ∀ j (hj : j < (uvar n).length), (uvar n)[j] = D[j]'(by omega) := fun j hj => by
        simp only [h2]
        rw [List.getElem_append_left hj]
      have hlast : i + 1 = (uvar n).length := by
        by_cases hlt : i < (uvar n).length
        · have := (k2 i hlt).1 (by rw [key i hlt]; exact he)
          exact this
        · have hj : (uvar n).length - 1 < D.length := by omega
          refine absurd ?_ (hb ((uvar n).length - 1) hj (by omega))
          have := (k2 ((uvar n).length - 1) (by omega)).2 (by omega)
          rw [key _ (by omega)] at this
          exact this
      have ht : D.take (i + 1) = uvar n := by rw [h2, hlast]; simp
      rw [ht, k1, Nat.mod_eq_of_lt h1] at h
      exact absurd rfl h
end Go.Proofs.YteadnkdkkhicfaaGreatDoor
