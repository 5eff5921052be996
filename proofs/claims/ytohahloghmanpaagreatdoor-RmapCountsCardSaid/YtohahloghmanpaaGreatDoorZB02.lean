/-
  DecayMath
-/

namespace Go.Proofs.YtohahloghmanpaaGreatDoor.DM

def stp (v : Int) : Int := v - (v + 255) / 256

def aft : Nat → Int → Int
  | 0, v => v
  | n + 1, v => if 0 < v then aft n (stp v) else v

def bnd (v : Int) : Int := min (max v 0) 1099511627776

theorem bnd_nonneg (v : Int) : 0 ≤ bnd v := by unfold bnd; omega
theorem bnd_le (v : Int) : bnd v ≤ 1099511627776 := by unfold bnd; omega
theorem bnd_id (v : Int) (h : 0 ≤ v) (h2 : v ≤ 1099511627776) : bnd v = v := by unfold bnd; omega

theorem stp_nonneg (v : Int) (h : 0 ≤ v) : 0 ≤ stp v := by unfold stp; omega
theorem stp_lt (v : Int) (h : 0 < v) : stp v < v := by unfold stp; omega
theorem stp_le (v : Int) (h : 0 ≤ v) : stp v ≤ v := by unfold stp; omega
theorem stp_mul (v : Int) : v * 255 / 256 = stp v := by unfold stp; omega
theorem aft_zero_of (n : Nat) (v : Int) (h : ¬ 0 < v) : aft n v = v := by
  cases n with
  | zero => rfl
  | succ n => simp [aft, h]

theorem aft_succ_pos (n : Nat) (v : Int) (h : 0 < v) : aft (n + 1) v = aft n (stp v) := by simp [aft, h]

theorem aft_nonneg (n : Nat) : ∀ v : Int, 0 ≤ v → 0 ≤ aft n v := by
  induction n with
  | zero => intro v h; exact h
  | succ n ih =>
    intro v h
    unfold aft
    split
    · exact ih _ (stp_nonneg v h)
    · exact h

theorem aft_le (n : Nat) : ∀ v : Int, 0 ≤ v → aft n v ≤ v := by
  induction n with
  | zero => intro v _; exact Int.le_refl _
  | succ n ih =>
    intro v h
    unfold aft
    split
    · have := ih _ (stp_nonneg v h)
      have := stp_le v h
      omega
    · exact Int.le_refl _

theorem aft_succ' (n : Nat) : ∀ v : Int, aft (n + 1) v = if 0 < aft n v then stp (aft n v) else aft n v := by
  induction n with
  | zero => intro v; rfl
  | succ n ih =>
    intro v
    by_cases h : 0 < v
    · rw [aft_succ_pos (n + 1) v h, ih, aft_succ_pos n v h]
    · rw [aft_zero_of _ v h, aft_zero_of _ v h, if_neg h]

theorem aft_add (m n : Nat) : ∀ v : Int, aft n (aft m v) = aft (m + n) v := by
  induction m with
  | zero => intro v; simp [aft]
  | succ m ih =>
    intro v
    by_cases h : 0 < v
    · rw [aft_succ_pos m v h, ih, show m + 1 + n = (m + n) + 1 from by omega, aft_succ_pos _ v h]
    · rw [aft_zero_of _ v h, aft_zero_of _ v h, aft_zero_of _ v h]

theorem aft_more (m n : Nat) (v : Int) (h : 0 ≤ v) (hm : m ≤ n) : aft n v ≤ aft m v := by
  obtain ⟨k, rfl⟩ : ∃ k, n = m + k := ⟨n - m, by omega⟩
  rw [← aft_add]
  exact aft_le _ _ (aft_nonneg _ _ h)

end Go.Proofs.YtohahloghmanpaaGreatDoor.DM
