/- Plain arithmetic of the layer decay: a count that loses its 256th part at each event. No condition but those that each lemma names. -/
namespace Go.Proofs.YteadnkdkkhicfaaGreatDoor.DM

/-- a count after one event -/
def stp (v : Int) : Int := v - (v + 255) / 256

/-- a count after n events -/
def aft : Nat → Int → Int
  | 0, v => v
  | n + 1, v => if 0 < v then aft n (stp v) else v

/-- how many events until nothing is left, f: fuel -/
def lif : Nat → Int → Nat
  | 0, _ => 0
  | f + 1, v => if 0 < v then lif f (stp v) + 1 else 0

def life (v : Int) : Nat := lif v.toNat v

/-- a number as a count -/
def bnd (v : Int) : Int := min (max v 0) 1099511627776

theorem bnd_nonneg (v : Int) : 0 ≤ bnd v := by unfold bnd; omega
theorem bnd_le (v : Int) : bnd v ≤ 1099511627776 := by unfold bnd; omega
theorem bnd_id (v : Int) (h : 0 ≤ v) (h2 : v ≤ 1099511627776) : bnd v = v := by unfold bnd; omega

theorem stp_nonneg (v : Int) (h : 0 ≤ v) : 0 ≤ stp v := by unfold stp; omega
theorem stp_lt (v : Int) (h : 0 < v) : stp v < v := by unfold stp; omega
theorem stp_le (v : Int) (h : 0 ≤ v) : stp v ≤ v := by unfold stp; omega
theorem stp_mono (a b : Int) (h : a ≤ b) : stp a ≤ stp b := by unfold stp; omega
theorem stp_mul (v : Int) : v * 255 / 256 = stp v := by unfold stp; omega
theorem stp_sum_le (a b : Int) : stp a + stp b ≤ stp (a + b) := by unfold stp; omega
theorem stp_sum_ge (a b : Int) : stp (a + b) - 1 ≤ stp a + stp b := by unfold stp; omega

theorem aft_zero_of (n : Nat) (v : Int) (h : ¬ 0 < v) : aft n v = v := by
  cases n with
  | zero => rfl
  | succ n => simp [aft, h]

theorem aft_succ_pos (n : Nat) (v : Int) (h : 0 < v) : aft (n + 1) v = aft n (stp v) := by simp [aft, h]

theorem aft_nonneg (n : Nat) : ∀ v : Int, 0 ≤ v → 0 ≤ aft n v := by
  induction n with
  | zero => intro v h; exact h
  | succ n ih =>
    intro v h
    unfold aft
    split
    · exact ih _ (stp_nonneg v h)
    · exact h

theorem aft_le (n : Nat) : ∀ v : Int, 0 ≤ v → aft n v ≤ v := by
  induction n with
  | zero => intro v _; exact Int.le_refl _
  | succ n ih =>
    intro v h
    unfold aft
    split
    · have := ih _ (stp_nonneg v h)
      have := stp_le v h
      omega
    · exact Int.le_refl _

/-- the last event by itself -/
theorem aft_succ' (n : Nat) : ∀ v : Int, aft (n + 1) v = if 0 < aft n v then stp (aft n v) else aft n v := by
  induction n with
  | zero => intro v; rfl
  | succ n ih =>
    intro v
    by_cases h : 0 < v
    · rw [aft_succ_pos (n + 1) v h, ih, aft_succ_pos n v h]
    · rw [aft_zero_of _ v h, aft_zero_of _ v h, if_neg h]

theorem aft_add (m n : Nat) : ∀ v : Int, aft n (aft m v) = aft (m + n) v := by
  induction m with
  | zero => intro v; simp [aft]
  | succ m ih =>
    intro v
    by_cases h : 0 < v
    · rw [aft_succ_pos m v h, ih, show m + 1 + n = (m + n) + 1 from by omega, aft_succ_pos _ v h]
    · rw [aft_zero_of _ v h, aft_zero_of _ v h, aft_zero_of _ v h]

theorem aft_mono (n : Nat) : ∀ a b : Int, 0 ≤ a → a ≤ b → aft n a ≤ aft n b := by
  induction n with
  | zero => intro a b _ h; exact h
  | succ n ih =>
    intro a b h0 h
    by_cases ha : 0 < a
    · rw [aft_succ_pos n a ha, aft_succ_pos n b (by omega)]
      exact ih _ _ (stp_nonneg a h0) (stp_mono a b h)
    · rw [aft_zero_of _ a ha]
      have := aft_nonneg (n + 1) b (by omega)
      omega

theorem aft_more (m n : Nat) (v : Int) (h : 0 ≤ v) (hm : m ≤ n) : aft n v ≤ aft m v := by
  obtain ⟨k, rfl⟩ : ∃ k, n = m + k := ⟨n - m, by omega⟩
  rw [← aft_add]
  exact aft_le _ _ (aft_nonneg _ _ h)

theorem aft_lif (f : Nat) : ∀ v : Int, 0 ≤ v → v.toNat ≤ f → ∀ k, aft k v = 0 ↔ lif f v ≤ k := by
  induction f with
  | zero =>
    intro v h hf k
    obtain rfl : v = 0 := by omega
    rw [aft_zero_of _ _ (by omega)]
    simp [lif]
  | succ f ih =>
    intro v h hf k
    by_cases hv : 0 < v
    · have hs := stp_lt v hv
      have hn := stp_nonneg v h
      simp only [lif, hv, if_true]
      cases k with
      | zero => simp [aft]; omega
      | succ k =>
        rw [aft_succ_pos k v hv, ih _ hn (by omega) k]
        omega
    · obtain rfl : v = 0 := by omega
      rw [aft_zero_of _ _ (by omega)]
      simp [lif]

theorem lif_fuel (f : Nat) : ∀ (g : Nat) (v : Int), 0 ≤ v → v.toNat ≤ f → v.toNat ≤ g → lif f v = lif g v := by
  intro g v h hf hg
  have a := aft_lif f v h hf
  have b := aft_lif g v h hg
  have h1 := (b (lif f v)).1 ((a _).2 (Nat.le_refl _))
  have h2 := (a (lif g v)).1 ((b _).2 (Nat.le_refl _))
  omega

theorem aft_life (v : Int) (h : 0 ≤ v) (k : Nat) : aft k v = 0 ↔ life v ≤ k := aft_lif _ v h (Nat.le_refl _) k

theorem life_pos (v : Int) (h : 0 < v) : life v = life (stp v) + 1 := by
  have hs := stp_lt v h
  have hn := stp_nonneg v (by omega)
  unfold life
  obtain ⟨f, hf⟩ : ∃ f, v.toNat = f + 1 := ⟨v.toNat - 1, by omega⟩
  rw [hf]
  simp only [lif, h, if_true]
  rw [lif_fuel f (stp v).toNat (stp v) hn (by omega) (Nat.le_refl _)]

theorem life_zero : life 0 = 0 := rfl

/-- the same, on natural numbers, in steps of 64 (the kernel reckons it) -/
def nst (v : Nat) : Nat := v - (v + 255) / 256
def nfold : Nat → Nat → Nat
  | 0, v => v
  | n + 1, v => nfold n (nst v)

theorem stp_nst (v : Nat) : stp (v : Int) = (nst v : Int) := by unfold stp nst; omega
theorem aft_nfold (n : Nat) : ∀ v : Nat, aft n (v : Int) = (nfold n v : Int) := by
  induction n with
  | zero => intro v; rfl
  | succ n ih =>
    intro v
    by_cases h : 0 < (v : Int)
    · rw [aft_succ_pos n _ h, stp_nst, ih]; rfl
    · obtain rfl : v = 0 := by omega
      rw [aft_zero_of _ _ h]
      have : ∀ m, nfold m 0 = 0 := by intro m; induction m with
        | zero => rfl
        | succ m im => exact im
      rw [this]

theorem end6000 : nfold 6000 1099511627776 = 0 := by decide +kernel

theorem life_le (v : Int) (h : 0 ≤ v) (h2 : v ≤ 1099511627776) : life v ≤ 6000 := by
  rw [← aft_life v h]
  have a := aft_mono 6000 v 1099511627776 h h2
  have b : aft 6000 1099511627776 = 0 := by
    have := aft_nfold 6000 1099511627776
    rw [end6000] at this
    exact this
  have c := aft_nonneg 6000 v h
  omega

theorem life256 : life 256 = 256 := by decide +kernel

end Go.Proofs.YteadnkdkkhicfaaGreatDoor.DM
