/-
  Ref01
-/
import Derived.Test.YtohahloghmanpaaGreatDoorZB14
namespace Go.Proofs.YtohahloghmanpaaGreatDoor
open Go.RowKit Go.Lib
set_option linter.unusedVariables false
set_option maxRecDepth 20000

theorem rlength_any (w : World) (b : Nat) (hb : b < 256) :
    Calls Tryz.prog 135 #[.int .u8 (b : Int)] w fun e w' => e = .returned (.tuple #[.int .i64 ((rLen b).1 : Int), .int .i32 ((rLen b).2 : Int)]) ∧ w = w' := by
  have hbI : (b : Int) ≤ 255 := by omega
  by_cases h1 : b < 128
  · have e : rLen b = (1, b) := by unfold rLen; rw [if_pos h1]
    have hI : (b : Int) < 128 := by omega
    rw [e]
    clear e
    go_enter Tryz.func135, Tryz.ntmps135
    go_wp2_with fail
    go_ret2
    exact ⟨rfl, rfl⟩
  have hI : ¬ (b : Int) < 128 := by omega
  by_cases h2 : 192 ≤ b ∧ b < 224
  · have e : rLen b = (2, b - 192) := by unfold rLen; rw [if_neg h1, if_pos h2]
    have k1 : 192 ≤ (b : Int) := by omega
    have k2 : (b : Int) < 224 := by omega
    have hs := Lib.hid (show ((b - 192 : Nat) : Int) = (b : Int) - 192 by omega)
    rw [e, hs.out]
    clear e
    go_enter Tryz.func135, Tryz.ntmps135
    go_wp2_with fail
    go_ret2
    exact ⟨rfl, rfl⟩
  by_cases h3 : 224 ≤ b ∧ b < 240
  · have e : rLen b = (3, b - 224) := by unfold rLen; rw [if_neg h1, if_neg h2, if_pos h3]
    have k1 : 192 ≤ (b : Int) := by omega
    have k2 : ¬ (b : Int) < 224 := by omega
    have k3 : 224 ≤ (b : Int) := by omega
    have k4 : (b : Int) < 240 := by omega
    have hs := Lib.hid (show ((b - 224 : Nat) : Int) = (b : Int) - 224 by omega)
    rw [e, hs.out]
    clear e
    go_enter Tryz.func135, Tryz.ntmps135
    go_wp2_with fail
    go_ret2
    exact ⟨rfl, rfl⟩
  by_cases h4 : 240 ≤ b ∧ b < 248
  · have e : rLen b = (4, b - 240) := by unfold rLen; rw [if_neg h1, if_neg h2, if_neg h3, if_pos h4]
    have k1 : 192 ≤ (b : Int) := by omega
    have k2 : ¬ (b : Int) < 224 := by omega
    have k3 : 224 ≤ (b : Int) := by omega
    have k4 : ¬ (b : Int) < 240 := by omega
    have k5 : 240 ≤ (b : Int) := by omega
    have k6 : (b : Int) < 248 := by omega
    have hs := Lib.hid (show ((b - 240 : Nat) : Int) = (b : Int) - 240 by omega)
    rw [e, hs.out]
    clear e
    go_enter Tryz.func135, Tryz.ntmps135
    go_wp2_with fail
    go_ret2
    exact ⟨rfl, rfl⟩
  · have e : rLen b = (0, 0) := by unfold rLen; rw [if_neg h1, if_neg h2, if_neg h3, if_neg h4]
    rw [e]
    clear e
    have hc : (b : Int) < 192 ∨ 248 ≤ (b : Int) := by omega
    clear h2 h3 h4
    rcases hc with hc | hc
    · have k1 : ¬ 192 ≤ (b : Int) := by omega
      have k3 : ¬ 224 ≤ (b : Int) := by omega
      have k5 : ¬ 240 ≤ (b : Int) := by omega
      go_enter Tryz.func135, Tryz.ntmps135
      go_wp2_with fail
      go_ret2
      exact ⟨rfl, rfl⟩
    · have k1 : 192 ≤ (b : Int) := by omega
      have k2 : ¬ (b : Int) < 224 := by omega
      have k3 : 224 ≤ (b : Int) := by omega
      have k4 : ¬ (b : Int) < 240 := by omega
      have k5 : 240 ≤ (b : Int) := by omega
      have k6 : ¬ (b : Int) < 248 := by omega
      go_enter Tryz.func135, Tryz.ntmps135
      go_wp2_with fail
      go_ret2
      exact ⟨rfl, rfl⟩

theorem rchar_any (w : World) (c : Nat) (hc : c < 2147483648) :
    Calls Tryz.prog 136 #[.int .i32 (c : Int)] w fun e w' => e = .returned (.bool (rCh c)) ∧ w = w' := by
  obtain ⟨ok, hok⟩ : ∃ ok, rCh c = ok := ⟨_, rfl⟩
  rw [hok]
  have hcI : (c : Int) ≤ 2147483647 := by omega
  have h0 : 0 ≤ (c : Int) := by omega
  unfold rCh at hok
  by_cases h1 : c ≤ 1114111
  · have k1 : (c : Int) ≤ 1114111 := by omega
    by_cases h2 : c < 55296
    · have k2 : (c : Int) < 55296 := by omega
      obtain rfl : ok = true := by rw [← hok]; simp [h1, h2]
      clear hok
      go_enter Tryz.func136, Tryz.ntmps136
      go_wp2_with fail
      go_ret
      exact ⟨rfl, rfl⟩
    · have k2 : ¬ (c : Int) < 55296 := by omega
      by_cases h3 : 57343 < c
      · have k3 : decide ((c : Int) > 57343) = true := by simp; omega
        obtain rfl : ok = true := by rw [← hok]; simp [h1, h3]
        clear hok
        go_enter Tryz.func136, Tryz.ntmps136
        go_wp2_with fail
        go_ret
        exact ⟨rfl, rfl⟩
      · have k3 : decide ((c : Int) > 57343) = false := by simp; omega
        obtain rfl : ok = false := by rw [← hok]; simp [h2, h3]
        clear hok
        go_enter Tryz.func136, Tryz.ntmps136
        go_wp2_with fail
        go_ret
        exact ⟨rfl, rfl⟩
  · have k1 : ¬ (c : Int) ≤ 1114111 := by omega
    obtain rfl : ok = false := by rw [← hok]; simp [h1]
    clear hok
    go_enter Tryz.func136, Tryz.ntmps136
    go_wp2_with fail
    go_ret
    exact ⟨rfl, rfl⟩

def accC (b : Nat → Nat) (c0 : Nat) : Nat → Nat
  | 0 => c0
  | k + 1 => 64 * accC b c0 k + (b (k + 1) - 128)
def leastC (n : Nat) : Nat := [0, 0, 128, 2048, 65536].getD n 0
def contAll (b : Nat → Nat) (n : Nat) : Prop := ∀ j, 1 ≤ j → j < n → rCont (b j) = true
theorem accC_lt (b : Nat → Nat) (c0 : Nat) : ∀ k, contAll b (k + 1) → accC b c0 k < (c0 + 1) * 64 ^ k
  | 0, _ => by simp [accC]
  | k + 1, h => by
    have h1 := accC_lt b c0 k fun j hj hk => h j hj (by omega)
    have h2 := h (k + 1) (by omega) (by omega)
    unfold rCont at h2
    simp only [decide_eq_true_eq] at h2
    have e : (c0 + 1) * 64 ^ (k + 1) = 64 * ((c0 + 1) * 64 ^ k) := by rw [Nat.pow_succ]; ac_rfl
    rw [e]
    show 64 * accC b c0 k + (b (k + 1) - 128) < _
    omega
theorem rLen_cases (b : Nat) (hb : b < 256) : ((rLen b).1 = 0 ∧ (rLen b).2 = 0) ∨ ((rLen b).1 = 1 ∧ (rLen b).2 = b ∧ b < 128) ∨ ((rLen b).1 = 2 ∧ (rLen b).2 ≤ 31) ∨ ((rLen b).1 = 3 ∧ (rLen b).2 ≤ 15) ∨ ((rLen b).1 = 4 ∧ (rLen b).2 ≤ 7) := by
  unfold rLen
  repeat' split
  all_goals (dsimp only; omega)
theorem acc_mid (b : Nat → Nat) (hb : b 0 < 256) (k : Nat) (h : contAll b (k + 1)) (hk : k + 1 < (rLen (b 0)).1) : accC b (rLen (b 0)).2 k ≤ 32767 := by
  have h1 := accC_lt b (rLen (b 0)).2 k h
  have hc := rLen_cases (b 0) hb
  have hk3 : k = 0 ∨ k = 1 ∨ k = 2 := by omega
  rcases hk3 with rfl | rfl | rfl
  · simp at h1; omega
  · simp at h1; omega
  · simp at h1; omega
theorem acc_end (b : Nat → Nat) (hb : b 0 < 256) (h : contAll b (rLen (b 0)).1) (h0 : (rLen (b 0)).1 ≠ 0) : accC b (rLen (b 0)).2 ((rLen (b 0)).1 - 1) ≤ 2097151 := by
  have h1 := accC_lt b (rLen (b 0)).2 ((rLen (b 0)).1 - 1) (by rw [Nat.sub_add_cancel (by omega)]; exact h)
  have hc := rLen_cases (b 0) hb
  rcases hc with ⟨e, _⟩ | ⟨e, e', hl⟩ | ⟨e, hl⟩ | ⟨e, hl⟩ | ⟨e, hl⟩
  · exact absurd e h0
  all_goals (rw [e] at h1 ⊢; simp at h1 ⊢; omega)

theorem rNext_form (n : Nat) (b : Nat → Nat) (hn1 : 1 ≤ n) :
    rNextN n (b 0) (b 1) (b 2) (b 3) = if (rLen (b 0)).1 = 0 ∨ n < (rLen (b 0)).1 then (0, 0) else
      if decide ((rLen (b 0)).1 < 2 ∨ rCont (b 1) = true) && decide ((rLen (b 0)).1 < 3 ∨ rCont (b 2) = true) && decide ((rLen (b 0)).1 < 4 ∨ rCont (b 3) = true) then
        (if leastC (rLen (b 0)).1 ≤ accC b (rLen (b 0)).2 ((rLen (b 0)).1 - 1) ∧ rCh (accC b (rLen (b 0)).2 ((rLen (b 0)).1 - 1)) = true then (accC b (rLen (b 0)).2 ((rLen (b 0)).1 - 1), (rLen (b 0)).1) else (0, 0)) else (0, 0) := by
  unfold rLen rNextN
  by_cases c0 : b 0 < 128
  · have hch : rCh (b 0) = true := by unfold rCh; simp; omega
    simp only [if_pos c0]
    simp [leastC, accC, hch]
    omega
  simp only [if_neg c0]
  by_cases c2 : 192 ≤ b 0 ∧ b 0 < 224
  · simp only [if_pos c2]
    by_cases h1 : 2 ≤ n
    · by_cases h2 : rCont (b 1) = true
      · simp [leastC, accC, h1, h2, Nat.not_lt.2 h1]
      · simp [h2]
    · simp [h1, Nat.not_le.1 h1]
  simp only [if_neg c2]
  by_cases c3 : 224 ≤ b 0 ∧ b 0 < 240
  · simp only [if_pos c3]
    by_cases h1 : 3 ≤ n
    · by_cases h2 : rCont (b 1) = true
      · by_cases h3 : rCont (b 2) = true
        · simp [leastC, accC, h1, h2, h3, Nat.not_lt.2 h1]
        · simp [h3]
      · simp [h2]
    · simp [h1, Nat.not_le.1 h1]
  simp only [if_neg c3]
  by_cases c4 : 240 ≤ b 0 ∧ b 0 < 248
  · simp only [if_pos c4]
    by_cases h1 : 4 ≤ n
    · by_cases h2 : rCont (b 1) = true
      · by_cases h3 : rCont (b 2) = true
        · by_cases h4 : rCont (b 3) = true
          · simp [leastC, accC, h1, h2, h3, h4, Nat.not_lt.2 h1]
          · simp [h4]
        · simp [h3]
      · simp [h2]
    · simp [h1, Nat.not_le.1 h1]
  · simp [if_neg c4]
theorem contAll_dec (b : Nat → Nat) (L : Nat) (hL : L ≤ 4) : (decide (L < 2 ∨ rCont (b 1) = true) && decide (L < 3 ∨ rCont (b 2) = true) && decide (L < 4 ∨ rCont (b 3) = true)) = true ↔ contAll b L := by
  simp only [Bool.and_eq_true, decide_eq_true_eq]
  constructor
  · rintro ⟨⟨h1, h2⟩, h3⟩ j hj hl
    have : j = 1 ∨ j = 2 ∨ j = 3 := by omega
    rcases this with rfl | rfl | rfl
    · exact h1.resolve_left (by omega)
    · exact h2.resolve_left (by omega)
    · exact h3.resolve_left (by omega)
  · intro h
    refine ⟨⟨?_, ?_⟩, ?_⟩
    · rcases Nat.lt_or_ge L 2 with h' | h'
      · exact .inl h'
      · exact .inr (h 1 (by omega) (by omega))
    · rcases Nat.lt_or_ge L 3 with h' | h'
      · exact .inl h'
      · exact .inr (h 2 (by omega) (by omega))
    · rcases Nat.lt_or_ge L 4 with h' | h'
      · exact .inl h'
      · exact .inr (h 3 (by omega) (by omega))
theorem rLen_le (b : Nat) : (rLen b).1 ≤ 4 := by
  unfold rLen
  repeat' split
  all_goals simp
theorem rNext_none (n : Nat) (b : Nat → Nat) (hn1 : 1 ≤ n) (h : (rLen (b 0)).1 = 0 ∨ n < (rLen (b 0)).1) : rNextN n (b 0) (b 1) (b 2) (b 3) = (0, 0) := by
  rw [rNext_form n b hn1, if_pos h]
theorem rNext_broken (n : Nat) (b : Nat → Nat) (hn1 : 1 ≤ n) (h : ¬ contAll b (rLen (b 0)).1) : rNextN n (b 0) (b 1) (b 2) (b 3) = (0, 0) := by
  rw [rNext_form n b hn1]
  split
  · rfl
  · rw [if_neg (fun hc => h ((contAll_dec b _ (rLen_le _)).1 hc))]
theorem rNext_end (n : Nat) (b : Nat → Nat) (hn1 : 1 ≤ n) (h : contAll b (rLen (b 0)).1) (h0 : (rLen (b 0)).1 ≠ 0) (hn : (rLen (b 0)).1 ≤ n) :
    rNextN n (b 0) (b 1) (b 2) (b 3) = if leastC (rLen (b 0)).1 ≤ accC b (rLen (b 0)).2 ((rLen (b 0)).1 - 1) ∧ rCh (accC b (rLen (b 0)).2 ((rLen (b 0)).1 - 1)) = true then (accC b (rLen (b 0)).2 ((rLen (b 0)).1 - 1), (rLen (b 0)).1) else (0, 0) := by
  rw [rNext_form n b hn1, if_neg (by omega), if_pos ((contAll_dec b _ (rLen_le _)).2 h)]

def bAt (l : List UInt8) (pos : Nat) : Nat → Nat := fun j => (l.getD (pos + j) 0).toNat
theorem bAt_lt (l : List UInt8) (pos j : Nat) : bAt l pos j < 256 := UInt8.toNat_lt _
theorem rNext_at (l : List UInt8) (pos : Nat) (h : pos < l.length) : rNext (l.drop pos) = rNextN (l.length - pos) (bAt l pos 0) (bAt l pos 1) (bAt l pos 2) (bAt l pos 3) := by
  unfold rNext bAt
  have e : ∀ j, (l.drop pos).getD j 0 = l.getD (pos + j) 0 := fun j => by
    rw [List.getD_eq_getElem?_getD, List.getD_eq_getElem?_getD, List.getElem?_drop]
  rw [e, e, e, e, List.length_drop]
theorem str_byte (l : List UInt8) (i : Nat) (h : i < (⟨l.toArray⟩ : ByteArray).size) : ((⟨l.toArray⟩ : ByteArray)[i]'h).toNat = (l.getD i 0).toNat := by
  have hl : i < l.length := h
  rw [List.getD_eq_getElem?_getD, List.getElem?_eq_getElem hl]
  rfl
def NextPost (w : World) (r : Nat × Nat) (e : Ending) (w' : World) : Prop := e = .returned (.tuple #[.int .i32 (r.1 : Int), .int .i64 (r.2 : Int)]) ∧ Below w.heap.size w w'

set_option maxRecDepth 100000 in
set_option maxHeartbeats 1500000 in
theorem rnext_any (w : World) (l : List UInt8) (pos : Nat) (hp : pos < l.length) (hl : l.length ≤ 4611686018427387903) :
    Calls Tryz.prog 134 #[.string ⟨l.toArray⟩, .int .i64 (pos : Int)] w (NextPost w (rNext (l.drop pos))) := by
  obtain ⟨R, hR⟩ : ∃ R, rNext (l.drop pos) = R := ⟨_, rfl⟩
  rw [hR]
  rw [rNext_at l pos hp] at hR
  have h256 := bAt_lt l pos
  obtain ⟨b, hb⟩ : ∃ b, bAt l pos = b := ⟨_, rfl⟩
  rw [hb] at hR h256
  have HR := Lib.hid hR
  have L0 := Lib.hid (rlength_any w (b 0) (h256 0))
  have hc := rLen_cases (b 0) (h256 0)
  obtain ⟨L, hL⟩ : ∃ L, (rLen (b 0)).1 = L := ⟨_, rfl⟩
  obtain ⟨c0, hc0⟩ : ∃ c0, (rLen (b 0)).2 = c0 := ⟨_, rfl⟩
  have hbj : ∀ j (h : pos + j < (⟨l.toArray⟩ : ByteArray).size), ((⟨l.toArray⟩ : ByteArray)[pos + j]'h).toNat = b j := fun j h => by rw [str_byte, ← hb]; rfl
  have hb0 : ∀ h : pos < (⟨l.toArray⟩ : ByteArray).size, ((⟨l.toArray⟩ : ByteArray)[pos]'h).toNat = b 0 := fun h => hbj 0 h
  rw [hL, hc0] at L0 hc
  have HL := Lib.hid hL; have HC0 := Lib.hid hc0; have Hbj := Lib.hid hbj; have Hb0 := Lib.hid hb0
  have hpI : (pos : Int) < (l.length : Int) := by omega
  have hpI2 : ¬ (pos : Int) ≥ (l.length : Int) := by omega
  have hp0 : ¬ (pos : Int) < 0 := by omega
  clear hR hL hc0 hb hbj hb0
  go_enter Tryz.func134, Tryz.ntmps134
  go_wp2_with fail
  simp only [Hb0.out]
  refine L0.out.mono ?_
  rintro e w1 ⟨rfl, rfl⟩
  clear L0
  by_cases hL0 : L = 0
  · have HR0 := Lib.hid (show R = (0, 0) by rw [← HR.out]; exact rNext_none _ b (by omega) (.inl (by rw [HL.out]; exact hL0)))
    subst hL0
    go_wp2_with fail
    go_ret2
    exact ⟨by rw [HR0.out]; rfl, Below.refl _ _⟩
  have hL4 : L ≤ 4 := by omega
  by_cases hLn : l.length - pos < L
  · have HR0 := Lib.hid (show R = (0, 0) by rw [← HR.out]; exact rNext_none _ b (by omega) (.inr (by rw [HL.out]; exact hLn)))
    have g0 : ((L : Int) == 0) = false := by simp; exact hL0
    have g1 : decide ((L : Int) > (l.length : Int) - (pos : Int)) = true := by simp; omega
    clear hLn hc
    go_wp2_with fail
    go_ret2
    exact ⟨by rw [HR0.out]; rfl, Below.refl _ _⟩
  have g0 : ((L : Int) == 0) = false := by simp; exact hL0
  have g1 : decide ((L : Int) > (l.length : Int) - (pos : Int)) = false := by simp; omega
  have HcA := Lib.hid hc
  clear hc
  go_wp2_with fail
  go_loop [7, 8] (fun cv iv => ∃ k : Nat, 1 ≤ k ∧ k ≤ L ∧ iv = .int .i64 (k : Int) ∧ cv = .int .i32 (accC b c0 (k - 1) : Int) ∧ contAll b k) (fun _ iv => L - (intOf iv).toNat)
  case atStart => exact ⟨1, by omega, by omega, rfl, rfl, fun j h1 h2 => by omega⟩
  case round =>
    obtain ⟨k, h1, hk, rfl, rfl, hcont⟩ := hrel
    by_cases hkL : k < L
    · have hkI : (k : Int) < (L : Int) := by omega
      have hmid := acc_mid b (h256 0) (k - 1) (by rw [Nat.sub_add_cancel h1]; exact hcont) (by rw [Nat.sub_add_cancel h1, HL.out]; exact hkL)
      rw [HC0.out] at hmid
      have hbk := h256 k
      have hbk' : b k < 128 ∨ 191 < b k ∨ (128 ≤ b k ∧ b k ≤ 191) := by omega
      have ks : ((pos : Int) + (k : Int)).toNat = pos + k := by omega
      obtain ⟨a, ha⟩ : ∃ a, accC b c0 (k - 1) = a := ⟨_, rfl⟩
      rw [ha] at hmid ⊢
      obtain ⟨bk, hbkk⟩ : ∃ x, b k = x := ⟨_, rfl⟩
      rw [hbkk] at hbk hbk'
      have Hbk := Lib.hid hbkk; have Ha := Lib.hid ha; have Hcont := Lib.hid hcont
      have hbr : ∀ h : pos + k < (⟨l.toArray⟩ : ByteArray).size, ((⟨l.toArray⟩ : ByteArray)[pos + k]'h).toNat = bk := fun h => by rw [Hbj.out, Hbk.out]
      clear ha hbkk hcont
      rcases hbk' with hx | hx | hx
      · have x1 : (bk : Int) < 128 := by omega
        have HR0 := Lib.hid (show R = (0, 0) by
          rw [← HR.out]
          refine rNext_broken _ b (by omega) (fun hc => ?_)
          have := hc k h1 (by rw [HL.out]; exact hkL)
          unfold rCont at this
          simp only [decide_eq_true_eq] at this
          rw [Hbk.out] at this
          omega)
        go_wp2_with fail
        go_ret2
        exact ⟨by rw [HR0.out]; rfl, Below.refl _ _⟩
      · have x1 : ¬ (bk : Int) < 128 := by omega
        have x2 : decide ((bk : Int) > 191) = true := by simp; omega
        have HR0 := Lib.hid (show R = (0, 0) by
          rw [← HR.out]
          refine rNext_broken _ b (by omega) (fun hc => ?_)
          have := hc k h1 (by rw [HL.out]; exact hkL)
          unfold rCont at this
          simp only [decide_eq_true_eq] at this
          rw [Hbk.out] at this
          omega)
        go_wp2_with fail
        go_ret2
        exact ⟨by rw [HR0.out]; rfl, Below.refl _ _⟩
      · have x1 : ¬ (bk : Int) < 128 := by omega
        have x2 : decide ((bk : Int) > 191) = false := by simp; omega
        go_wp2_with fail
        refine ⟨⟨k + 1, by omega, by omega, by go_num, ?_, fun j hj1 hj2 => ?_⟩, by simp [intOf]; omega⟩
        · have e : accC b c0 (k + 1 - 1) = 64 * a + (bk - 128) := by
            rw [show k + 1 - 1 = (k - 1) + 1 by omega]
            show 64 * accC b c0 (k - 1) + (b (k - 1 + 1) - 128) = _
            rw [Ha.out, Nat.sub_add_cancel h1, Hbk.out]
          rw [e]
          congr 1
          omega
        · rcases Nat.lt_succ_iff_lt_or_eq.1 hj2 with h | h
          · exact Hcont.out j hj1 h
          · subst h
            unfold rCont
            rw [Hbk.out]
            simp only [decide_eq_true_eq]
            omega
    · have hkI : ¬ (k : Int) < (L : Int) := by omega
      obtain rfl : k = L := by omega
      have hend := acc_end b (h256 0) (by rw [HL.out]; exact hcont) (by rw [HL.out]; exact hL0)
      have hfin := rNext_end (l.length - pos) b (by omega) (by rw [HL.out]; exact hcont) (by rw [HL.out]; exact hL0) (by rw [HL.out]; omega)
      rw [HL.out, HC0.out] at hend hfin
      rw [HR.out] at hfin
      obtain ⟨a, ha⟩ : ∃ a, accC b c0 (k - 1) = a := ⟨_, rfl⟩
      rw [ha] at hend hfin ⊢
      have Ch := Lib.hid (rchar_any (w.alloc (.cells #[.int .i32 0, .int .i32 0, .int .i32 128, .int .i32 2048, .int .i32 65536] 21)) a (by omega))
      have Hfin := Lib.hid hfin
      clear ha hcont hfin
      have hk4 : k = 1 ∨ k = 2 ∨ k = 3 ∨ k = 4 := by omega
      obtain ⟨cok, hcok⟩ : ∃ q, rCh a = q := ⟨_, rfl⟩
      rw [hcok] at Ch
      have Hcok := Lib.hid hcok
      clear hcok
      rcases hk4 with rfl | rfl | rfl | rfl
      ·
        have hfin := Hfin.out
        simp only [leastC] at hfin
        have hle : 0 ≤ a := Nat.zero_le _
        have y1 : ¬ (a : Int) < 0 := by omega
        cases cok with
        | true =>
          have HR1 := Lib.hid (show R = _ from hfin.trans (if_pos ⟨hle, Hcok.out⟩))
          clear hfin
          go_wp2_with fail
          refine Ch.out.mono ?_
          rintro e w1 ⟨rfl, rfl⟩
          go_wp2_with fail
          go_ret2
          exact ⟨by rw [HR1.out]; rfl, kept_alloc _ _⟩
        | false =>
          have HR1 := Lib.hid (show R = _ from hfin.trans (if_neg (fun h => by rw [Hcok.out] at h; exact absurd h.2 (by decide))))
          clear hfin
          go_wp2_with fail
          refine Ch.out.mono ?_
          rintro e w1 ⟨rfl, rfl⟩
          go_wp2_with fail
          go_ret2
          exact ⟨by rw [HR1.out]; rfl, kept_alloc _ _⟩
      ·
        have hfin := Hfin.out
        simp only [leastC] at hfin
        by_cases hle : 128 ≤ a
        · have y1 : ¬ (a : Int) < 128 := by omega
          cases cok with
          | true =>
            have HR1 := Lib.hid (show R = _ from hfin.trans (if_pos ⟨hle, Hcok.out⟩))
            clear hfin
            go_wp2_with fail
            refine Ch.out.mono ?_
            rintro e w1 ⟨rfl, rfl⟩
            go_wp2_with fail
            go_ret2
            exact ⟨by rw [HR1.out]; rfl, kept_alloc _ _⟩
          | false =>
            have HR1 := Lib.hid (show R = _ from hfin.trans (if_neg (fun h => by rw [Hcok.out] at h; exact absurd h.2 (by decide))))
            clear hfin
            go_wp2_with fail
            refine Ch.out.mono ?_
            rintro e w1 ⟨rfl, rfl⟩
            go_wp2_with fail
            go_ret2
            exact ⟨by rw [HR1.out]; rfl, kept_alloc _ _⟩
        · have y1 : (a : Int) < 128 := by omega
          have hpos : 0 < 128 := by omega
          have HR1 := Lib.hid (show R = _ from hfin.trans (if_neg (fun h => hle h.1)))
          clear hfin Ch
          go_wp2_with fail
          go_ret2
          exact ⟨by rw [HR1.out]; rfl, kept_alloc _ _⟩
      ·
        have hfin := Hfin.out
        simp only [leastC] at hfin
        by_cases hle : 2048 ≤ a
        · have y1 : ¬ (a : Int) < 2048 := by omega
          cases cok with
          | true =>
            have HR1 := Lib.hid (show R = _ from hfin.trans (if_pos ⟨hle, Hcok.out⟩))
            clear hfin
            go_wp2_with fail
            refine Ch.out.mono ?_
            rintro e w1 ⟨rfl, rfl⟩
            go_wp2_with fail
            go_ret2
            exact ⟨by rw [HR1.out]; rfl, kept_alloc _ _⟩
          | false =>
            have HR1 := Lib.hid (show R = _ from hfin.trans (if_neg (fun h => by rw [Hcok.out] at h; exact absurd h.2 (by decide))))
            clear hfin
            go_wp2_with fail
            refine Ch.out.mono ?_
            rintro e w1 ⟨rfl, rfl⟩
            go_wp2_with fail
            go_ret2
            exact ⟨by rw [HR1.out]; rfl, kept_alloc _ _⟩
        · have y1 : (a : Int) < 2048 := by omega
          have hpos : 0 < 2048 := by omega
          have HR1 := Lib.hid (show R = _ from hfin.trans (if_neg (fun h => hle h.1)))
          clear hfin Ch
          go_wp2_with fail
          go_ret2
          exact ⟨by rw [HR1.out]; rfl, kept_alloc _ _⟩
      ·
        have hfin := Hfin.out
        simp only [leastC] at hfin
        by_cases hle : 65536 ≤ a
        · have y1 : ¬ (a : Int) < 65536 := by omega
          cases cok with
          | true =>
            have HR1 := Lib.hid (show R = _ from hfin.trans (if_pos ⟨hle, Hcok.out⟩))
            clear hfin
            go_wp2_with fail
            refine Ch.out.mono ?_
            rintro e w1 ⟨rfl, rfl⟩
            go_wp2_with fail
            go_ret2
            exact ⟨by rw [HR1.out]; rfl, kept_alloc _ _⟩
          | false =>
            have HR1 := Lib.hid (show R = _ from hfin.trans (if_neg (fun h => by rw [Hcok.out] at h; exact absurd h.2 (by decide))))
            clear hfin
            go_wp2_with fail
            refine Ch.out.mono ?_
            rintro e w1 ⟨rfl, rfl⟩
            go_wp2_with fail
            go_ret2
            exact ⟨by rw [HR1.out]; rfl, kept_alloc _ _⟩
        · have y1 : (a : Int) < 65536 := by omega
          have hpos : 0 < 65536 := by omega
          have HR1 := Lib.hid (show R = _ from hfin.trans (if_neg (fun h => hle h.1)))
          clear hfin Ch
          go_wp2_with fail
          go_ret2
          exact ⟨by rw [HR1.out]; rfl, kept_alloc _ _⟩
end Go.Proofs.YtohahloghmanpaaGreatDoor
