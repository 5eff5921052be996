/- The reference's check sum, bit by bit, is the program's. -/
import Derived.Test.YtmimplmeccoahaaDoorCrc
import Derived.Test.YtmimplmeccoahaaDoorJ12
import Derived.Test.YtmimplmeccoahaaDoorJL3
import Derived.Test.YtmimplmeccoahaaDoorRefDisk8
namespace Go.Proofs.YtmimplmeccoahaaDoor
open Go.RowKit
set_option linter.unusedVariables false
set_option maxRecDepth 20000

/-- one bit -/
def bit1 (r : BitVec 32) : BitVec 32 := (r >>> 1) ^^^ (if r.getLsbD 0 then 0xEDB88320#32 else 0#32)

theorem bit1_xor (a b : BitVec 32) : bit1 (a ^^^ b) = bit1 a ^^^ bit1 b := by
  unfold bit1
  rw [BitVec.getLsbD_xor]
  have h : (a ^^^ b) >>> 1 = (a >>> 1) ^^^ (b >>> 1) := BitVec.ushiftRight_xor_distrib a b 1
  rw [h]
  generalize a >>> 1 = p
  generalize b >>> 1 = q
  generalize (0xEDB88320#32) = c
  cases a.getLsbD 0 <;> cases b.getLsbD 0
  · simp
  · simp [BitVec.xor_assoc]
  · simp only [Bool.xor_false, if_true, Bool.false_eq_true, if_false, BitVec.xor_zero]
    rw [BitVec.xor_assoc, BitVec.xor_comm q c, ← BitVec.xor_assoc]
  · simp only [Bool.xor_self, if_true, Bool.false_eq_true, if_false, BitVec.xor_zero]
    rw [BitVec.xor_assoc, BitVec.xor_comm q c, ← BitVec.xor_assoc c c q, BitVec.xor_self, BitVec.zero_xor]
theorem bit1_even (q : BitVec 32) (h : q.getLsbD 0 = false) : bit1 q = q >>> 1 := by
  unfold bit1
  rw [h]
  simp

/-- four bits -/
def bit4 (r : BitVec 32) : BitVec 32 := bit1 (bit1 (bit1 (bit1 r)))
theorem bit4_xor (a b : BitVec 32) : bit4 (a ^^^ b) = bit4 a ^^^ bit4 b := by
  unfold bit4
  rw [bit1_xor, bit1_xor, bit1_xor, bit1_xor]
theorem shr_bit (q : BitVec 32) (n : Nat) : (q >>> n).getLsbD 0 = q.getLsbD n := by
  rw [BitVec.getLsbD_ushiftRight]
  simp
theorem bit4_high (r : BitVec 32) : bit4 ((r >>> 4) <<< 4) = r >>> 4 := by
  have hb : ∀ i, i < 4 → ((r >>> 4) <<< 4).getLsbD i = false := fun i hi => by
    rw [BitVec.getLsbD_shiftLeft]
    simp [hi]
  unfold bit4
  rw [bit1_even _ (hb 0 (by omega))]
  rw [bit1_even ((r >>> 4) <<< 4 >>> 1) (by rw [shr_bit]; exact hb 1 (by omega))]
  rw [bit1_even ((r >>> 4) <<< 4 >>> 1 >>> 1) (by rw [← BitVec.shiftRight_add, shr_bit]; exact hb 2 (by omega))]
  rw [bit1_even ((r >>> 4) <<< 4 >>> 1 >>> 1 >>> 1) (by rw [← BitVec.shiftRight_add, ← BitVec.shiftRight_add, shr_bit]; exact hb 3 (by omega))]
  rw [← BitVec.shiftRight_add, ← BitVec.shiftRight_add, ← BitVec.shiftRight_add]
  apply BitVec.eq_of_getLsbD_eq
  intro i hi
  rw [BitVec.getLsbD_ushiftRight, BitVec.getLsbD_shiftLeft]
  by_cases h : 4 + i < 32
  · simp [h]
  · have : (r >>> 4).getLsbD i = false := by rw [BitVec.getLsbD_ushiftRight]; exact BitVec.getLsbD_of_ge _ _ (by omega)
    rw [this]
    simp [h]
theorem split4 (r : BitVec 32) : r = ((r >>> 4) <<< 4) ^^^ (r &&& 15#32) := by
  apply BitVec.eq_of_getLsbD_eq
  intro i hi
  rw [BitVec.getLsbD_xor, BitVec.getLsbD_shiftLeft, BitVec.getLsbD_and]
  by_cases h : i < 4
  · have : (15#32).getLsbD i = true := by
      have : i = 0 ∨ i = 1 ∨ i = 2 ∨ i = 3 := by omega
      rcases this with rfl | rfl | rfl | rfl <;> decide
    simp [h, this]
  · have h15 : (15#32).getLsbD i = false := by
      rw [BitVec.getLsbD_ofNat]
      have : Nat.testBit 15 i = false := Nat.testBit_lt_two_pow (Nat.lt_of_lt_of_le (by decide : 15 < 2 ^ 4) (Nat.pow_le_pow_right (by omega) (by omega)))
      simp [this]
    rw [h15, BitVec.getLsbD_ushiftRight]
    simp [h, hi]
    congr 1
    omega
theorem bit4_nib (r : BitVec 32) : bit4 r = nib r := by
  have hlow : ∀ m : Nat, m < 16 → bit4 (BitVec.ofNat 32 m) = quarterT.getD m 0#32 := by decide
  have hm : (r &&& 15#32).toNat < 16 := by
    rw [BitVec.toNat_and]
    exact Nat.lt_of_le_of_lt Nat.and_le_right (by decide)
  have h1 := hlow _ hm
  rw [BitVec.ofNat_toNat, BitVec.setWidth_eq] at h1
  have h2 : bit4 r = bit4 ((r >>> 4) <<< 4) ^^^ bit4 (r &&& 15#32) := by rw [← bit4_xor, ← split4]
  rw [h2, bit4_high, h1]
  rfl

def bitN : Nat → BitVec 32 → BitVec 32
  | 0, r => r
  | n + 1, r => bit1 (bitN n r)
theorem bitN_eight (r : BitVec 32) : bitN 8 r = nib (nib r) := by
  rw [← bit4_nib, ← bit4_nib]
  rfl

theorem bit1_walk (x : BitVec 32) : ((x.toNat : Int) % 2 = 1 → Go.bits .xor .u32 ((x.toNat : Int) / 2) 3988292384 = ((bit1 x).toNat : Int)) ∧ (¬ (x.toNat : Int) % 2 = 1 → (x.toNat : Int) / 2 = ((bit1 x).toNat : Int)) := by
  have hl : x.getLsbD 0 = decide (x.toNat % 2 = 1) := by
    rw [BitVec.getLsbD, Nat.testBit_zero]
  have hs : (x >>> 1).toNat = x.toNat / 2 := by
    rw [BitVec.toNat_ushiftRight, Nat.shiftRight_eq_div_pow]
  constructor
  · intro h
    have h' : x.toNat % 2 = 1 := by omega
    have hx := bits_xor32 (x >>> 1) 0xEDB88320#32
    rw [hs] at hx
    have e : (((0xEDB88320#32).toNat : Nat) : Int) = 3988292384 := by decide
    rw [e] at hx
    unfold bit1
    rw [hl, h']
    simp only [decide_true, if_true]
    rw [← hx]
    congr 1
  · intro h
    have h' : ¬ x.toNat % 2 = 1 := by omega
    unfold bit1
    rw [hl]
    simp only [h', decide_false]
    simp only [Bool.false_eq_true, if_false, BitVec.xor_zero, hs]
    omega

theorem step_any (w : World) (x : BitVec 32) :
    Calls Tryd.prog 95 #[.int .u32 (x.toNat : Int)] w fun e w' => e = .returned (.int .u32 ((nib (nib x)).toNat : Int)) ∧ w = w' := by
  rw [← bitN_eight]
  go_enter Tryd.func95, Tryd.ntmps95
  go_wp2_with fail
  go_loop [0, 3] (fun r i => ∃ k : Nat, k ≤ 8 ∧ i = .int .i64 (k : Int) ∧ r = .int .u32 ((bitN k x).toNat : Int)) (fun _ i => 8 - (intOf i).toNat)
  case atStart => exact ⟨0, by omega, rfl, rfl⟩
  case round =>
    obtain ⟨k, hk, rfl, rfl⟩ := hrel
    by_cases hkl : k < 8
    · have hkI : (k : Int) < 8 := by omega
      obtain ⟨h1, h2⟩ := bit1_walk (bitN k x)
      have hs : bitN (k + 1) x = bit1 (bitN k x) := rfl
      have hlt : ((bitN k x).toNat : Int) ≤ 4294967295 := by have := (bitN k x).isLt; omega
      have Hs := Lib.hid hs
      generalize bitN k x = r at *
      obtain ⟨z, hz⟩ : ∃ z : Int, (r.toNat : Int) = z := ⟨_, rfl⟩
      have hz0 : 0 ≤ z := by omega
      rw [hz] at h1 h2 hlt ⊢
      have htd : z.tdiv 2 % 4294967296 = z / 2 := by rw [Int.tdiv_eq_ediv_of_nonneg hz0]; omega
      have Hlt := Lib.hid hlt; have Htd := Lib.hid htd
      clear hs hz hlt htd
      by_cases hm : z % 2 = 1
      · have hm' : (z % 2 == 1) = true := by simp [hm]
        have e := h1 hm
        have Hm := Lib.hid hm
        clear h1 h2 hm
        go_wp2_with fail
        go_round
        case rel => exact ⟨k + 1, by omega, by go_num, by rw [Htd.out, e, Hs.out]⟩
        case measure => simp [intOf]; omega
      · have hm' : (z % 2 == 1) = false := by simp [hm]
        have e := h2 hm
        have Hm := Lib.hid hm
        clear h1 h2 hm
        go_wp2_with fail
        go_round
        case rel => exact ⟨k + 1, by omega, by go_num, by rw [Htd.out, e, Hs.out]⟩
        case measure => simp [intOf]; omega
    · obtain rfl : k = 8 := by omega
      go_wp2_with fail
      go_ret
      exact ⟨rfl, rfl⟩

theorem invert_any (w : World) (x : BitVec 32) :
    Calls Tryd.prog 94 #[.int .u32 (x.toNat : Int)] w fun e w' => e = .returned (.int .u32 ((~~~ x).toNat : Int)) ∧ w = w' := by
  have e : Go.bits .xor .u32 (x.toNat : Int) 4294967295 = ((~~~ x).toNat : Int) := by
    have h := bits_xor32 x (~~~ (0#32))
    have : (((~~~ (0#32)).toNat : Nat) : Int) = 4294967295 := by decide
    rw [this] at h
    rw [h]
    congr 2
    rw [show ~~~ (0#32) = BitVec.allOnes 32 from by decide, BitVec.xor_allOnes]
  generalize ~~~ x = y at *
  go_enter Tryd.func94, Tryd.ntmps94
  go_wp2_with fail
  go_ret
  exact ⟨rfl, rfl⟩

theorem refAdd_any (w : World) (F : Blks) (v : Value) (l : List UInt8) (hv : Bytes F w v l) :
    Calls Tryd.prog 93 #[.int .u32 0, v] w fun e w' => e = .returned (.int .u32 (crc l : Int)) ∧ w = w' := by
  obtain ⟨a, cap, rfl, hc, hm, hz, hx⟩ := hv
  have hm' : cap ≤ 9223372036854775807 := by unfold maxLen at hm; omega
  have hi := invert_any w 0#32
  rw [show (((0#32).toNat : Nat) : Int) = 0 from rfl] at hi
  obtain ⟨s', hs'⟩ : ∃ s' : BitVec 32, s' = ~~~ 0#32 := ⟨_, rfl⟩
  rw [← hs'] at hi
  obtain ⟨y, hy⟩ : ∃ y : BitVec 32, y = ~~~ (crcF s' l) := ⟨_, rfl⟩
  have hcr : crc l = y.toNat := by rw [hy, hs']; rfl
  rw [hcr]
  have HI := Lib.hid hi; have Hy := Lib.hid hy
  clear hs' hcr hi hy
  go_enter Tryd.func93, Tryd.ntmps93
  go_wp2_with fail
  refine HI.out.mono ?_
  rintro e w' ⟨rfl, rfl⟩
  clear HI
  go_wp2_with fail
  go_loop [5, 6] (fun r i => ∃ k : Nat, k ≤ l.length ∧ i = .int .i64 (k : Int) ∧ r = .int .u32 ((crcF s' (l.take k)).toNat : Int)) (fun _ i => l.length - (intOf i).toNat)
  case atStart => exact ⟨0, by omega, rfl, rfl⟩
  case round =>
    obtain ⟨k, hk, rfl, rfl⟩ := hrel
    by_cases hkl : k < l.length
    · obtain ⟨b, off, L, t, fz, rfl, hF, hg, hle, hr⟩ := hx.resolve_left (by rintro rfl; simp at hkl)
      have cc : w.cell? ⟨b, off + k, none⟩ = some (B l[k]) := by rw [cell_of_row w b _ L t fz hg]; exact hr k hkl
      unfold B at cc
      have hsn := crcF_snoc s' l k hkl
      generalize hrr : crcF s' (l.take k) = r at *
      generalize l[k] = c at *
      clear hr hx hg hrr
      have e1 := xor_byte r c
      unfold crcB at hsn
      have HS := Lib.hid (step_any w (r ^^^ BitVec.ofNat 32 c.toNat))
      generalize r ^^^ BitVec.ofNat 32 c.toNat = x at *
      have Hsn := Lib.hid hsn; clear hsn
      have hkI : (k : Int) < (l.length : Int) := by omega
      go_wp2_with fail
      refine HS.out.mono ?_
      rintro e w' ⟨rfl, rfl⟩
      go_wp2_with fail
      go_round
      case rel => exact ⟨k + 1, by omega, by go_num, by rw [Hsn.out]⟩
      case measure => simp [intOf]; omega
    · have hkI : ¬ (k : Int) < (l.length : Int) := by omega
      obtain rfl : k = l.length := by omega
      rw [List.take_of_length_le (Nat.le_refl _)]
      have hi := invert_any w (crcF s' l)
      rw [← Hy.out] at hi
      have HI := Lib.hid hi
      clear hi
      go_wp2_with fail
      refine HI.out.mono ?_
      rintro e w' ⟨rfl, rfl⟩
      go_wp2_with fail
      go_ret
      exact ⟨rfl, rfl⟩
theorem refSum_any (w : World) (F : Blks) (v : Value) (l : List UInt8) (hv : Bytes F w v l) :
    Calls Tryd.prog 92 #[v] w fun e w' => e = .returned (.int .u32 (crc l : Int)) ∧ w = w' := by
  have H := refAdd_any w F v l hv
  obtain ⟨a, cap, rfl, -⟩ := hv
  generalize crc l = c at *
  have HH := Lib.hid H; clear H
  go_enter Tryd.func92, Tryd.ntmps92
  go_wp2_with fail
  refine HH.out.mono ?_
  rintro e w' ⟨rfl, rfl⟩
  go_wp2_with fail
  go_ret
  exact ⟨rfl, rfl⟩
end Go.Proofs.YtmimplmeccoahaaDoor
/- The reference journal: numbers, check sums, halves, places. -/
namespace Go.Proofs.YtmimplmeccoahaaDoor
open Go.RowKit
set_option linter.unusedVariables false
set_option maxRecDepth 20000
attribute [local go_sem] opC upC

theorem rread_any (w : World) (F : Blks) (v : Value) (l : List UInt8) (hv : Bytes F w v l) (at_ : Nat) (hat : at_ + 4 ≤ l.length) (h16 : at_ ≤ 1000) :
    Calls Tryd.prog 88 #[v, .int .i64 (at_ : Int)] w fun e w' => e = .returned (.int .i64 (read4 l at_ : Int)) ∧ ∃ n, w.drewN n = w' := by
  obtain ⟨a, cap, rfl, hc, hm, hz, hx⟩ := hv
  obtain ⟨b, off, L, t, fz, rfl, hF, hg, hle, hr⟩ := hx.resolve_left (by rintro rfl; simp at hat)
  have hcell : ∀ i, i < 4 → ∀ w', Later w.drew w' → w'.cell? ⟨b, off + (at_ + i), none⟩ = some (.int .u8 ((l.getD (at_ + i) 0).toNat : Int)) := fun i hi w' hl => by
    have h1 : w.cell? ⟨b, off + (at_ + i), none⟩ = some (B l[at_ + i]) := by rw [cell_of_row w b _ L t fz hg]; exact hr (at_ + i) (by omega)
    have h2 := later_cell h1 hl
    rw [h2, List.getD_eq_getElem?_getD, List.getElem?_eq_getElem (show at_ + i < l.length by omega)]
    rfl
  have q0 := hcell 0 (by omega)
  have q1 := hcell 1 (by omega)
  have q2 := hcell 2 (by omega)
  have q3 := hcell 3 (by omega)
  have hrd : (read4 l at_ : Int) = ((l.getD at_ 0).toNat : Int) + 256 * ((l.getD (at_ + 1) 0).toNat : Int) + 65536 * ((l.getD (at_ + 2) 0).toNat : Int) + 16777216 * ((l.getD (at_ + 3) 0).toNat : Int) := by
    unfold read4; omega
  have b0 := (l.getD at_ 0).toNat_lt
  have b1 := (l.getD (at_ + 1) 0).toNat_lt
  have b2 := (l.getD (at_ + 2) 0).toNat_lt
  have b3 := (l.getD (at_ + 3) 0).toNat_lt
  simp only [Nat.add_zero] at q0
  obtain ⟨z0, hz0⟩ : ∃ z : Int, ((l.getD at_ 0).toNat : Int) = z := ⟨_, rfl⟩
  obtain ⟨z1, hz1⟩ : ∃ z : Int, ((l.getD (at_ + 1) 0).toNat : Int) = z := ⟨_, rfl⟩
  obtain ⟨z2, hz2⟩ : ∃ z : Int, ((l.getD (at_ + 2) 0).toNat : Int) = z := ⟨_, rfl⟩
  obtain ⟨z3, hz3⟩ : ∃ z : Int, ((l.getD (at_ + 3) 0).toNat : Int) = z := ⟨_, rfl⟩
  simp only [hz0, hz1, hz2, hz3] at q0 q1 q2 q3 hrd
  have g0 : 0 ≤ z0 ∧ z0 ≤ 255 := by omega
  have g1 : 0 ≤ z1 ∧ z1 ≤ 255 := by omega
  have g2 : 0 ≤ z2 ∧ z2 ≤ 255 := by omega
  have g3 : 0 ≤ z3 ∧ z3 ≤ 255 := by omega
  rw [hrd]
  have hatI : (at_ : Int) + 3 < (l.length : Int) := by omega
  have hat0 : (at_ : Int) < (l.length : Int) := by omega
  have hat1 : (at_ : Int) + 1 < (l.length : Int) := by omega
  have hat2 : (at_ : Int) + 2 < (l.length : Int) := by omega
  have n1 : 0 ≤ (at_ : Int) + 1 := by omega
  have n2 : 0 ≤ (at_ : Int) + 2 := by omega
  have n3 : 0 ≤ (at_ : Int) + 3 := by omega
  have wr1 := IntWalk.i64_in ((at_ : Int) + 1) (by omega)
  have wr2 := IntWalk.i64_in ((at_ : Int) + 2) (by omega)
  have wr3 := IntWalk.i64_in ((at_ : Int) + 3) (by omega)
  have hat16 : (at_ : Int) ≤ 1000 := by omega
  have e1 : ((at_ : Int) + 1).toNat = at_ + 1 := by omega
  have e2 : ((at_ : Int) + 2).toNat = at_ + 2 := by omega
  have e3 : ((at_ : Int) + 3).toNat = at_ + 3 := by omega
  clear hrd hz0 hz1 hz2 hz3 b0 b1 b2 b3 hcell hr hg hle hat
  go_enter Tryd.func88, Tryd.ntmps88
  go_wp2_with fail
  refine wp_region_can Later [(0, true), (1, true), (2, true), (3, true), (4, true), (5, true), (6, true), (7, true), (8, true), (9, true), (10, true), (11, true), (12, true), (13, true), (14, true), (15, true), (16, true), (17, true), (18, true), (19, true), (20, true), (21, true), (22, true), (23, true), (24, true), (25, true), (26, true), (27, true), (28, true), (29, true)] (by kernel_rfl) (by kernel_rfl) later_refl later_trans ?_
  repeat (first
    | (refine can_yes (v := ?_) rfl (wanted_none rfl) (fun w' hC => ?_) (fun K hK => ?_); rotate_left; (focus (go_simp; (try simp (disch := omega) only [IntWalk.i64_in]); (try simp (disch := omega) only [IntWalk.u32_in]); (try simp (disch := omega) only [IntWalk.u8_in]); (try simp (disch := omega) only [IntWalk.i64_quo]); (try simp (disch := omega) only [IntWalk.rem_in]); first | done | exact rfl)); go_simp; (try simp (disch := omega) only [IntWalk.i64_in]); (try simp (disch := omega) only [IntWalk.u32_in]); (try simp (disch := omega) only [IntWalk.u8_in]); (try simp (disch := omega) only [IntWalk.i64_quo]); (try simp (disch := omega) only [IntWalk.rem_in]); refine hK _ ?_; clear hK K)
    | (refine can_guard rfl (fun A B hA hB => ?_); go_simp; first | (refine hA ⟨?_, fun w' hC => ?_, fun K hK => ?_⟩; rotate_left; (focus (go_simp; (try simp (disch := omega) only [IntWalk.i64_in]); (try simp (disch := omega) only [IntWalk.u32_in]); (try simp (disch := omega) only [IntWalk.u8_in]); (try simp (disch := omega) only [IntWalk.i64_quo]); (try simp (disch := omega) only [IntWalk.rem_in]); first | done | exact rfl)); go_simp; (try simp (disch := omega) only [IntWalk.i64_in]); (try simp (disch := omega) only [IntWalk.u32_in]); (try simp (disch := omega) only [IntWalk.u8_in]); (try simp (disch := omega) only [IntWalk.i64_quo]); (try simp (disch := omega) only [IntWalk.rem_in]); refine hK _ ?_; clear hK K hA hB A B) | (refine hB (fun K hK => ?_); go_simp; (try simp (disch := omega) only [IntWalk.i64_in]); (try simp (disch := omega) only [IntWalk.u32_in]); (try simp (disch := omega) only [IntWalk.u8_in]); (try simp (disch := omega) only [IntWalk.i64_quo]); (try simp (disch := omega) only [IntWalk.rem_in]); refine hK _ ?_; clear hK K hA hB A B))
    | (refine can_guard_go rfl (fun A B hA hB => ?_); go_simp; refine hB (fun K hK => ?_); go_simp; (try simp (disch := omega) only [IntWalk.i64_in]); (try simp (disch := omega) only [IntWalk.u32_in]); (try simp (disch := omega) only [IntWalk.u8_in]); (try simp (disch := omega) only [IntWalk.i64_quo]); (try simp (disch := omega) only [IntWalk.rem_in]); refine hK _ ?_; clear hK K hA hB A B))
  refine can_nil ?_
  go_wp2_with fail
  go_ret
  exact ⟨rfl, 1, rfl⟩
end Go.Proofs.YtmimplmeccoahaaDoor
/- The reference journal: check sums, halves, places, pieces' numbers. -/
namespace Go.Proofs.YtmimplmeccoahaaDoor
open Go.RowKit
set_option linter.unusedVariables false
set_option maxRecDepth 20000
attribute [local go_sem] opC upC

theorem drew_drewN (w : World) (n : Nat) : w.drewN (n + 1) = w.drew.drewN n := by
  unfold World.drewN World.drew
  congr 1
  show w.drawn + (n + 1) = w.drawn + 1 + n
  omega

theorem rintact_any (w : World) (F : Blks) (v : Value) (l : List UInt8) (hv : Bytes F w v l) (hl : l.length = 64) :
    Calls Tryd.prog 89 #[v] w fun e w' => e = .returned (.bool (intact l)) ∧ ∃ n, w.drewN n = w' := by
  have hv1 : Bytes F w.drew v l := hv.keep fun _ _ _ => rfl
  have hrd := rread_any w.drew F v l hv1 60 (by omega) (by omega)
  rw [show ((60 : Nat) : Int) = 60 from rfl] at hrd
  obtain ⟨a, cap, rfl, hc, hm, -⟩ := id hv
  have h60 := hv.take 60 (by omega)
  have hsum : ∀ n, Calls Tryd.prog 92 #[.slice a 60 cap] (w.drew.drewN n) fun e w' => e = .returned (.int .u32 (crc (l.take 60) : Int)) ∧ w.drew.drewN n = w' := fun n => refSum_any _ F _ _ (h60.keep fun _ _ _ => rfl)
  have hi : intact l = (read4 l 60 == crc (l.take 60)) := rfl
  have hii : (((read4 l 60 : Nat) : Int) == ((crc (l.take 60) : Nat) : Int)) = intact l := by
    rw [hi]
    by_cases he : read4 l 60 = crc (l.take 60)
    · rw [beq_iff_eq.2 he, beq_iff_eq.2 (by omega)]
    · rw [beq_eq_false_iff_ne.2 he, beq_eq_false_iff_ne.2 (by omega)]
  have hclt := crc_lt (l.take 60)
  rw [hl] at hrd
  have Hrd := Lib.hid hrd; have Hsum := Lib.hid hsum
  have hcI : (60 : Int) ≤ (cap : Int) := by omega
  rw [hl]
  clear hrd hsum hi h60 hv1 hv hc hl
  generalize crc (l.take 60) = c at *
  generalize read4 l 60 = r at *
  have hwr := IntWalk.i64_in ((c : Int)) (by omega)
  have Hclt := Lib.hid hclt; clear hclt
  go_enter Tryd.func89, Tryd.ntmps89
  go_wp2_with fail
  refine wp_region_can Later [(0, true), (2, true), (3, true), (1, false), (4, false), (5, true), (6, true), (7, true)] (by kernel_rfl) (by kernel_rfl) later_refl later_trans ?_
  repeat (first
    | (refine can_yes (v := ?_) rfl (wanted_none rfl) (fun w' hC => ?_) (fun K hK => ?_); rotate_left; (focus (go_simp; first | done | exact rfl)); go_simp; refine hK _ ?_; clear hK K)
    | (refine can_guard rfl (fun A B hA hB => ?_); go_simp; first | (refine hA ⟨?_, fun w' hC => ?_, fun K hK => ?_⟩; rotate_left; (focus (go_simp; first | done | exact rfl)); go_simp; refine hK _ ?_; clear hK K hA hB A B) | (refine hB (fun K hK => ?_); go_simp; refine hK _ ?_; clear hK K hA hB A B))
    | (refine can_guard_go rfl (fun A B hA hB => ?_); go_simp; refine hB (fun K hK => ?_); go_simp; refine hK _ ?_; clear hK K hA hB A B))
  refine can_go rfl rfl (fun KK hK => ?_)
  go_simp
  refine Hrd.out.mono ?_
  rintro e w1 ⟨rfl, n1, hn1⟩
  refine ⟨_, rfl, by rw [← hn1]; exact Below.drewN' (Below.refl _ _) n1, hK _ _ ?_⟩
  clear hK KK Hrd
  go_simp
  refine can_go rfl rfl (fun KK hK => ?_)
  go_simp
  rw [← hn1]
  refine (Hsum.out n1).mono ?_
  rintro e w2 ⟨rfl, hw2⟩
  refine ⟨_, rfl, by rw [← hw2]; exact later_refl _, hK _ _ ?_⟩
  clear hK KK Hsum hn1
  go_simp
  repeat (first
    | (refine can_yes (v := ?_) rfl (wanted_none rfl) (fun w' hC => ?_) (fun K hK => ?_); rotate_left; (focus (go_simp; (try simp (disch := omega) only [IntWalk.i64_in]); (try simp (disch := omega) only [IntWalk.u32_in]); (try simp (disch := omega) only [IntWalk.u8_in]); (try simp (disch := omega) only [IntWalk.i64_quo]); (try simp (disch := omega) only [IntWalk.rem_in]); first | done | exact rfl)); go_simp; (try simp (disch := omega) only [IntWalk.i64_in]); (try simp (disch := omega) only [IntWalk.u32_in]); (try simp (disch := omega) only [IntWalk.u8_in]); (try simp (disch := omega) only [IntWalk.i64_quo]); (try simp (disch := omega) only [IntWalk.rem_in]); refine hK _ ?_; clear hK K)
    | (refine can_guard rfl (fun A B hA hB => ?_); go_simp; first | (refine hA ⟨?_, fun w' hC => ?_, fun K hK => ?_⟩; rotate_left; (focus (go_simp; (try simp (disch := omega) only [IntWalk.i64_in]); (try simp (disch := omega) only [IntWalk.u32_in]); (try simp (disch := omega) only [IntWalk.u8_in]); (try simp (disch := omega) only [IntWalk.i64_quo]); (try simp (disch := omega) only [IntWalk.rem_in]); first | done | exact rfl)); go_simp; (try simp (disch := omega) only [IntWalk.i64_in]); (try simp (disch := omega) only [IntWalk.u32_in]); (try simp (disch := omega) only [IntWalk.u8_in]); (try simp (disch := omega) only [IntWalk.i64_quo]); (try simp (disch := omega) only [IntWalk.rem_in]); refine hK _ ?_; clear hK K hA hB A B) | (refine hB (fun K hK => ?_); go_simp; (try simp (disch := omega) only [IntWalk.i64_in]); (try simp (disch := omega) only [IntWalk.u32_in]); (try simp (disch := omega) only [IntWalk.u8_in]); (try simp (disch := omega) only [IntWalk.i64_quo]); (try simp (disch := omega) only [IntWalk.rem_in]); refine hK _ ?_; clear hK K hA hB A B))
    | (refine can_guard_go rfl (fun A B hA hB => ?_); go_simp; refine hB (fun K hK => ?_); go_simp; (try simp (disch := omega) only [IntWalk.i64_in]); (try simp (disch := omega) only [IntWalk.u32_in]); (try simp (disch := omega) only [IntWalk.u8_in]); (try simp (disch := omega) only [IntWalk.i64_quo]); (try simp (disch := omega) only [IntWalk.rem_in]); refine hK _ ?_; clear hK K hA hB A B))
  refine can_nil ?_
  go_wp2_with fail
  go_ret
  exact ⟨rfl, n1 + 1, by rw [← hw2]; exact drew_drewN w n1⟩

theorem rhalf_any (w : World) (n : Nat) (h2 : 2 ≤ n) (h : n ≤ 65536) :
    Calls Tryd.prog 81 #[.int .i64 (n : Int)] w fun e w' => e = .returned (.int .i64 (halfN n : Int)) ∧ w = w' := by
  have e : ((halfN n : Nat) : Int) = ((n : Int) - 2) / 2 := by unfold halfN; omega
  have hI : (n : Int) ≤ 65536 := by omega
  have hI2 : 2 ≤ (n : Int) := by omega
  rw [e]
  clear e
  go_enter Tryd.func81, Tryd.ntmps81
  go_wp2_with fail
  go_ret
  exact ⟨rfl, rfl⟩
theorem rplace_any (w : World) (n : Nat) (h2 : 2 ≤ n) (h : n ≤ 65536) (g p : Nat) (hg : g ≤ 4294967295) (hp : p ≤ 131072) :
    Calls Tryd.prog 90 #[.int .i64 (n : Int), .int .i64 (g : Int), .int .i64 (p : Int)] w fun e w' => e = .returned (.int .i64 (placeN n g p : Int)) ∧ w = w' := by
  have hh : halfN n ≤ 65536 := by unfold halfN; omega
  have hhalf := rhalf_any w n h2 h
  have e : ((placeN n g p : Nat) : Int) = 2 + (g : Int) % 2 * (halfN n : Int) + (p : Int) := by unfold placeN; simp
  rw [e]
  clear e
  generalize halfN n = H at *
  have hpI : (p : Int) ≤ 131072 := by omega
  have hHI : (H : Int) ≤ 65536 := by omega
  have hgI : (g : Int) ≤ 4294967295 := by omega
  have hb : 0 ≤ (g : Int) % 2 * (H : Int) ∧ (g : Int) % 2 * (H : Int) ≤ 65536 := by
    rcases (show (g : Int) % 2 = 0 ∨ (g : Int) % 2 = 1 by omega) with h | h <;> rw [h] <;> omega
  have Hh := Lib.hid hhalf; clear hhalf
  go_enter Tryd.func90, Tryd.ntmps90
  go_wp2_with fail
  refine Hh.out.mono ?_
  rintro e w' ⟨rfl, rfl⟩
  go_wp2_with fail
  go_ret
  exact ⟨rfl, rfl⟩
theorem rtakes_any (w : World) (n : Nat) (hn : n ≤ 140737488355328) :
    Calls Tryd.prog 83 #[.int .i64 (n : Int)] w fun e w' => e = .returned (.int .i64 (takes n : Int)) ∧ w = w' := by
  have hI : (n : Int) ≤ 140737488355328 := by omega
  go_enter Tryd.func83, Tryd.ntmps83
  go_wp2_with fail
  all_goals
    go_ret
    exact ⟨ret_int (by unfold takes; omega), rfl⟩

/-- the block of a reference journal -/
def RJBlk (w : World) (rb d g : Nat) (rv : Value) (dead : Bool) : Prop := Blk w rb [.pointer (some ⟨d, 0, none⟩), .int .i64 (g : Int), rv, .bool dead] 98

theorem takenL_take (L : List (List UInt8)) (k : Nat) (h : k < L.length) : takenL (L.take (k + 1)) = takenL (L.take k) + takes L[k].length := by
  rw [List.take_succ_eq_append_getElem h, takenL_snoc]
theorem takenL_le_of_take (L : List (List UInt8)) (k : Nat) : takenL (L.take k) ≤ takenL L := by
  have h : takenL L = takenL (L.take k) + takenL (L.drop k) := by
    unfold takenL
    rw [← List.sum_append, ← List.map_append, List.take_append_drop]
  omega

theorem rtaken_any (w : World) (rb d g : Nat) (rv : Value) (dead : Bool) (hj : RJBlk w rb d g rv dead) (R : Blks) (L : List (List UInt8)) (hr : RowsIn R w 0 rv L) (hL : L.length ≤ 65536) (ht : takenL L ≤ 1000000) (hlens : ∀ b ∈ L, b.length ≤ 65536) :
    Calls Tryd.prog 80 #[.pointer (some ⟨rb, 0, none⟩)] w fun e w' => e = .returned (.int .i64 (takenL L : Int)) ∧ w = w' := by
  have c2 := hj.cell 2
  simp at c2
  obtain ⟨aR, cR, rfl, hcR, hmR⟩ := hr.shape
  obtain ⟨len, hlen⟩ : ∃ len, L.length = len := ⟨_, rfl⟩
  rw [hlen] at c2
  have hLI : (len : Int) ≤ 65536 := by omega
  have Hlen := Lib.hid hlen; have Hr := Lib.hid hr
  clear hlen hr hcR
  go_enter Tryd.func80, Tryd.ntmps80
  go_wp2_with fail
  go_loop [3, 4] (fun n i => ∃ k : Nat, k ≤ len ∧ i = .int .i64 (k : Int) ∧ n = .int .i64 ((takenL (L.take k) : Nat) : Int)) (fun _ i => len - (intOf i).toNat)
  case atStart => exact ⟨0, by omega, rfl, rfl⟩
  case round =>
    obtain ⟨k, hk, rfl, rfl⟩ := hrel
    by_cases hkl : k < len
    · have hklI : (k : Int) < (len : Int) := by omega
      have hkL : k < L.length := by rw [Hlen.out]; exact hkl
      obtain ⟨gg, cap, x, hv, hbx, hcell⟩ := Hr.out.elem k hkL
      simp at hv
      obtain ⟨rfl, rfl⟩ := hv
      have hll := hlens L[k] (List.getElem_mem hkL)
      have hst := takenL_take L k hkL
      have hle1 := takenL_le_of_take L (k + 1)
      obtain ⟨ax, cx, rfl, -⟩ := id hbx
      generalize L[k] = b at *
      have hle0 : ((takenL (L.take k) : Nat) : Int) + ((takes b.length : Nat) : Int) ≤ 1000000 := by omega
      have HT := Lib.hid (rtakes_any w b.length (by omega))
      generalize takes b.length = T at *
      generalize takenL (L.take k) = q at *
      have Hst := Lib.hid hst
      clear hst hle1 hbx
      go_wp2_with fail
      refine HT.out.mono ?_
      rintro e w' ⟨rfl, rfl⟩
      go_wp2_with fail
      go_round
      case rel => exact ⟨k + 1, by omega, by go_num, by rw [Hst.out]; go_num⟩
      case measure => simp [intOf]; omega
    · have hklI : ¬ (k : Int) < (len : Int) := by omega
      have e : L.take k = L := List.take_of_length_le (by rw [Hlen.out]; omega)
      rw [e]
      go_wp2_with fail
      go_ret
      exact ⟨rfl, rfl⟩
end Go.Proofs.YtmimplmeccoahaaDoor
/- The reference journal: the generation of a disk. -/
namespace Go.Proofs.YtmimplmeccoahaaDoor
open Go.RowKit
set_option linter.unusedVariables false
set_option maxRecDepth 20000
attribute [local go_sem] opC upC

/-- only draws lie between -/
def Drew (w w' : World) : Prop := ∃ n, w.drewN n = w'
theorem Drew.refl (w : World) : Drew w w := ⟨0, rfl⟩
theorem Drew.trans {a b c : World} (h : Drew a b) (k : Drew b c) : Drew a c := by
  obtain ⟨n, rfl⟩ := h
  obtain ⟨m, rfl⟩ := k
  refine ⟨n + m, ?_⟩
  unfold World.drewN
  congr 1
  show a.drawn + (n + m) = a.drawn + n + m
  omega
theorem Drew.drew {a b : World} (h : Drew a b) : Drew a b.drew := h.trans ⟨1, rfl⟩
theorem Drew.heap {a b : World} (h : Drew a b) : b.heap = a.heap := by obtain ⟨n, rfl⟩ := h; rfl
theorem Drew.below {a b : World} (h : Drew a b) : Below a.heap.size a b := by obtain ⟨n, rfl⟩ := h; exact Below.drewN' (Below.refl _ _) n
theorem Drew.later {a b : World} (h : Drew a b) : Later a b := h.below

/-- the sectors of a reference disk -/
theorem RefAt.row {w : World} {K : RK} {M : MD} (h : RefAt w K M) : ∃ cap, M.S.length ≤ cap ∧ w.cell? ⟨K.d, 0, none⟩ = some (.slice (some ⟨K.bs, 0, none⟩) M.S.length cap) ∧ w.cell? ⟨K.d, 1, none⟩ = some (.bool M.down) ∧ w.cell? ⟨K.d, 5, none⟩ = some (.int .i64 (M.writes : Int)) := by
  obtain ⟨cap, after, tv, hc, hm, hb, -⟩ := h.main
  exact ⟨cap, hc, by rw [hb.cell]; rfl, by rw [hb.cell]; rfl, by rw [hb.cell]; rfl⟩
theorem RefAt.sector {w : World} {K : RK} {M : MD} (h : RefAt w K M) (i : Nat) (hi : i < M.S.length) : ∃ x, w.cell? ⟨K.bs, i, none⟩ = some x ∧ Bytes K.R w x M.S[i] := by
  obtain ⟨cap, after, tv, hc, hm, hb, ⟨L, hL, hLl, hs⟩, -⟩ := h.main
  obtain ⟨v, hv, hbv⟩ := hs i hi
  exact ⟨v, by rw [hL.cell]; exact hv, hbv⟩

def gv (st : Bool × Nat) : Int := if st.1 then (st.2 : Int) else -1
def GenRelR (w : World) (S : List (List UInt8)) (f i : Value) (wr : World) : Prop :=
  ∃ m : Nat, m ≤ 2 ∧ i = .int .i64 (m : Int) ∧ f = .int .i64 (gv (genS S m)) ∧ Drew w wr


set_option maxRecDepth 100000 in
set_option maxHeartbeats 1200000 in
theorem rgen_any (w : World) (K : RK) (M : MD) (h : RefAt w K M) (h8 : 8 ≤ M.S.length) :
    Calls Tryd.prog 78 #[.pointer (some ⟨K.d, 0, none⟩)] w fun e w' => e = .returned (.int .i64 (gv (genS M.S 2))) ∧ Drew w w' := by
  obtain ⟨cap, hcap, c0, -, -⟩ := h.row
  have hle := h.len
  go_enter Tryd.func78, Tryd.ntmps78
  go_wp2_with fail
  go_loopw [3, 4] (fun f i wr => GenRelR w M.S f i wr) (fun _ i _ => 2 - (intOf i).toNat)
  case atStart => exact ⟨0, by omega, rfl, rfl, Drew.refl w⟩
  case round =>
    obtain ⟨m, hm, rfl, rfl, hdr⟩ := hrel
    by_cases hml : m < 2
    · have hmI : (m : Int) < 2 := by omega
      have hmn : m < M.S.length := by omega
      obtain ⟨x, hx, hbx⟩ := h.sector m hmn
      have h64 : M.S[m].length = 64 := h.s64 _ (List.getElem_mem hmn)
      have hsl : M.S.getD m [] = M.S[m] := by rw [List.getD_eq_getElem?_getD, List.getElem?_eq_getElem hmn]; rfl
      have hx' : wr.cell? ⟨K.bs, m, none⟩ = some x := by unfold World.cell? at *; rw [hdr.heap]; exact hx
      have c0' : wr.cell? ⟨K.d, 0, none⟩ = some (.slice (some ⟨K.bs, 0, none⟩) M.S.length cap) := by unfold World.cell? at *; rw [hdr.heap]; exact c0
      have hbx : Bytes K.R wr x M.S[m] := hbx.keep fun b _ _ => by rw [hdr.heap]
      have hstep : genS M.S (m + 1) = if isHead (M.S[m]) m && (!(genS M.S m).1 || decide ((genS M.S m).2 < read4 (M.S[m]) 4)) then (true, read4 (M.S[m]) 4) else genS M.S m := by
        simp only [genS, genStep, hsl]
      obtain ⟨xa, xc, rfl, -⟩ := id hbx
      generalize M.S[m] = sl at *
      have hread := rread_any wr _ _ _ hbx 4 (by omega) (by omega)
      rw [show ((4 : Nat) : Int) = 4 from rfl] at hread
      have hg32 := genS_lt M.S m
      obtain ⟨st, hst⟩ : ∃ st, genS M.S m = st := ⟨_, rfl⟩
      rw [hst] at hstep hg32 ⊢
      have hmnI : (m : Int) < (M.S.length : Int) := by omega
      have Hread := Lib.hid hread; have Hstep := Lib.hid hstep
      have h4 := read4_lt sl 4
      have hxcI : (64 : Int) ≤ (xc : Int) := by obtain ⟨a', c', he, hc, -⟩ := id hbx; simp at he; obtain ⟨-, rfl⟩ := he; omega
      have H64 := Lib.hid h64
      clear hread hstep hst hsl hx c0 h64
      obtain ⟨fd, gg⟩ := st
      dsimp only at hg32
      cases hin : intact sl with
      | false =>
        have hs : genS M.S (m + 1) = (fd, gg) := by rw [Hstep.out, if_neg (by simp [isHead, hin])]
        go_wp2_with fail
        refine Hread.out.mono ?_
        rintro e w2 ⟨rfl, hw2⟩
        have hw2 : Drew wr w2 := hw2
        have hbx2 : Bytes K.R w2 (.slice xa sl.length xc) sl := hbx.keep fun b _ _ => by rw [hw2.heap]
        have HI := Lib.hid (rintact_any w2 _ _ _ hbx2 H64.out)
        clear hbx2
        go_wp2_with fail
        refine HI.out.mono ?_
        rintro e w3 ⟨rfl, hw3⟩
        have hw3 : Drew wr w3 := hw2.trans hw3
        have hconv := run_str (Bytes.take (hbx.keep (w' := w3) fun b _ _ => by rw [hw3.heap]) 4 (by rw [H64.out]; omega))
        have Hdr := Lib.hid (hdr.trans hw3)
        rw [hin]
        clear HI Hread hw2 hw3 hdr hbx
        have Hs := Lib.hid hs
        clear hs
        go_wp2_with fail
        go_roundw
        case rel => exact ⟨m + 1, by omega, by go_num, by first | (rw [Hs.out]; done) | (rw [Hs.out]; rfl), Hdr.out⟩
        case measure => simp [intOf]; omega
      | true =>
        by_cases hmg : sl.take 4 = [72, 78, 75, 74]
        · by_cases hpar : (read4 sl 4 : Int) % 2 = (m : Int)
          · have hparN : read4 sl 4 % 2 = m := by omega
            have hhead : isHead sl m = true := by simp [isHead, hin, hmg, hparN, magicB]
            cases fd with
            | false =>
              have hs : genS M.S (m + 1) = (true, read4 sl 4) := by rw [Hstep.out, if_pos (by simp [hhead])]
              clear hhead hparN
              rw [show gv (false, gg) = -1 from rfl]
              go_wp2_with fail
              refine Hread.out.mono ?_
              rintro e w2 ⟨rfl, hw2⟩
              have hw2 : Drew wr w2 := hw2
              have hbx2 : Bytes K.R w2 (.slice xa sl.length xc) sl := hbx.keep fun b _ _ => by rw [hw2.heap]
              have HI := Lib.hid (rintact_any w2 _ _ _ hbx2 H64.out)
              clear hbx2
              go_wp2_with fail
              refine HI.out.mono ?_
              rintro e w3 ⟨rfl, hw3⟩
              have hw3 : Drew wr w3 := hw2.trans hw3
              have hconv := run_str (Bytes.take (hbx.keep (w' := w3) fun b _ _ => by rw [hw3.heap]) 4 (by rw [H64.out]; omega))
              have Hdr := Lib.hid (hdr.trans hw3)
              rw [hin]
              clear HI Hread hw2 hw3 hdr hbx
              have Hs := Lib.hid hs
              clear hs
              go_wp2_with fail
              go_roundw
              case rel => exact ⟨m + 1, by omega, by go_num, by first | (rw [Hs.out]; done) | (rw [Hs.out]; rfl), Hdr.out⟩
              case measure => simp [intOf]; omega
            | true =>
              rw [show gv (true, gg) = (gg : Int) from rfl]
              by_cases hgt : (gg : Int) < (read4 sl 4 : Int)
              · have hs : genS M.S (m + 1) = (true, read4 sl 4) := by rw [Hstep.out, if_pos (by simp [hhead]; omega)]
                clear hhead hparN
                go_wp2_with fail
                refine Hread.out.mono ?_
                rintro e w2 ⟨rfl, hw2⟩
                have hw2 : Drew wr w2 := hw2
                have hbx2 : Bytes K.R w2 (.slice xa sl.length xc) sl := hbx.keep fun b _ _ => by rw [hw2.heap]
                have HI := Lib.hid (rintact_any w2 _ _ _ hbx2 H64.out)
                clear hbx2
                go_wp2_with fail
                refine HI.out.mono ?_
                rintro e w3 ⟨rfl, hw3⟩
                have hw3 : Drew wr w3 := hw2.trans hw3
                have hconv := run_str (Bytes.take (hbx.keep (w' := w3) fun b _ _ => by rw [hw3.heap]) 4 (by rw [H64.out]; omega))
                have Hdr := Lib.hid (hdr.trans hw3)
                rw [hin]
                clear HI Hread hw2 hw3 hdr hbx
                have Hs := Lib.hid hs
                clear hs
                go_wp2_with fail
                go_roundw
                case rel => exact ⟨m + 1, by omega, by go_num, by first | (rw [Hs.out]; done) | (rw [Hs.out]; rfl), Hdr.out⟩
                case measure => simp [intOf]; omega
              · have hs : genS M.S (m + 1) = (true, gg) := by rw [Hstep.out, if_neg (by simp; omega)]
                clear hhead hparN
                go_wp2_with fail
                refine Hread.out.mono ?_
                rintro e w2 ⟨rfl, hw2⟩
                have hw2 : Drew wr w2 := hw2
                have hbx2 : Bytes K.R w2 (.slice xa sl.length xc) sl := hbx.keep fun b _ _ => by rw [hw2.heap]
                have HI := Lib.hid (rintact_any w2 _ _ _ hbx2 H64.out)
                clear hbx2
                go_wp2_with fail
                refine HI.out.mono ?_
                rintro e w3 ⟨rfl, hw3⟩
                have hw3 : Drew wr w3 := hw2.trans hw3
                have hconv := run_str (Bytes.take (hbx.keep (w' := w3) fun b _ _ => by rw [hw3.heap]) 4 (by rw [H64.out]; omega))
                have Hdr := Lib.hid (hdr.trans hw3)
                rw [hin]
                clear HI Hread hw2 hw3 hdr hbx
                have Hs := Lib.hid hs
                clear hs
                go_wp2_with fail
                go_roundw
                case rel => exact ⟨m + 1, by omega, by go_num, by first | (rw [Hs.out]; done) | (rw [Hs.out]; rfl), Hdr.out⟩
                case measure => simp [intOf]; omega
          · have hs : genS M.S (m + 1) = (fd, gg) := by rw [Hstep.out, if_neg (by simp [isHead]; omega)]
            go_wp2_with fail
            refine Hread.out.mono ?_
            rintro e w2 ⟨rfl, hw2⟩
            have hw2 : Drew wr w2 := hw2
            have hbx2 : Bytes K.R w2 (.slice xa sl.length xc) sl := hbx.keep fun b _ _ => by rw [hw2.heap]
            have HI := Lib.hid (rintact_any w2 _ _ _ hbx2 H64.out)
            clear hbx2
            go_wp2_with fail
            refine HI.out.mono ?_
            rintro e w3 ⟨rfl, hw3⟩
            have hw3 : Drew wr w3 := hw2.trans hw3
            have hconv := run_str (Bytes.take (hbx.keep (w' := w3) fun b _ _ => by rw [hw3.heap]) 4 (by rw [H64.out]; omega))
            have Hdr := Lib.hid (hdr.trans hw3)
            rw [hin]
            clear HI Hread hw2 hw3 hdr hbx
            have Hs := Lib.hid hs
            clear hs
            go_wp2_with fail
            go_roundw
            case rel => exact ⟨m + 1, by omega, by go_num, by first | (rw [Hs.out]; done) | (rw [Hs.out]; rfl), Hdr.out⟩
            case measure => simp [intOf]; omega
        · have hs : genS M.S (m + 1) = (fd, gg) := by rw [Hstep.out, if_neg (by simp [isHead, magicB, hmg])]
          go_wp2_with fail
          refine Hread.out.mono ?_
          rintro e w2 ⟨rfl, hw2⟩
          have hw2 : Drew wr w2 := hw2
          have hbx2 : Bytes K.R w2 (.slice xa sl.length xc) sl := hbx.keep fun b _ _ => by rw [hw2.heap]
          have HI := Lib.hid (rintact_any w2 _ _ _ hbx2 H64.out)
          clear hbx2
          go_wp2_with fail
          refine HI.out.mono ?_
          rintro e w3 ⟨rfl, hw3⟩
          have hw3 : Drew wr w3 := hw2.trans hw3
          have hconv := run_str (Bytes.take (hbx.keep (w' := w3) fun b _ _ => by rw [hw3.heap]) 4 (by rw [H64.out]; omega))
          have Hdr := Lib.hid (hdr.trans hw3)
          rw [hin]
          clear HI Hread hw2 hw3 hdr hbx
          have Hs := Lib.hid hs
          clear hs
          go_wp2_with fail
          go_roundw
          case rel => exact ⟨m + 1, by omega, by go_num, by first | (rw [Hs.out]; done) | (rw [Hs.out]; rfl), Hdr.out⟩
          case measure => simp [intOf]; omega
    · have hmI : ¬ (m : Int) < 2 := by omega
      obtain rfl : m = 2 := by omega
      go_wp2_with fail
      go_ret
      exact ⟨rfl, hdr⟩
end Go.Proofs.YtmimplmeccoahaaDoor
