/- The reference's check sum, bit by bit, is the program's. -/
import Derived.Test.YtmimplmeccoahaaDoorCrc
import Derived.Test.YtmimplmeccoahaaDoorJ11
import Derived.Test.YtmimplmeccoahaaDoorJL3
import Derived.Test.YtmimplmeccoahaaDoorRefDisk8
import Derived.Test.YtmimplmeccoahaaDoorJL2
namespace Go.Proofs.YtmimplmeccoahaaDoor
open Go.RowKit
set_option linter.unusedVariables false
set_option maxRecDepth 20000

/-- one bit -/
def bit1 (r : BitVec 32) : BitVec 32 := (r >>> 1) ^^^ (if r.getLsbD 0 then 0xEDB88320#32 else 0#32)

theorem bit1_xor (a b : BitVec 32) : bit1 (a ^^^ b) = bit1 a ^^^ bit1 b := by
  unfold bit1
  rw [BitVec.getLsbD_xor]
  have h : (a ^^^ b) >>> 1 = (a >>> 1) ^^^ (b >>> 1) := BitVec.ushiftRight_xor_distrib a b 1
  rw [h]
  generalize a >>> 1 = p
  generalize b >>> 1 = q
  generalize (0xEDB88320#32) = c
  cases a.getLsbD 0 <;> cases b.getLsbD 0
  · simp
  · simp [BitVec.xor_assoc]
  · simp only [Bool.xor_false, if_true, Bool.false_eq_true, if_false, BitVec.xor_zero]
    rw [BitVec.xor_assoc, BitVec.xor_comm q c, ← BitVec.xor_assoc]
  · simp only [Bool.xor_self, if_true, Bool.false_eq_true, if_false, BitVec.xor_zero]
    rw [BitVec.xor_assoc, BitVec.xor_comm q c, ← BitVec.xor_assoc c c q, BitVec.xor_self, BitVec.zero_xor]
theorem bit1_even (q : BitVec 32) (h : q.getLsbD 0 = false) : bit1 q = q >>> 1 := by
  unfold bit1
  rw [h]
  simp

/-- four bits -/
def bit4 (r : BitVec 32) : BitVec 32 := bit1 (bit1 (bit1 (bit1 r)))
theorem bit4_xor (a b : BitVec 32) : bit4 (a ^^^ b) = bit4 a ^^^ bit4 b := by
  unfold bit4
  rw [bit1_xor, bit1_xor, bit1_xor, bit1_xor]
theorem shr_bit (q : BitVec 32) (n : Nat) : (q >>> n).getLsbD 0 = q.getLsbD n := by
  rw [BitVec.getLsbD_ushiftRight]
  simp
theorem bit4_high (r : BitVec 32) : bit4 ((r >>> 4) <<< 4) = r >>> 4 := by
  have hb : ∀ i, i < 4 → ((r >>> 4) <<< 4).getLsbD i = false := fun i hi => by
    rw [BitVec.getLsbD_shiftLeft]
    simp [hi]
  unfold bit4
  rw [bit1_even _ (hb 0 (by omega))]
  rw [bit1_even ((r >>> 4) <<< 4 >>> 1) (by rw [shr_bit]; exact hb 1 (by omega))]
  rw [bit1_even ((r >>> 4) <<< 4 >>> 1 >>> 1) (by rw [← BitVec.shiftRight_add, shr_bit]; exact hb 2 (by omega))]
  rw [bit1_even ((r >>> 4) <<< 4 >>> 1 >>> 1 >>> 1) (by rw [← BitVec.shiftRight_add, ← BitVec.shiftRight_add, shr_bit]; exact hb 3 (by omega))]
  rw [← BitVec.shiftRight_add, ← BitVec.shiftRight_add, ← BitVec.shiftRight_add]
  apply BitVec.eq_of_getLsbD_eq
  intro i hi
  rw [BitVec.getLsbD_ushiftRight, BitVec.getLsbD_shiftLeft]
  by_cases h : 4 + i < 32
  · simp [h]
  · have : (r >>> 4).getLsbD i = false := by rw [BitVec.getLsbD_ushiftRight]; exact BitVec.getLsbD_of_ge _ _ (by omega)
    rw [this]
    simp [h]
theorem split4 (r : BitVec 32) : r = ((r >>> 4) <<< 4) ^^^ (r &&& 15#32) := by
  apply BitVec.eq_of_getLsbD_eq
  intro i hi
  rw [BitVec.getLsbD_xor, BitVec.getLsbD_shiftLeft, BitVec.getLsbD_and]
  by_cases h : i < 4
  · have : (15#32).getLsbD i = true := by
      have : i = 0 ∨ i = 1 ∨ i = 2 ∨ i = 3 := by omega
      rcases this with rfl | rfl | rfl | rfl <;> decide
    simp [h, this]
  · have h15 : (15#32).getLsbD i = false := by
      rw [BitVec.getLsbD_ofNat]
      have : Nat.testBit 15 i = false := Nat.testBit_lt_two_pow (Nat.lt_of_lt_of_le (by decide : 15 < 2 ^ 4) (Nat.pow_le_pow_right (by omega) (by omega)))
      simp [this]
    rw [h15, BitVec.getLsbD_ushiftRight]
    simp [h, hi]
    congr 1
    omega
theorem bit4_nib (r : BitVec 32) : bit4 r = nib r := by
  have hlow : ∀ m : Nat, m < 16 → bit4 (BitVec.ofNat 32 m) = quarterT.getD m 0#32 := by decide
  have hm : (r &&& 15#32).toNat < 16 := by
    rw [BitVec.toNat_and]
    exact Nat.lt_of_le_of_lt Nat.and_le_right (by decide)
  have h1 := hlow _ hm
  rw [BitVec.ofNat_toNat, BitVec.setWidth_eq] at h1
  have h2 : bit4 r = bit4 ((r >>> 4) <<< 4) ^^^ bit4 (r &&& 15#32) := by rw [← bit4_xor, ← split4]
  rw [h2, bit4_high, h1]
  rfl

def bitN : Nat → BitVec 32 → BitVec 32
  | 0, r => r
  | n + 1, r => bit1 (bitN n r)
theorem bitN_eight (r : BitVec 32) : bitN 8 r = nib (nib r) := by
  rw [← bit4_nib, ← bit4_nib]
  rfl

theorem bit1_walk (x : BitVec 32) : ((x.toNat : Int) % 2 = 1 → Go.bits .xor .u32 ((x.toNat : Int) / 2) 3988292384 = ((bit1 x).toNat : Int)) ∧ (¬ (x.toNat : Int) % 2 = 1 → (x.toNat : Int) / 2 = ((bit1 x).toNat : Int)) := by
  have hl : x.getLsbD 0 = decide (x.toNat % 2 = 1) := by
    rw [BitVec.getLsbD, Nat.testBit_zero]
  have hs : (x >>> 1).toNat = x.toNat / 2 := by
    rw [BitVec.toNat_ushiftRight, Nat.shiftRight_eq_div_pow]
  constructor
  · intro h
    have h' : x.toNat % 2 = 1 := by omega
    have hx := bits_xor32 (x >>> 1) 0xEDB88320#32
    rw [hs] at hx
    have e : (((0xEDB88320#32).toNat : Nat) : Int) = 3988292384 := by decide
    rw [e] at hx
    unfold bit1
    rw [hl, h']
    simp only [decide_true, if_true]
    rw [← hx]
    congr 1
  · intro h
    have h' : ¬ x.toNat % 2 = 1 := by omega
    unfold bit1
    rw [hl]
    simp only [h', decide_false]
    simp only [Bool.false_eq_true, if_false, BitVec.xor_zero, hs]
    omega

theorem step_any (w : World) (x : BitVec 32) :
    Calls Tryd.prog 95 #[.int .u32 (x.toNat : Int)] w fun e w' => e = .returned (.int .u32 ((nib (nib x)).toNat : Int)) ∧ w = w' := by
  rw [← bitN_eight]
  go_enter Tryd.func95, Tryd.ntmps95
  go_wp2_with fail
  go_loop [0, 3] (fun r i => ∃ k : Nat, k ≤ 8 ∧ i = .int .i64 (k : Int) ∧ r = .int .u32 ((bitN k x).toNat : Int)) (fun _ i => 8 - (intOf i).toNat)
  case atStart => exact ⟨0, by omega, rfl, rfl⟩
  case round =>
    obtain ⟨k, hk, rfl, rfl⟩ := hrel
    by_cases hkl : k < 8
    · have hkI : (k : Int) < 8 := by omega
      obtain ⟨h1, h2⟩ := bit1_walk (bitN k x)
      have hs : bitN (k + 1) x = bit1 (bitN k x) := rfl
      have hlt : ((bitN k x).toNat : Int) ≤ 4294967295 := by have := (bitN k x).isLt; omega
      have Hs := Lib.hid hs
      generalize bitN k x = r at *
      obtain ⟨z, hz⟩ : ∃ z : Int, (r.toNat : Int) = z := ⟨_, rfl⟩
      have hz0 : 0 ≤ z := by omega
      rw [hz] at h1 h2 hlt ⊢
      have htd : z.tdiv 2 % 4294967296 = z / 2 := by rw [Int.tdiv_eq_ediv_of_nonneg hz0]; omega
      have Hlt := Lib.hid hlt; have Htd := Lib.hid htd
      clear hs hz hlt htd
      by_cases hm : z % 2 = 1
      · have hm' : (z % 2 == 1) = true := by simp [hm]
        have e := h1 hm
        have Hm := Lib.hid hm
        clear h1 h2 hm
        go_wp2_with fail
        go_round
        case rel => exact ⟨k + 1, by omega, by go_num, by rw [Htd.out, e, Hs.out]⟩
        case measure => simp [intOf]; omega
      · have hm' : (z % 2 == 1) = false := by simp [hm]
        have e := h2 hm
        have Hm := Lib.hid hm
        clear h1 h2 hm
        go_wp2_with fail
        go_round
        case rel => exact ⟨k + 1, by omega, by go_num, by rw [Htd.out, e, Hs.out]⟩
        case measure => simp [intOf]; omega
    · obtain rfl : k = 8 := by omega
      go_wp2_with fail
      go_ret
      exact ⟨rfl, rfl⟩

theorem invert_any (w : World) (x : BitVec 32) :
    Calls Tryd.prog 94 #[.int .u32 (x.toNat : Int)] w fun e w' => e = .returned (.int .u32 ((~~~ x).toNat : Int)) ∧ w = w' := by
  have e : Go.bits .xor .u32 (x.toNat : Int) 4294967295 = ((~~~ x).toNat : Int) := by
    have h := bits_xor32 x (~~~ (0#32))
    have : (((~~~ (0#32)).toNat : Nat) : Int) = 4294967295 := by decide
    rw [this] at h
    rw [h]
    congr 2
    rw [show ~~~ (0#32) = BitVec.allOnes 32 from by decide, BitVec.xor_allOnes]
  generalize ~~~ x = y at *
  go_enter Tryd.func94, Tryd.ntmps94
  go_wp2_with fail
  go_ret
  exact ⟨rfl, rfl⟩

theorem refAdd_any (w : World) (F : Blks) (v : Value) (l : List UInt8) (hv : Bytes F w v l) :
    Calls Tryd.prog 93 #[.int .u32 0, v] w fun e w' => e = .returned (.int .u32 (crc l : Int)) ∧ w = w' := by
  obtain ⟨a, cap, rfl, hc, hm, hz, hx⟩ := hv
  have hm' : cap ≤ 9223372036854775807 := by unfold maxLen at hm; omega
  have hi := invert_any w 0#32
  rw [show (((0#32).toNat : Nat) : Int) = 0 from rfl] at hi
  obtain ⟨s', hs'⟩ : ∃ s' : BitVec 32, s' = ~~~ 0#32 := ⟨_, rfl⟩
  rw [← hs'] at hi
  obtain ⟨y, hy⟩ : ∃ y : BitVec 32, y = ~~~ (crcF s' l) := ⟨_, rfl⟩
  have hcr : crc l = y.toNat := by rw [hy, hs']; rfl
  rw [hcr]
  have HI := Lib.hid hi; have Hy := Lib.hid hy
  clear hs' hcr hi hy
  go_enter Tryd.func93, Tryd.ntmps93
  go_wp2_with fail
  refine HI.out.mono ?_
  rintro e w' ⟨rfl, rfl⟩
  clear HI
  go_wp2_with fail
  go_loop [5, 6] (fun r i => ∃ k : Nat, k ≤ l.length ∧ i = .int .i64 (k : Int) ∧ r = .int .u32 ((crcF s' (l.take k)).toNat : Int)) (fun _ i => l.length - (intOf i).toNat)
  case atStart => exact ⟨0, by omega, rfl, rfl⟩
  case round =>
    obtain ⟨k, hk, rfl, rfl⟩ := hrel
    by_cases hkl : k < l.length
    · obtain ⟨b, off, L, t, fz, rfl, hF, hg, hle, hr⟩ := hx.resolve_left (by rintro rfl; simp at hkl)
      have cc : w.cell? ⟨b, off + k, none⟩ = some (B l[k]) := by rw [cell_of_row w b _ L t fz hg]; exact hr k hkl
      unfold B at cc
      have hsn := crcF_snoc s' l k hkl
      generalize hrr : crcF s' (l.take k) = r at *
      generalize l[k] = c at *
      clear hr hx hg hrr
      have e1 := xor_byte r c
      unfold crcB at hsn
      have HS := Lib.hid (step_any w (r ^^^ BitVec.ofNat 32 c.toNat))
      generalize r ^^^ BitVec.ofNat 32 c.toNat = x at *
      have Hsn := Lib.hid hsn; clear hsn
      have hkI : (k : Int) < (l.length : Int) := by omega
      go_wp2_with fail
      refine HS.out.mono ?_
      rintro e w' ⟨rfl, rfl⟩
      go_wp2_with fail
      go_round
      case rel => exact ⟨k + 1, by omega, by go_num, by rw [Hsn.out]⟩
      case measure => simp [intOf]; omega
    · have hkI : ¬ (k : Int) < (l.length : Int) := by omega
      obtain rfl : k = l.length := by omega
      rw [List.take_of_length_le (Nat.le_refl _)]
      have hi := invert_any w (crcF s' l)
      rw [← Hy.out] at hi
      have HI := Lib.hid hi
      clear hi
      go_wp2_with fail
      refine HI.out.mono ?_
      rintro e w' ⟨rfl, rfl⟩
      go_wp2_with fail
      go_ret
      exact ⟨rfl, rfl⟩
theorem refSum_any (w : World) (F : Blks) (v : Value) (l : List UInt8) (hv : Bytes F w v l) :
    Calls Tryd.prog 92 #[v] w fun e w' => e = .returned (.int .u32 (crc l : Int)) ∧ w = w' := by
  have H := refAdd_any w F v l hv
  obtain ⟨a, cap, rfl, -⟩ := hv
  generalize crc l = c at *
  have HH := Lib.hid H; clear H
  go_enter Tryd.func92, Tryd.ntmps92
  go_wp2_with fail
  refine HH.out.mono ?_
  rintro e w' ⟨rfl, rfl⟩
  go_wp2_with fail
  go_ret
  exact ⟨rfl, rfl⟩
end Go.Proofs.YtmimplmeccoahaaDoor
/- The reference journal: numbers, check sums, halves, places. -/
namespace Go.Proofs.YtmimplmeccoahaaDoor
open Go.RowKit
set_option linter.unusedVariables false
set_option maxRecDepth 20000
attribute [local go_sem] opC upC

theorem rread_any (w : World) (F : Blks) (v : Value) (l : List UInt8) (hv : Bytes F w v l) (at_ : Nat) (hat : at_ + 4 ≤ l.length) (h16 : at_ ≤ 1000) :
    Calls Tryd.prog 88 #[v, .int .i64 (at_ : Int)] w fun e w' => e = .returned (.int .i64 (read4 l at_ : Int)) ∧ ∃ n, w.drewN n = w' := by
  obtain ⟨a, cap, rfl, hc, hm, hz, hx⟩ := hv
  obtain ⟨b, off, L, t, fz, rfl, hF, hg, hle, hr⟩ := hx.resolve_left (by rintro rfl; simp at hat)
  have hcell : ∀ i, i < 4 → ∀ w', Later w.drew w' → w'.cell? ⟨b, off + (at_ + i), none⟩ = some (.int .u8 ((l.getD (at_ + i) 0).toNat : Int)) := fun i hi w' hl => by
    have h1 : w.cell? ⟨b, off + (at_ + i), none⟩ = some (B l[at_ + i]) := by rw [cell_of_row w b _ L t fz hg]; exact hr (at_ + i) (by omega)
    have h2 := later_cell h1 hl
    rw [h2, List.getD_eq_getElem?_getD, List.getElem?_eq_getElem (show at_ + i < l.length by omega)]
    rfl
  have q0 := hcell 0 (by omega)
  have q1 := hcell 1 (by omega)
  have q2 := hcell 2 (by omega)
  have q3 := hcell 3 (by omega)
  have hrd : (read4 l at_ : Int) = ((l.getD at_ 0).toNat : Int) + 256 * ((l.getD (at_ + 1) 0).toNat : Int) + 65536 * ((l.getD (at_ + 2) 0).toNat : Int) + 16777216 * ((l.getD (at_ + 3) 0).toNat : Int) := by
    unfold read4; omega
  have b0 := (l.getD at_ 0).toNat_lt
  have b1 := (l.getD (at_ + 1) 0).toNat_lt
  have b2 := (l.getD (at_ + 2) 0).toNat_lt
  have b3 := (l.getD (at_ + 3) 0).toNat_lt
  simp only [Nat.add_zero] at q0
  obtain ⟨z0, hz0⟩ : ∃ z : Int, ((l.getD at_ 0).toNat : Int) = z := ⟨_, rfl⟩
  obtain ⟨z1, hz1⟩ : ∃ z : Int, ((l.getD (at_ + 1) 0).toNat : Int) = z := ⟨_, rfl⟩
  obtain ⟨z2, hz2⟩ : ∃ z : Int, ((l.getD (at_ + 2) 0).toNat : Int) = z := ⟨_, rfl⟩
  obtain ⟨z3, hz3⟩ : ∃ z : Int, ((l.getD (at_ + 3) 0).toNat : Int) = z := ⟨_, rfl⟩
  simp only [hz0, hz1, hz2, hz3] at q0 q1 q2 q3 hrd
  have g0 : 0 ≤ z0 ∧ z0 ≤ 255 := by omega
  have g1 : 0 ≤ z1 ∧ z1 ≤ 255 := by omega
  have g2 : 0 ≤ z2 ∧ z2 ≤ 255 := by omega
  have g3 : 0 ≤ z3 ∧ z3 ≤ 255 := by omega
  rw [hrd]
  have hatI : (at_ : Int) + 3 < (l.length : Int) := by omega
  have hat0 : (at_ : Int) < (l.length : Int) := by omega
  have hat1 : (at_ : Int) + 1 < (l.length : Int) := by omega
  have hat2 : (at_ : Int) + 2 < (l.length : Int) := by omega
  have n1 : 0 ≤ (at_ : Int) + 1 := by omega
  have n2 : 0 ≤ (at_ : Int) + 2 := by omega
  have n3 : 0 ≤ (at_ : Int) + 3 := by omega
  have wr1 := IntWalk.i64_in ((at_ : Int) + 1) (by omega)
  have wr2 := IntWalk.i64_in ((at_ : Int) + 2) (by omega)
  have wr3 := IntWalk.i64_in ((at_ : Int) + 3) (by omega)
  have hat16 : (at_ : Int) ≤ 1000 := by omega
  have e1 : ((at_ : Int) + 1).toNat = at_ + 1 := by omega
  have e2 : ((at_ : Int) + 2).toNat = at_ + 2 := by omega
  have e3 : ((at_ : Int) + 3).toNat = at_ + 3 := by omega
  clear hrd hz0 hz1 hz2 hz3 b0 b1 b2 b3 hcell hr hg hle hat
  go_enter Tryd.func88, Tryd.ntmps88
  go_wp2_with fail
  refine wp_region_can Later [(0, true), (1, true), (2, true), (3, true), (4, true), (5, true), (6, true), (7, true), (8, true), (9, true), (10, true), (11, true), (12, true), (13, true), (14, true), (15, true), (16, true), (17, true), (18, true), (19, true), (20, true), (21, true), (22, true), (23, true), (24, true), (25, true), (26, true), (27, true), (28, true), (29, true)] (by kernel_rfl) (by kernel_rfl) later_refl later_trans ?_
  repeat (first
    | (refine can_yes (v := ?_) rfl (wanted_none rfl) (fun w' hC => ?_) (fun K hK => ?_); rotate_left; (focus (go_simp; (try simp (disch := omega) only [IntWalk.i64_in]); (try simp (disch := omega) only [IntWalk.u32_in]); (try simp (disch := omega) only [IntWalk.u8_in]); (try simp (disch := omega) only [IntWalk.i64_quo]); (try simp (disch := omega) only [IntWalk.rem_in]); first | done | exact rfl)); go_simp; (try simp (disch := omega) only [IntWalk.i64_in]); (try simp (disch := omega) only [IntWalk.u32_in]); (try simp (disch := omega) only [IntWalk.u8_in]); (try simp (disch := omega) only [IntWalk.i64_quo]); (try simp (disch := omega) only [IntWalk.rem_in]); refine hK _ ?_; clear hK K)
    | (refine can_guard rfl (fun A B hA hB => ?_); go_simp; first | (refine hA ⟨?_, fun w' hC => ?_, fun K hK => ?_⟩; rotate_left; (focus (go_simp; (try simp (disch := omega) only [IntWalk.i64_in]); (try simp (disch := omega) only [IntWalk.u32_in]); (try simp (disch := omega) only [IntWalk.u8_in]); (try simp (disch := omega) only [IntWalk.i64_quo]); (try simp (disch := omega) only [IntWalk.rem_in]); first | done | exact rfl)); go_simp; (try simp (disch := omega) only [IntWalk.i64_in]); (try simp (disch := omega) only [IntWalk.u32_in]); (try simp (disch := omega) only [IntWalk.u8_in]); (try simp (disch := omega) only [IntWalk.i64_quo]); (try simp (disch := omega) only [IntWalk.rem_in]); refine hK _ ?_; clear hK K hA hB A B) | (refine hB (fun K hK => ?_); go_simp; (try simp (disch := omega) only [IntWalk.i64_in]); (try simp (disch := omega) only [IntWalk.u32_in]); (try simp (disch := omega) only [IntWalk.u8_in]); (try simp (disch := omega) only [IntWalk.i64_quo]); (try simp (disch := omega) only [IntWalk.rem_in]); refine hK _ ?_; clear hK K hA hB A B))
    | (refine can_guard_go rfl (fun A B hA hB => ?_); go_simp; refine hB (fun K hK => ?_); go_simp; (try simp (disch := omega) only [IntWalk.i64_in]); (try simp (disch := omega) only [IntWalk.u32_in]); (try simp (disch := omega) only [IntWalk.u8_in]); (try simp (disch := omega) only [IntWalk.i64_quo]); (try simp (disch := omega) only [IntWalk.rem_in]); refine hK _ ?_; clear hK K hA hB A B))
  refine can_nil ?_
  go_wp2_with fail
  go_ret
  exact ⟨rfl, 1, rfl⟩
end Go.Proofs.YtmimplmeccoahaaDoor
/- The reference journal: check sums, halves, places, pieces' numbers. -/
namespace Go.Proofs.YtmimplmeccoahaaDoor
open Go.RowKit
set_option linter.unusedVariables false
set_option maxRecDepth 20000
attribute [local go_sem] opC upC

theorem drew_drewN (w : World) (n : Nat) : w.drewN (n + 1) = w.drew.drewN n := by
  unfold World.drewN World.drew
  congr 1
  show w.drawn + (n + 1) = w.drawn + 1 + n
  omega

theorem rintact_any (w : World) (F : Blks) (v : Value) (l : List UInt8) (hv : Bytes F w v l) (hl : l.length = 64) :
    Calls Tryd.prog 89 #[v] w fun e w' => e = .returned (.bool (intact l)) ∧ ∃ n, w.drewN n = w' := by
  have hv1 : Bytes F w.drew v l := hv.keep fun _ _ _ => rfl
  have hrd := rread_any w.drew F v l hv1 60 (by omega) (by omega)
  rw [show ((60 : Nat) : Int) = 60 from rfl] at hrd
  obtain ⟨a, cap, rfl, hc, hm, -⟩ := id hv
  have h60 := hv.take 60 (by omega)
  have hsum : ∀ n, Calls Tryd.prog 92 #[.slice a 60 cap] (w.drew.drewN n) fun e w' => e = .returned (.int .u32 (crc (l.take 60) : Int)) ∧ w.drew.drewN n = w' := fun n => refSum_any _ F _ _ (h60.keep fun _ _ _ => rfl)
  have hi : intact l = (read4 l 60 == crc (l.take 60)) := rfl
  have hii : (((read4 l 60 : Nat) : Int) == ((crc (l.take 60) : Nat) : Int)) = intact l := by
    rw [hi]
    by_cases he : read4 l 60 = crc (l.take 60)
    · rw [beq_iff_eq.2 he, beq_iff_eq.2 (by omega)]
    · rw [beq_eq_false_iff_ne.2 he, beq_eq_false_iff_ne.2 (by omega)]
  have hclt := crc_lt (l.take 60)
  rw [hl] at hrd
  have Hrd := Lib.hid hrd; have Hsum := Lib.hid hsum
  have hcI : (60 : Int) ≤ (cap : Int) := by omega
  rw [hl]
  clear hrd hsum hi h60 hv1 hv hc hl
  generalize crc (l.take 60) = c at *
  generalize read4 l 60 = r at *
  have hwr := IntWalk.i64_in ((c : Int)) (by omega)
  have Hclt := Lib.hid hclt; clear hclt
  go_enter Tryd.func89, Tryd.ntmps89
  go_wp2_with fail
  refine wp_region_can Later [(0, true), (2, true), (3, true), (1, false), (4, false), (5, true), (6, true), (7, true)] (by kernel_rfl) (by kernel_rfl) later_refl later_trans ?_
  repeat (first
    | (refine can_yes (v := ?_) rfl (wanted_none rfl) (fun w' hC => ?_) (fun K hK => ?_); rotate_left; (focus (go_simp; first | done | exact rfl)); go_simp; refine hK _ ?_; clear hK K)
    | (refine can_guard rfl (fun A B hA hB => ?_); go_simp; first | (refine hA ⟨?_, fun w' hC => ?_, fun K hK => ?_⟩; rotate_left; (focus (go_simp; first | done | exact rfl)); go_simp; refine hK _ ?_; clear hK K hA hB A B) | (refine hB (fun K hK => ?_); go_simp; refine hK _ ?_; clear hK K hA hB A B))
    | (refine can_guard_go rfl (fun A B hA hB => ?_); go_simp; refine hB (fun K hK => ?_); go_simp; refine hK _ ?_; clear hK K hA hB A B))
  refine can_go rfl rfl (fun KK hK => ?_)
  go_simp
  refine Hrd.out.mono ?_
  rintro e w1 ⟨rfl, n1, hn1⟩
  refine ⟨_, rfl, by rw [← hn1]; exact Below.drewN' (Below.refl _ _) n1, hK _ _ ?_⟩
  clear hK KK Hrd
  go_simp
  refine can_go rfl rfl (fun KK hK => ?_)
  go_simp
  rw [← hn1]
  refine (Hsum.out n1).mono ?_
  rintro e w2 ⟨rfl, hw2⟩
  refine ⟨_, rfl, by rw [← hw2]; exact later_refl _, hK _ _ ?_⟩
  clear hK KK Hsum hn1
  go_simp
  repeat (first
    | (refine can_yes (v := ?_) rfl (wanted_none rfl) (fun w' hC => ?_) (fun K hK => ?_); rotate_left; (focus (go_simp; (try simp (disch := omega) only [IntWalk.i64_in]); (try simp (disch := omega) only [IntWalk.u32_in]); (try simp (disch := omega) only [IntWalk.u8_in]); (try simp (disch := omega) only [IntWalk.i64_quo]); (try simp (disch := omega) only [IntWalk.rem_in]); first | done | exact rfl)); go_simp; (try simp (disch := omega) only [IntWalk.i64_in]); (try simp (disch := omega) only [IntWalk.u32_in]); (try simp (disch := omega) only [IntWalk.u8_in]); (try simp (disch := omega) only [IntWalk.i64_quo]); (try simp (disch := omega) only [IntWalk.rem_in]); refine hK _ ?_; clear hK K)
    | (refine can_guard rfl (fun A B hA hB => ?_); go_simp; first | (refine hA ⟨?_, fun w' hC => ?_, fun K hK => ?_⟩; rotate_left; (focus (go_simp; (try simp (disch := omega) only [IntWalk.i64_in]); (try simp (disch := omega) only [IntWalk.u32_in]); (try simp (disch := omega) only [IntWalk.u8_in]); (try simp (disch := omega) only [IntWalk.i64_quo]); (try simp (disch := omega) only [IntWalk.rem_in]); first | done | exact rfl)); go_simp; (try simp (disch := omega) only [IntWalk.i64_in]); (try simp (disch := omega) only [IntWalk.u32_in]); (try simp (disch := omega) only [IntWalk.u8_in]); (try simp (disch := omega) only [IntWalk.i64_quo]); (try simp (disch := omega) only [IntWalk.rem_in]); refine hK _ ?_; clear hK K hA hB A B) | (refine hB (fun K hK => ?_); go_simp; (try simp (disch := omega) only [IntWalk.i64_in]); (try simp (disch := omega) only [IntWalk.u32_in]); (try simp (disch := omega) only [IntWalk.u8_in]); (try simp (disch := omega) only [IntWalk.i64_quo]); (try simp (disch := omega) only [IntWalk.rem_in]); refine hK _ ?_; clear hK K hA hB A B))
    | (refine can_guard_go rfl (fun A B hA hB => ?_); go_simp; refine hB (fun K hK => ?_); go_simp; (try simp (disch := omega) only [IntWalk.i64_in]); (try simp (disch := omega) only [IntWalk.u32_in]); (try simp (disch := omega) only [IntWalk.u8_in]); (try simp (disch := omega) only [IntWalk.i64_quo]); (try simp (disch := omega) only [IntWalk.rem_in]); refine hK _ ?_; clear hK K hA hB A B))
  refine can_nil ?_
  go_wp2_with fail
  go_ret
  exact ⟨rfl, n1 + 1, by rw [← hw2]; exact drew_drewN w n1⟩

theorem rhalf_any (w : World) (n : Nat) (h2 : 2 ≤ n) (h : n ≤ 65536) :
    Calls Tryd.prog 81 #[.int .i64 (n : Int)] w fun e w' => e = .returned (.int .i64 (halfN n : Int)) ∧ w = w' := by
  have e : ((halfN n : Nat) : Int) = ((n : Int) - 2) / 2 := by unfold halfN; omega
  have hI : (n : Int) ≤ 65536 := by omega
  have hI2 : 2 ≤ (n : Int) := by omega
  rw [e]
  clear e
  go_enter Tryd.func81, Tryd.ntmps81
  go_wp2_with fail
  go_ret
  exact ⟨rfl, rfl⟩
theorem rplace_any (w : World) (n : Nat) (h2 : 2 ≤ n) (h : n ≤ 65536) (g p : Nat) (hg : g ≤ 4294967295) (hp : p ≤ 131072) :
    Calls Tryd.prog 90 #[.int .i64 (n : Int), .int .i64 (g : Int), .int .i64 (p : Int)] w fun e w' => e = .returned (.int .i64 (placeN n g p : Int)) ∧ w = w' := by
  have hh : halfN n ≤ 65536 := by unfold halfN; omega
  have hhalf := rhalf_any w n h2 h
  have e : ((placeN n g p : Nat) : Int) = 2 + (g : Int) % 2 * (halfN n : Int) + (p : Int) := by unfold placeN; simp
  rw [e]
  clear e
  generalize halfN n = H at *
  have hpI : (p : Int) ≤ 131072 := by omega
  have hHI : (H : Int) ≤ 65536 := by omega
  have hgI : (g : Int) ≤ 4294967295 := by omega
  have hb : 0 ≤ (g : Int) % 2 * (H : Int) ∧ (g : Int) % 2 * (H : Int) ≤ 65536 := by
    rcases (show (g : Int) % 2 = 0 ∨ (g : Int) % 2 = 1 by omega) with h | h <;> rw [h] <;> omega
  have Hh := Lib.hid hhalf; clear hhalf
  go_enter Tryd.func90, Tryd.ntmps90
  go_wp2_with fail
  refine Hh.out.mono ?_
  rintro e w' ⟨rfl, rfl⟩
  go_wp2_with fail
  go_ret
  exact ⟨rfl, rfl⟩
theorem rtakes_any (w : World) (n : Nat) (hn : n ≤ 140737488355328) :
    Calls Tryd.prog 83 #[.int .i64 (n : Int)] w fun e w' => e = .returned (.int .i64 (takes n : Int)) ∧ w = w' := by
  have hI : (n : Int) ≤ 140737488355328 := by omega
  go_enter Tryd.func83, Tryd.ntmps83
  go_wp2_with fail
  all_goals
    go_ret
    exact ⟨ret_int (by unfold takes; omega), rfl⟩

/-- the block of a reference journal -/
def RJBlk (w : World) (rb d g : Nat) (rv : Value) (dead : Bool) : Prop := Blk w rb [.pointer (some ⟨d, 0, none⟩), .int .i64 (g : Int), rv, .bool dead] 98

theorem takenL_take (L : List (List UInt8)) (k : Nat) (h : k < L.length) : takenL (L.take (k + 1)) = takenL (L.take k) + takes L[k].length := by
  rw [List.take_succ_eq_append_getElem h, takenL_snoc]
theorem takenL_le_of_take (L : List (List UInt8)) (k : Nat) : takenL (L.take k) ≤ takenL L := by
  have h : takenL L = takenL (L.take k) + takenL (L.drop k) := by
    unfold takenL
    rw [← List.sum_append, ← List.map_append, List.take_append_drop]
  omega

theorem rtaken_any (w : World) (rb d g : Nat) (rv : Value) (dead : Bool) (hj : RJBlk w rb d g rv dead) (R : Blks) (L : List (List UInt8)) (hr : RowsIn R w 0 rv L) (hL : L.length ≤ 65536) (ht : takenL L ≤ 1000000) (hlens : ∀ b ∈ L, b.length ≤ 65536) :
    Calls Tryd.prog 80 #[.pointer (some ⟨rb, 0, none⟩)] w fun e w' => e = .returned (.int .i64 (takenL L : Int)) ∧ w = w' := by
  have c2 := hj.cell 2
  simp at c2
  obtain ⟨aR, cR, rfl, hcR, hmR⟩ := hr.shape
  obtain ⟨len, hlen⟩ : ∃ len, L.length = len := ⟨_, rfl⟩
  rw [hlen] at c2
  have hLI : (len : Int) ≤ 65536 := by omega
  have Hlen := Lib.hid hlen; have Hr := Lib.hid hr
  clear hlen hr hcR
  go_enter Tryd.func80, Tryd.ntmps80
  go_wp2_with fail
  go_loop [3, 4] (fun n i => ∃ k : Nat, k ≤ len ∧ i = .int .i64 (k : Int) ∧ n = .int .i64 ((takenL (L.take k) : Nat) : Int)) (fun _ i => len - (intOf i).toNat)
  case atStart => exact ⟨0, by omega, rfl, rfl⟩
  case round =>
    obtain ⟨k, hk, rfl, rfl⟩ := hrel
    by_cases hkl : k < len
    · have hklI : (k : Int) < (len : Int) := by omega
      have hkL : k < L.length := by rw [Hlen.out]; exact hkl
      obtain ⟨gg, cap, x, hv, hbx, hcell⟩ := Hr.out.elem k hkL
      simp at hv
      obtain ⟨rfl, rfl⟩ := hv
      have hll := hlens L[k] (List.getElem_mem hkL)
      have hst := takenL_take L k hkL
      have hle1 := takenL_le_of_take L (k + 1)
      obtain ⟨ax, cx, rfl, -⟩ := id hbx
      generalize L[k] = b at *
      have hle0 : ((takenL (L.take k) : Nat) : Int) + ((takes b.length : Nat) : Int) ≤ 1000000 := by omega
      have HT := Lib.hid (rtakes_any w b.length (by omega))
      generalize takes b.length = T at *
      generalize takenL (L.take k) = q at *
      have Hst := Lib.hid hst
      clear hst hle1 hbx
      go_wp2_with fail
      refine HT.out.mono ?_
      rintro e w' ⟨rfl, rfl⟩
      go_wp2_with fail
      go_round
      case rel => exact ⟨k + 1, by omega, by go_num, by rw [Hst.out]; go_num⟩
      case measure => simp [intOf]; omega
    · have hklI : ¬ (k : Int) < (len : Int) := by omega
      have e : L.take k = L := List.take_of_length_le (by rw [Hlen.out]; omega)
      rw [e]
      go_wp2_with fail
      go_ret
      exact ⟨rfl, rfl⟩
end Go.Proofs.YtmimplmeccoahaaDoor
/- The reference journal: the generation of a disk. -/
namespace Go.Proofs.YtmimplmeccoahaaDoor
open Go.RowKit
set_option linter.unusedVariables false
set_option maxRecDepth 20000
attribute [local go_sem] opC upC

/-- only draws lie between -/
def Drew (w w' : World) : Prop := ∃ n, w.drewN n = w'
theorem Drew.refl (w : World) : Drew w w := ⟨0, rfl⟩
theorem Drew.trans {a b c : World} (h : Drew a b) (k : Drew b c) : Drew a c := by
  obtain ⟨n, rfl⟩ := h
  obtain ⟨m, rfl⟩ := k
  refine ⟨n + m, ?_⟩
  unfold World.drewN
  congr 1
  show a.drawn + (n + m) = a.drawn + n + m
  omega
theorem Drew.drew {a b : World} (h : Drew a b) : Drew a b.drew := h.trans ⟨1, rfl⟩
theorem Drew.heap {a b : World} (h : Drew a b) : b.heap = a.heap := by obtain ⟨n, rfl⟩ := h; rfl
theorem Drew.below {a b : World} (h : Drew a b) : Below a.heap.size a b := by obtain ⟨n, rfl⟩ := h; exact Below.drewN' (Below.refl _ _) n
theorem Drew.later {a b : World} (h : Drew a b) : Later a b := h.below

/-- the sectors of a reference disk -/
theorem RefAt.row {w : World} {K : RK} {M : MD} (h : RefAt w K M) : ∃ cap, M.S.length ≤ cap ∧ w.cell? ⟨K.d, 0, none⟩ = some (.slice (some ⟨K.bs, 0, none⟩) M.S.length cap) ∧ w.cell? ⟨K.d, 1, none⟩ = some (.bool M.down) ∧ w.cell? ⟨K.d, 5, none⟩ = some (.int .i64 (M.writes : Int)) := by
  obtain ⟨cap, after, tv, hc, hm, hb, -⟩ := h.main
  exact ⟨cap, hc, by rw [hb.cell]; rfl, by rw [hb.cell]; rfl, by rw [hb.cell]; rfl⟩
theorem RefAt.sector {w : World} {K : RK} {M : MD} (h : RefAt w K M) (i : Nat) (hi : i < M.S.length) : ∃ x, w.cell? ⟨K.bs, i, none⟩ = some x ∧ Bytes K.R w x M.S[i] := by
  obtain ⟨cap, after, tv, hc, hm, hb, ⟨L, hL, hLl, hs⟩, -⟩ := h.main
  obtain ⟨v, hv, hbv⟩ := hs i hi
  exact ⟨v, by rw [hL.cell]; exact hv, hbv⟩

def gv (st : Bool × Nat) : Int := if st.1 then (st.2 : Int) else -1
def GenRelR (w : World) (S : List (List UInt8)) (f i : Value) (wr : World) : Prop :=
  ∃ m : Nat, m ≤ 2 ∧ i = .int .i64 (m : Int) ∧ f = .int .i64 (gv (genS S m)) ∧ Drew w wr


set_option maxRecDepth 100000 in
set_option maxHeartbeats 1200000 in
theorem rgen_any (w : World) (K : RK) (M : MD) (h : RefAt w K M) (h8 : 8 ≤ M.S.length) :
    Calls Tryd.prog 78 #[.pointer (some ⟨K.d, 0, none⟩)] w fun e w' => e = .returned (.int .i64 (gv (genS M.S 2))) ∧ Drew w w' := by
  obtain ⟨cap, hcap, c0, -, -⟩ := h.row
  have hle := h.len
  go_enter Tryd.func78, Tryd.ntmps78
  go_wp2_with fail
  go_loopw [3, 4] (fun f i wr => GenRelR w M.S f i wr) (fun _ i _ => 2 - (intOf i).toNat)
  case atStart => exact ⟨0, by omega, rfl, rfl, Drew.refl w⟩
  case round =>
    obtain ⟨m, hm, rfl, rfl, hdr⟩ := hrel
    by_cases hml : m < 2
    · have hmI : (m : Int) < 2 := by omega
      have hmn : m < M.S.length := by omega
      obtain ⟨x, hx, hbx⟩ := h.sector m hmn
      have h64 : M.S[m].length = 64 := h.s64 _ (List.getElem_mem hmn)
      have hsl : M.S.getD m [] = M.S[m] := by rw [List.getD_eq_getElem?_getD, List.getElem?_eq_getElem hmn]; rfl
      have hx' : wr.cell? ⟨K.bs, m, none⟩ = some x := by unfold World.cell? at *; rw [hdr.heap]; exact hx
      have c0' : wr.cell? ⟨K.d, 0, none⟩ = some (.slice (some ⟨K.bs, 0, none⟩) M.S.length cap) := by unfold World.cell? at *; rw [hdr.heap]; exact c0
      have hbx : Bytes K.R wr x M.S[m] := hbx.keep fun b _ _ => by rw [hdr.heap]
      have hstep : genS M.S (m + 1) = if isHead (M.S[m]) m && (!(genS M.S m).1 || decide ((genS M.S m).2 < read4 (M.S[m]) 4)) then (true, read4 (M.S[m]) 4) else genS M.S m := by
        simp only [genS, genStep, hsl]
      obtain ⟨xa, xc, rfl, -⟩ := id hbx
      generalize M.S[m] = sl at *
      have hread := rread_any wr _ _ _ hbx 4 (by omega) (by omega)
      rw [show ((4 : Nat) : Int) = 4 from rfl] at hread
      have hg32 := genS_lt M.S m
      obtain ⟨st, hst⟩ : ∃ st, genS M.S m = st := ⟨_, rfl⟩
      rw [hst] at hstep hg32 ⊢
      have hmnI : (m : Int) < (M.S.length : Int) := by omega
      have Hread := Lib.hid hread; have Hstep := Lib.hid hstep
      have h4 := read4_lt sl 4
      have hxcI : (64 : Int) ≤ (xc : Int) := by obtain ⟨a', c', he, hc, -⟩ := id hbx; simp at he; obtain ⟨-, rfl⟩ := he; omega
      have H64 := Lib.hid h64
      clear hread hstep hst hsl hx c0 h64
      obtain ⟨fd, gg⟩ := st
      dsimp only at hg32
      cases hin : intact sl with
      | false =>
        have hs : genS M.S (m + 1) = (fd, gg) := by rw [Hstep.out, if_neg (by simp [isHead, hin])]
        go_wp2_with fail
        refine Hread.out.mono ?_
        rintro e w2 ⟨rfl, hw2⟩
        have hw2 : Drew wr w2 := hw2
        have hbx2 : Bytes K.R w2 (.slice xa sl.length xc) sl := hbx.keep fun b _ _ => by rw [hw2.heap]
        have HI := Lib.hid (rintact_any w2 _ _ _ hbx2 H64.out)
        clear hbx2
        go_wp2_with fail
        refine HI.out.mono ?_
        rintro e w3 ⟨rfl, hw3⟩
        have hw3 : Drew wr w3 := hw2.trans hw3
        have hconv := run_str (Bytes.take (hbx.keep (w' := w3) fun b _ _ => by rw [hw3.heap]) 4 (by rw [H64.out]; omega))
        have Hdr := Lib.hid (hdr.trans hw3)
        rw [hin]
        clear HI Hread hw2 hw3 hdr hbx
        have Hs := Lib.hid hs
        clear hs
        go_wp2_with fail
        go_roundw
        case rel => exact ⟨m + 1, by omega, by go_num, by first | (rw [Hs.out]; done) | (rw [Hs.out]; rfl), Hdr.out⟩
        case measure => simp [intOf]; omega
      | true =>
        by_cases hmg : sl.take 4 = [72, 78, 75, 74]
        · by_cases hpar : (read4 sl 4 : Int) % 2 = (m : Int)
          · have hparN : read4 sl 4 % 2 = m := by omega
            have hhead : isHead sl m = true := by simp [isHead, hin, hmg, hparN, magicB]
            cases fd with
            | false =>
              have hs : genS M.S (m + 1) = (true, read4 sl 4) := by rw [Hstep.out, if_pos (by simp [hhead])]
              clear hhead hparN
              rw [show gv (false, gg) = -1 from rfl]
              go_wp2_with fail
              refine Hread.out.mono ?_
              rintro e w2 ⟨rfl, hw2⟩
              have hw2 : Drew wr w2 := hw2
              have hbx2 : Bytes K.R w2 (.slice xa sl.length xc) sl := hbx.keep fun b _ _ => by rw [hw2.heap]
              have HI := Lib.hid (rintact_any w2 _ _ _ hbx2 H64.out)
              clear hbx2
              go_wp2_with fail
              refine HI.out.mono ?_
              rintro e w3 ⟨rfl, hw3⟩
              have hw3 : Drew wr w3 := hw2.trans hw3
              have hconv := run_str (Bytes.take (hbx.keep (w' := w3) fun b _ _ => by rw [hw3.heap]) 4 (by rw [H64.out]; omega))
              have Hdr := Lib.hid (hdr.trans hw3)
              rw [hin]
              clear HI Hread hw2 hw3 hdr hbx
              have Hs := Lib.hid hs
              clear hs
              go_wp2_with fail
              go_roundw
              case rel => exact ⟨m + 1, by omega, by go_num, by first | (rw [Hs.out]; done) | (rw [Hs.out]; rfl), Hdr.out⟩
              case measure => simp [intOf]; omega
            | true =>
              rw [show gv (true, gg) = (gg : Int) from rfl]
              by_cases hgt : (gg : Int) < (read4 sl 4 : Int)
              · have hs : genS M.S (m + 1) = (true, read4 sl 4) := by rw [Hstep.out, if_pos (by simp [hhead]; omega)]
                clear hhead hparN
                go_wp2_with fail
                refine Hread.out.mono ?_
                rintro e w2 ⟨rfl, hw2⟩
                have hw2 : Drew wr w2 := hw2
                have hbx2 : Bytes K.R w2 (.slice xa sl.length xc) sl := hbx.keep fun b _ _ => by rw [hw2.heap]
                have HI := Lib.hid (rintact_any w2 _ _ _ hbx2 H64.out)
                clear hbx2
                go_wp2_with fail
                refine HI.out.mono ?_
                rintro e w3 ⟨rfl, hw3⟩
                have hw3 : Drew wr w3 := hw2.trans hw3
                have hconv := run_str (Bytes.take (hbx.keep (w' := w3) fun b _ _ => by rw [hw3.heap]) 4 (by rw [H64.out]; omega))
                have Hdr := Lib.hid (hdr.trans hw3)
                rw [hin]
                clear HI Hread hw2 hw3 hdr hbx
                have Hs := Lib.hid hs
                clear hs
                go_wp2_with fail
                go_roundw
                case rel => exact ⟨m + 1, by omega, by go_num, by first | (rw [Hs.out]; done) | (rw [Hs.out]; rfl), Hdr.out⟩
                case measure => simp [intOf]; omega
              · have hs : genS M.S (m + 1) = (true, gg) := by rw [Hstep.out, if_neg (by simp; omega)]
                clear hhead hparN
                go_wp2_with fail
                refine Hread.out.mono ?_
                rintro e w2 ⟨rfl, hw2⟩
                have hw2 : Drew wr w2 := hw2
                have hbx2 : Bytes K.R w2 (.slice xa sl.length xc) sl := hbx.keep fun b _ _ => by rw [hw2.heap]
                have HI := Lib.hid (rintact_any w2 _ _ _ hbx2 H64.out)
                clear hbx2
                go_wp2_with fail
                refine HI.out.mono ?_
                rintro e w3 ⟨rfl, hw3⟩
                have hw3 : Drew wr w3 := hw2.trans hw3
                have hconv := run_str (Bytes.take (hbx.keep (w' := w3) fun b _ _ => by rw [hw3.heap]) 4 (by rw [H64.out]; omega))
                have Hdr := Lib.hid (hdr.trans hw3)
                rw [hin]
                clear HI Hread hw2 hw3 hdr hbx
                have Hs := Lib.hid hs
                clear hs
                go_wp2_with fail
                go_roundw
                case rel => exact ⟨m + 1, by omega, by go_num, by first | (rw [Hs.out]; done) | (rw [Hs.out]; rfl), Hdr.out⟩
                case measure => simp [intOf]; omega
          · have hs : genS M.S (m + 1) = (fd, gg) := by rw [Hstep.out, if_neg (by simp [isHead]; omega)]
            go_wp2_with fail
            refine Hread.out.mono ?_
            rintro e w2 ⟨rfl, hw2⟩
            have hw2 : Drew wr w2 := hw2
            have hbx2 : Bytes K.R w2 (.slice xa sl.length xc) sl := hbx.keep fun b _ _ => by rw [hw2.heap]
            have HI := Lib.hid (rintact_any w2 _ _ _ hbx2 H64.out)
            clear hbx2
            go_wp2_with fail
            refine HI.out.mono ?_
            rintro e w3 ⟨rfl, hw3⟩
            have hw3 : Drew wr w3 := hw2.trans hw3
            have hconv := run_str (Bytes.take (hbx.keep (w' := w3) fun b _ _ => by rw [hw3.heap]) 4 (by rw [H64.out]; omega))
            have Hdr := Lib.hid (hdr.trans hw3)
            rw [hin]
            clear HI Hread hw2 hw3 hdr hbx
            have Hs := Lib.hid hs
            clear hs
            go_wp2_with fail
            go_roundw
            case rel => exact ⟨m + 1, by omega, by go_num, by first | (rw [Hs.out]; done) | (rw [Hs.out]; rfl), Hdr.out⟩
            case measure => simp [intOf]; omega
        · have hs : genS M.S (m + 1) = (fd, gg) := by rw [Hstep.out, if_neg (by simp [isHead, magicB, hmg])]
          go_wp2_with fail
          refine Hread.out.mono ?_
          rintro e w2 ⟨rfl, hw2⟩
          have hw2 : Drew wr w2 := hw2
          have hbx2 : Bytes K.R w2 (.slice xa sl.length xc) sl := hbx.keep fun b _ _ => by rw [hw2.heap]
          have HI := Lib.hid (rintact_any w2 _ _ _ hbx2 H64.out)
          clear hbx2
          go_wp2_with fail
          refine HI.out.mono ?_
          rintro e w3 ⟨rfl, hw3⟩
          have hw3 : Drew wr w3 := hw2.trans hw3
          have hconv := run_str (Bytes.take (hbx.keep (w' := w3) fun b _ _ => by rw [hw3.heap]) 4 (by rw [H64.out]; omega))
          have Hdr := Lib.hid (hdr.trans hw3)
          rw [hin]
          clear HI Hread hw2 hw3 hdr hbx
          have Hs := Lib.hid hs
          clear hs
          go_wp2_with fail
          go_roundw
          case rel => exact ⟨m + 1, by omega, by go_num, by first | (rw [Hs.out]; done) | (rw [Hs.out]; rfl), Hdr.out⟩
          case measure => simp [intOf]; omega
    · have hmI : ¬ (m : Int) < 2 := by omega
      obtain rfl : m = 2 := by omega
      go_wp2_with fail
      go_ret
      exact ⟨rfl, hdr⟩
end Go.Proofs.YtmimplmeccoahaaDoor
/- The reference journal: the record at a place. -/
namespace Go.Proofs.YtmimplmeccoahaaDoor
open Go.RowKit
set_option linter.unusedVariables false
set_option maxRecDepth 20000
attribute [local go_sem ↓] seal_append
attribute [local go_sem] opC upC

theorem bytes_mid {F : Blks} {w : World} {b off xc : Nat} {sl : List UInt8} (h : Bytes F w (.slice (some ⟨b, off, none⟩) sl.length xc) sl) (hl : sl.length = 64) : Bytes F w (.slice (some ⟨b, off + 12, none⟩) 48 (xc - 12)) ((sl.drop 12).take 48) := by
  have hl2 : ((sl.drop 12).take 48).length = 48 := by simp; omega
  obtain ⟨a, cap, he, hc, hm, hz, hx⟩ := h
  simp at he
  obtain ⟨rfl, rfl⟩ := he
  obtain ⟨b', off', L, t, fz, e, hF, hg, hle, hr⟩ := hx.resolve_left (by rintro rfl; simp at hl)
  simp at e
  obtain ⟨rfl, rfl⟩ := e
  refine ⟨some ⟨b, off + 12, none⟩, xc - 12, by rw [hl2], by omega, by omega, nofun, .inr ⟨b, off + 12, L, t, fz, rfl, hF, hg, by omega, fun i hi => ?_⟩⟩
  rw [hl2] at hi
  have := hr (12 + i) (by omega)
  rw [Nat.add_assoc, this]
  congr 2
  rw [List.getElem_take, List.getElem_drop]

/-- the sector at a place of a reference disk -/
theorem RefAt.at_place {w : World} {K : RK} {M : MD} (h : RefAt w K M) (g p : Nat) (hp : p < halfN M.S.length) :
    placeN M.S.length g p < M.S.length ∧ ∃ b off xc, w.cell? ⟨K.bs, placeN M.S.length g p, none⟩ = some (.slice (some ⟨b, off, none⟩) (secM M.S g p).length xc) ∧ Bytes K.R w (.slice (some ⟨b, off, none⟩) (secM M.S g p).length xc) (secM M.S g p) ∧ (secM M.S g p).length = 64 ∧ 64 ≤ xc ∧ xc ≤ maxLen := by
  have hpl := placeN_lt M.S.length g p hp
  refine ⟨hpl, ?_⟩
  obtain ⟨x, hx, hbx⟩ := h.sector _ hpl
  have e : secM M.S g p = M.S[placeN M.S.length g p] := by unfold secM; rw [List.getD_eq_getElem?_getD, List.getElem?_eq_getElem hpl]; rfl
  have h64 := h.s64 _ (List.getElem_mem hpl)
  rw [← e] at h64 hbx
  obtain ⟨a, cap, rfl, hc, hm, hz, hxx⟩ := id hbx
  obtain ⟨b, off, L, t, fz, rfl, -⟩ := hxx.resolve_left (by intro h0; rw [h0] at h64; simp at h64)
  exact ⟨b, off, cap, hx, hbx, h64, by omega, hm⟩


set_option maxRecDepth 100000 in
set_option maxHeartbeats 4000000 in
theorem rrecord_any (w : World) (K : RK) (M : MD) (h : RefAt w K M) (h8 : 8 ≤ M.S.length) (g k p : Nat) (hg : g < 4294967296) (hk : k ≤ 65536) (hp : p ≤ 65536) :
    Calls Tryd.prog 79 #[.pointer (some ⟨K.d, 0, none⟩), .int .i64 (g : Int), .int .i64 (k : Int), .int .i64 (p : Int)] w (NextPost w (recordM M.S g k p)) := by
  have hle := h.len
  have hH : halfN M.S.length ≤ 32768 := by unfold halfN; omega
  have hrr : ∀ {w'}, Below w.heap.size w w' → RefAt w' K M := fun hb => h.kept hb
  obtain ⟨cap, hcap, c0, -, -⟩ := h.row
  have hlt := h.lt K.d (.inl rfl)
  have q0' : ∀ w0 : World, Below w.heap.size w w0 → ∀ w', Later w0.drew w' → w'.cell? ⟨K.d, 0, none⟩ = some (.slice (some ⟨K.bs, 0, none⟩) M.S.length cap) := fun w0 hb w' hh => later_cell (by rw [hb.cell (p := ⟨K.d, 0, none⟩) hlt]; exact c0) hh
  have hhalf := rhalf_any w M.S.length (by omega) (by omega)
  obtain ⟨H, hHe⟩ : ∃ H, halfN M.S.length = H := ⟨_, rfl⟩
  rw [hHe] at hH hhalf
  have HHe := Lib.hid hHe; have Q0 := Lib.hid q0'; have Hhalf := Lib.hid hhalf; have Href := Lib.hid h
  clear hHe q0' hhalf
  have hHI : (H : Int) ≤ 32768 := by omega
  have hpI : (p : Int) ≤ 65536 := by omega
  have hkI : (k : Int) ≤ 65536 := by omega
  have hgI : (g : Int) ≤ 4294967295 := by omega
  have hnI : (M.S.length : Int) ≤ 65536 := by omega
  go_enter Tryd.func79, Tryd.ntmps79
  go_wp2_with fail
  refine Hhalf.out.mono ?_
  rintro e w' ⟨rfl, rfl⟩
  by_cases hT : H ≤ p
  · have hTI : (H : Int) ≤ (p : Int) := by omega
    have hr : recordM M.S g k p = none := by unfold recordM; rw [HHe.out, if_pos hT]
    have Hr := Lib.hid hr
    clear hr
    go_wp2_with fail
    go_ret2
    rw [Hr.out]
    exact ⟨rfl, Below.refl _ _⟩
  have hTI : ¬ (H : Int) ≤ (p : Int) := by omega
  obtain ⟨hpl, bs, os, xs, hcs, hbs, h64, hxs, hxm⟩ := h.at_place g p (by rw [HHe.out]; omega)
  have hplace := rplace_any w.drew M.S.length (by omega) (by omega) g p (by omega) (by omega)
  obtain ⟨sl, hsl⟩ : ∃ sl, secM M.S g p = sl := ⟨_, rfl⟩
  rw [hsl] at hcs hbs h64
  have qs : ∀ w', Later w.drew w' → w'.cell? ⟨K.bs, placeN M.S.length g p, none⟩ = some (.slice (some ⟨bs, os, none⟩) sl.length xs) := fun w' hh => later_cell hcs hh
  have hbs1 : Bytes K.R w.drew (.slice (some ⟨bs, os, none⟩) sl.length xs) sl := hbs.keep fun _ _ _ => rfl
  have hread := rread_any w.drew _ _ _ hbs1 8 (by omega) (by omega)
  rw [show ((8 : Nat) : Int) = 8 from rfl] at hread
  obtain ⟨P, hP⟩ : ∃ P, placeN M.S.length g p = P := ⟨_, rfl⟩
  rw [hP] at hplace qs hpl
  have hplI : (P : Int) < (M.S.length : Int) := by omega
  have Hplace := Lib.hid hplace; have Hread := Lib.hid hread; have Hsl := Lib.hid hsl
  clear hplace hread hsl hP hcs hbs hbs1 h64 hxs hxm
  have q0 := Q0.out w (Below.refl _ _)
  go_wp2_with fail
  refine wp_region_can Later [(0, true), (1, true), (2, true), (3, true), (4, true), (5, true), (6, true), (7, true), (8, true), (9, true), (10, true), (11, false), (12, true), (13, true), (14, false), (15, true)] (by kernel_rfl) (by kernel_rfl) later_refl later_trans ?_
  repeat (first
    | (refine can_yes (v := ?_) rfl (wanted_none rfl) (fun w' hC => ?_) (fun K hK => ?_); rotate_left; (focus (go_simp; first | done | exact rfl)); go_simp; refine hK _ ?_; clear hK K)
    | (refine can_guard rfl (fun A B hA hB => ?_); go_simp; first | (refine hA ⟨?_, fun w' hC => ?_, fun K hK => ?_⟩; rotate_left; (focus (go_simp; first | done | exact rfl)); go_simp; refine hK _ ?_; clear hK K hA hB A B) | (refine hB (fun K hK => ?_); go_simp; refine hK _ ?_; clear hK K hA hB A B))
    | (refine can_guard_go rfl (fun A B hA hB => ?_); go_simp; refine hB (fun K hK => ?_); go_simp; refine hK _ ?_; clear hK K hA hB A B))
  refine can_go rfl rfl (fun KK hK => ?_)
  go_simp
  refine Hplace.out.mono ?_
  rintro e w' ⟨rfl, rfl⟩
  refine ⟨_, rfl, later_refl _, hK _ _ ?_⟩
  clear hK KK
  go_simp
  repeat (first
    | (refine can_yes (v := ?_) rfl (wanted_none rfl) (fun w' hC => ?_) (fun K hK => ?_); rotate_left; (focus (go_simp; first | done | exact rfl)); go_simp; refine hK _ ?_; clear hK K)
    | (refine can_guard rfl (fun A B hA hB => ?_); go_simp; first | (refine hA ⟨?_, fun w' hC => ?_, fun K hK => ?_⟩; rotate_left; (focus (go_simp; first | done | exact rfl)); go_simp; refine hK _ ?_; clear hK K hA hB A B) | (refine hB (fun K hK => ?_); go_simp; refine hK _ ?_; clear hK K hA hB A B))
    | (refine can_guard_go rfl (fun A B hA hB => ?_); go_simp; refine hB (fun K hK => ?_); go_simp; refine hK _ ?_; clear hK K hA hB A B))
  refine can_go rfl rfl (fun KK hK => ?_)
  go_simp
  refine Hread.out.mono ?_
  rintro e w3 ⟨rfl, hd3⟩
  have hd3 : Drew w.drew w3 := hd3
  refine ⟨_, rfl, hd3.later, hK _ _ ?_⟩
  clear hK KK
  go_simp
  repeat (first
    | (refine can_yes (v := ?_) rfl (wanted_none rfl) (fun w' hC => ?_) (fun K hK => ?_); rotate_left; (focus (go_simp; first | done | exact rfl)); go_simp; refine hK _ ?_; clear hK K)
    | (refine can_guard rfl (fun A B hA hB => ?_); go_simp; first | (refine hA ⟨?_, fun w' hC => ?_, fun K hK => ?_⟩; rotate_left; (focus (go_simp; first | done | exact rfl)); go_simp; refine hK _ ?_; clear hK K hA hB A B) | (refine hB (fun K hK => ?_); go_simp; refine hK _ ?_; clear hK K hA hB A B))
    | (refine can_guard_go rfl (fun A B hA hB => ?_); go_simp; refine hB (fun K hK => ?_); go_simp; refine hK _ ?_; clear hK K hA hB A B))
  refine can_nil ?_
  have b3 : Below w.heap.size w w3 := (Below.refl _ _).drew.trans hd3.below
  clear q0 qs hd3 Hplace Hread hpl hplI
  have hrec : recordM M.S g k p = if 65536 < read4 sl 8 ∨ H < p + takes (read4 sl 8) then none else
      if piecesOk M.S g k p (read4 sl 8) (takes (read4 sl 8)) then some ((bodyM M.S g p (takes (read4 sl 8))).take (read4 sl 8)) else none := by
    unfold recordM; rw [HHe.out, if_neg hT, Hsl.out]
  have hn32 : read4 sl 8 < 4294967296 := read4_lt _ _
  generalize read4 sl 8 = n at *
  have Hrec := Lib.hid hrec
  clear hrec
  by_cases hn : 65536 < n
  · have hnI : (65536 : Int) < (n : Int) := by omega
    have hnD : decide ((65536 : Int) < (n : Int)) = true := decide_eq_true hnI
    go_wp2_with fail
    go_ret2
    rw [Hrec.out, if_pos (.inl hn)]
    exact ⟨rfl, b3⟩
  have hnI : ¬ (65536 : Int) < (n : Int) := by omega
  have hnD : decide ((65536 : Int) < (n : Int)) = false := decide_eq_false hnI
  have hnI2 : (n : Int) ≤ 65536 := by omega
  have htk := takes_pos n
  have htk2 : takes n ≤ 1366 := by unfold takes; omega
  have htakes := fun w0 => rtakes_any w0 n (by omega)
  obtain ⟨T, hTe⟩ : ∃ T, takes n = T := ⟨_, rfl⟩
  have HT := Lib.hid hTe
  rw [hTe] at htk htk2 htakes
  have Htakes := Lib.hid htakes
  clear hTe htakes
  have hTI2 : (T : Int) ≤ 1366 := by omega
  go_wp2_with fail
  refine (Htakes.out w3).mono ?_
  rintro e w' ⟨rfl, rfl⟩
  by_cases hfit : H < p + T
  · have hfI : (H : Int) < (p : Int) + (T : Int) := by omega
    go_wp2_with fail
    go_ret2
    rw [Hrec.out, HT.out, if_pos (.inr hfit)]
    exact ⟨rfl, b3⟩
  have hfI : ¬ (H : Int) < (p : Int) + (T : Int) := by omega
  have hrec2 : recordM M.S g k p = if piecesOk M.S g k p n T then some ((bodyM M.S g p T).take n) else none := by
    rw [Hrec.out, HT.out, if_neg (by omega)]
  have Hrec2 := Lib.hid hrec2
  clear hrec2
  go_wp2_with fail
  go_loopw [12, 13] (fun v i wr => NextRel w M.S g k p n T v i wr) (fun _ i _ => T - (intOf i).toNat)
  case atStart => exact ⟨0, by omega, rfl, rfl, World.ownsRow_nil _ _ _ _, b3⟩
  case round =>
    obtain ⟨m, hm, rfl, hpo, hown, hbw⟩ := hrel
    go_wp2_with fail
    refine (Htakes.out wr).mono ?_
    rintro e w' ⟨rfl, rfl⟩
    by_cases hmt : m < T
    · have hmI : (m : Int) < (T : Int) := by omega
      have hTT : takes n = max 1 ((n + 47) / 48) := rfl
      have h48 : 48 * m ≤ n := by have := HT.out; omega
      have hw2 := IntWalk.i64_in ((p : Int) + (m : Int)) (by omega)
      obtain ⟨hpl, bx, ox, xc, hcx, hbx, h64, hxc, hxm⟩ := (hrr hbw).at_place g (p + m) (by rw [HHe.out]; omega)
      have hplace := rplace_any wr.drew M.S.length (by omega) (by omega) g (p + m) (by omega) (by omega)
      obtain ⟨sl, hsm⟩ : ∃ sm, secM M.S g (p + m) = sm := ⟨_, rfl⟩
      rw [hsm] at hcx hbx h64
      rw [show ((p + m : Nat) : Int) = (p : Int) + (m : Int) by omega] at hplace
      have hstep : piecesOk M.S g k p n (m + 1) = pieceOk sl g k (n - 48 * m) := by
        simp only [piecesOk, hpo, hsm, Bool.true_and]
      have hbad : pieceOk sl g k (n - 48 * m) = false → recordM M.S g k p = none := fun hb => by
        rw [Hrec2.out, if_neg]
        intro hh
        have := piecesOk_le M.S g k p n (m + 1) (T - (m + 1)) (by rw [show m + 1 + (T - (m + 1)) = T by omega]; exact hh)
        rw [hstep, hb] at this
        cases this
      have hbody : bodyM M.S g p (m + 1) = bodyM M.S g p m ++ (sl.drop 12).take 48 := by
        simp only [bodyM, hsm]
      have qs : ∀ w', Later wr.drew w' → w'.cell? ⟨K.bs, placeN M.S.length g (p + m), none⟩ = some (.slice (some ⟨bx, ox, none⟩) sl.length xc) := fun w' hh => later_cell hcx hh
      obtain ⟨P, hP⟩ : ∃ P, placeN M.S.length g (p + m) = P := ⟨_, rfl⟩
      rw [hP] at hplace qs hpl
      have hplI : (P : Int) < (M.S.length : Int) := by omega
      have Hplace := Lib.hid hplace; have Hstep := Lib.hid hstep; have Hbad := Lib.hid hbad; have Hbody := Lib.hid hbody; have Hown := Lib.hid hown; have Hpo := Lib.hid hpo; have H64 := Lib.hid h64
      have hxcI : (64 : Int) ≤ (xc : Int) := by omega
      have Hbs := Lib.hid hbx
      clear hplace hstep hbad hbody hown hpo hsm hTT hP hcx hbx h64 hxm
      have q0 := Q0.out wr hbw
      go_wp2_with fail
      refine wp_region_can Later [(0, true), (1, true), (2, true), (3, true), (4, true), (5, true), (6, true), (7, true), (8, true), (9, true), (10, true), (11, true), (12, true), (13, false), (14, true), (15, true), (16, true)] (by kernel_rfl) (by kernel_rfl) later_refl later_trans ?_
      repeat (first
        | (refine can_yes (v := ?_) rfl (wanted_none rfl) (fun w' hC => ?_) (fun K hK => ?_); rotate_left; (focus (go_simp; first | done | exact rfl)); go_simp; refine hK _ ?_; clear hK K)
        | (refine can_guard rfl (fun A B hA hB => ?_); go_simp; first | (refine hA ⟨?_, fun w' hC => ?_, fun K hK => ?_⟩; rotate_left; (focus (go_simp; first | done | exact rfl)); go_simp; refine hK _ ?_; clear hK K hA hB A B) | (refine hB (fun K hK => ?_); go_simp; refine hK _ ?_; clear hK K hA hB A B))
        | (refine can_guard_go rfl (fun A B hA hB => ?_); go_simp; refine hB (fun K hK => ?_); go_simp; refine hK _ ?_; clear hK K hA hB A B))
      refine can_go rfl rfl (fun KK hK => ?_)
      go_simp
      refine Hplace.out.mono ?_
      rintro e w' ⟨rfl, rfl⟩
      refine ⟨_, rfl, later_refl _, hK _ _ ?_⟩
      clear hK KK
      go_simp
      repeat (first
        | (refine can_yes (v := ?_) rfl (wanted_none rfl) (fun w' hC => ?_) (fun K hK => ?_); rotate_left; (focus (go_simp; first | done | exact rfl)); go_simp; refine hK _ ?_; clear hK K)
        | (refine can_guard rfl (fun A B hA hB => ?_); go_simp; first | (refine hA ⟨?_, fun w' hC => ?_, fun K hK => ?_⟩; rotate_left; (focus (go_simp; first | done | exact rfl)); go_simp; refine hK _ ?_; clear hK K hA hB A B) | (refine hB (fun K hK => ?_); go_simp; refine hK _ ?_; clear hK K hA hB A B))
        | (refine can_guard_go rfl (fun A B hA hB => ?_); go_simp; refine hB (fun K hK => ?_); go_simp; refine hK _ ?_; clear hK K hA hB A B))
      refine can_nil ?_
      clear q0 qs Hplace hpl hplI hw2
      obtain ⟨w5, hw5⟩ : ∃ w5, w5 = wr.drew := ⟨_, rfl⟩
      have b5 : Below w.heap.size w w5 := by rw [hw5]; exact hbw.drew
      have Hbs : Hid (Bytes K.R w5 (.slice (some ⟨bx, ox, none⟩) sl.length xc) sl) := Lib.hid (by rw [hw5]; exact Hbs.out.keep fun _ _ _ => rfl)
      have Hown5 := Lib.hid (show w5.ownsRow w.heap.size 5 1 _ _ _ from by rw [hw5]; exact owns_kept Hown.out (Below.refl _ _).drew)
      rw [← hw5]
      clear hw5 hbw Hown
      cases hin : intact sl with
      | false =>
        have hb : pieceOk sl g k (n - 48 * m) = false := by simp [pieceOk, hin]
        have hbs := Hbs.out
        go_wp2_with fail
        refine (rintact_any w5 _ _ _ hbs H64.out).mono ?_
        rintro e w6 ⟨rfl, hd6⟩
        have hd6 : Drew w5 w6 := hd6
        have b6 : Below w.heap.size w w6 := b5.trans (hd6.below.mono b5.size)
        have hbs6 : Bytes K.R w6 (.slice (some ⟨bx, ox, none⟩) sl.length xc) sl := hbs.keep fun b _ _ => by rw [hd6.heap]
        rw [hin]
        clear hbs
        clear hbs6
        go_wp2_with fail
        go_ret2
        rw [Hbad.out hb]
        exact ⟨rfl, b6⟩
      | true =>
      by_cases h0g : read4 sl 0 = g
      · have n0 : ((read4 sl 0 : Int) != (g : Int)) = false := by simp [h0g]
        by_cases h4k : read4 sl 4 = k
        · have n4 : ((read4 sl 4 : Int) != (k : Int)) = false := by simp [h4k]
          by_cases h8n : read4 sl 8 = n - 48 * m
          · have n8 : ((read4 sl 8 : Int) != (n : Int) - 48 * (m : Int)) = false := by simp; omega
            have hok : pieceOk sl g k (n - 48 * m) = true := by simp [pieceOk, hin, h0g, h4k, h8n]
            have Hok := Lib.hid hok; have H0 := Lib.hid h0g; have H4 := Lib.hid h4k; have H8 := Lib.hid h8n
            clear hok h0g h4k h8n
            have hbs := Hbs.out
            go_wp2_with fail
            refine (rintact_any w5 _ _ _ hbs H64.out).mono ?_
            rintro e w6 ⟨rfl, hd6⟩
            have hd6 : Drew w5 w6 := hd6
            have b6 : Below w.heap.size w w6 := b5.trans (hd6.below.mono b5.size)
            have hbs6 : Bytes K.R w6 (.slice (some ⟨bx, ox, none⟩) sl.length xc) sl := hbs.keep fun b _ _ => by rw [hd6.heap]
            rw [hin]
            clear hbs
            have hbsq6 := hbs6
            have HRd := Lib.hid (rread_any w6 _ _ _ hbsq6 0 (by rw [H64.out]; omega) (by omega))
            rw [show ((0 : Nat) : Int) = 0 from rfl] at HRd
            clear hbsq6 hbs6
            go_wp2_with fail
            refine HRd.out.mono ?_
            rintro e w7 ⟨rfl, hdn⟩
            have hdn : Drew w6 w7 := hdn
            have hd7 : Drew w5 w7 := hd6.trans hdn
            have b7 : Below w.heap.size w w7 := b5.trans (hd7.below.mono b5.size)
            have hbs7 : Bytes K.R w7 (.slice (some ⟨bx, ox, none⟩) sl.length xc) sl := Hbs.out.keep fun b _ _ => by rw [hd7.heap]
            clear hdn HRd
            have hbsq7 := hbs7
            have HRd := Lib.hid (rread_any w7 _ _ _ hbsq7 4 (by rw [H64.out]; omega) (by omega))
            rw [show ((4 : Nat) : Int) = 4 from rfl] at HRd
            clear hbsq7 hbs7
            go_wp2_with fail
            refine HRd.out.mono ?_
            rintro e w8 ⟨rfl, hdn⟩
            have hdn : Drew w7 w8 := hdn
            have hd8 : Drew w5 w8 := hd7.trans hdn
            have b8 : Below w.heap.size w w8 := b5.trans (hd8.below.mono b5.size)
            have hbs8 : Bytes K.R w8 (.slice (some ⟨bx, ox, none⟩) sl.length xc) sl := Hbs.out.keep fun b _ _ => by rw [hd8.heap]
            clear hdn HRd
            have hbsq8 := hbs8
            have HRd := Lib.hid (rread_any w8 _ _ _ hbsq8 8 (by rw [H64.out]; omega) (by omega))
            rw [show ((8 : Nat) : Int) = 8 from rfl] at HRd
            clear hbsq8 hbs8
            go_wp2_with fail
            refine HRd.out.mono ?_
            rintro e w9 ⟨rfl, hdn⟩
            have hdn : Drew w8 w9 := hdn
            have hd9 : Drew w5 w9 := hd8.trans hdn
            have b9 : Below w.heap.size w w9 := b5.trans (hd9.below.mono b5.size)
            have hbs9 : Bytes K.R w9 (.slice (some ⟨bx, ox, none⟩) sl.length xc) sl := Hbs.out.keep fun b _ _ => by rw [hd9.heap]
            clear hdn HRd
            have hownA := owns_kept Hown5.out hd9.below
            have hlb : (bodyM M.S g p m).length = 48 * m := bodyM_length _ (fun s hs => Href.out.s64 s hs) _ _ _ (fun j hj => placeN_lt _ _ _ (by rw [HHe.out]; omega))
            obtain ⟨vB, wB, hap, hownB, hgB⟩ := run_append_bytes w9 w.heap.size _ _ hownA _ _ _ (bytes_mid hbs9 H64.out) (by rw [hlb]; simp; omega) b9.size
            rw [← Hbody.out] at hownB
            have bB : Below w.heap.size w wB := b9.grown hgB b9.size (fun q hq => by
              rcases hownA.2 with ⟨h, _⟩ | ⟨g', cap', cur, h, hlo, _⟩
              · rw [h] at hq; cases hq
              · rw [h] at hq; simp [Value.ownBlock] at hq; omega)
            have HownB := Lib.hid hownB
            clear hownB hownA hgB hlb hbs9
            go_wp2_with fail
            go_roundw
            case rel => exact ⟨m + 1, by omega, by go_num, by rw [Hstep.out]; exact Hok.out, HownB.out, bB⟩
            case measure => simp [intOf]; omega
          · have n8 : ((read4 sl 8 : Int) != (n : Int) - 48 * (m : Int)) = true := by simp; omega
            have hb : pieceOk sl g k (n - 48 * m) = false := by simp [pieceOk, h8n]
            clear h0g h4k h8n
            have hbs := Hbs.out
            go_wp2_with fail
            refine (rintact_any w5 _ _ _ hbs H64.out).mono ?_
            rintro e w6 ⟨rfl, hd6⟩
            have hd6 : Drew w5 w6 := hd6
            have b6 : Below w.heap.size w w6 := b5.trans (hd6.below.mono b5.size)
            have hbs6 : Bytes K.R w6 (.slice (some ⟨bx, ox, none⟩) sl.length xc) sl := hbs.keep fun b _ _ => by rw [hd6.heap]
            rw [hin]
            clear hbs
            have hbsq6 := hbs6
            have HRd := Lib.hid (rread_any w6 _ _ _ hbsq6 0 (by rw [H64.out]; omega) (by omega))
            rw [show ((0 : Nat) : Int) = 0 from rfl] at HRd
            clear hbsq6 hbs6
            go_wp2_with fail
            refine HRd.out.mono ?_
            rintro e w7 ⟨rfl, hdn⟩
            have hdn : Drew w6 w7 := hdn
            have hd7 : Drew w5 w7 := hd6.trans hdn
            have b7 : Below w.heap.size w w7 := b5.trans (hd7.below.mono b5.size)
            have hbs7 : Bytes K.R w7 (.slice (some ⟨bx, ox, none⟩) sl.length xc) sl := Hbs.out.keep fun b _ _ => by rw [hd7.heap]
            clear hdn HRd
            have hbsq7 := hbs7
            have HRd := Lib.hid (rread_any w7 _ _ _ hbsq7 4 (by rw [H64.out]; omega) (by omega))
            rw [show ((4 : Nat) : Int) = 4 from rfl] at HRd
            clear hbsq7 hbs7
            go_wp2_with fail
            refine HRd.out.mono ?_
            rintro e w8 ⟨rfl, hdn⟩
            have hdn : Drew w7 w8 := hdn
            have hd8 : Drew w5 w8 := hd7.trans hdn
            have b8 : Below w.heap.size w w8 := b5.trans (hd8.below.mono b5.size)
            have hbs8 : Bytes K.R w8 (.slice (some ⟨bx, ox, none⟩) sl.length xc) sl := Hbs.out.keep fun b _ _ => by rw [hd8.heap]
            clear hdn HRd
            have hbsq8 := hbs8
            have HRd := Lib.hid (rread_any w8 _ _ _ hbsq8 8 (by rw [H64.out]; omega) (by omega))
            rw [show ((8 : Nat) : Int) = 8 from rfl] at HRd
            clear hbsq8 hbs8
            go_wp2_with fail
            refine HRd.out.mono ?_
            rintro e w9 ⟨rfl, hdn⟩
            have hdn : Drew w8 w9 := hdn
            have hd9 : Drew w5 w9 := hd8.trans hdn
            have b9 : Below w.heap.size w w9 := b5.trans (hd9.below.mono b5.size)
            have hbs9 : Bytes K.R w9 (.slice (some ⟨bx, ox, none⟩) sl.length xc) sl := Hbs.out.keep fun b _ _ => by rw [hd9.heap]
            clear hdn HRd
            clear hbs9
            go_wp2_with fail
            go_ret2
            rw [Hbad.out hb]
            exact ⟨rfl, b9⟩
        · have n4 : ((read4 sl 4 : Int) != (k : Int)) = true := by simp; omega
          have hb : pieceOk sl g k (n - 48 * m) = false := by simp [pieceOk, h4k]
          clear h0g h4k
          have hbs := Hbs.out
          go_wp2_with fail
          refine (rintact_any w5 _ _ _ hbs H64.out).mono ?_
          rintro e w6 ⟨rfl, hd6⟩
          have hd6 : Drew w5 w6 := hd6
          have b6 : Below w.heap.size w w6 := b5.trans (hd6.below.mono b5.size)
          have hbs6 : Bytes K.R w6 (.slice (some ⟨bx, ox, none⟩) sl.length xc) sl := hbs.keep fun b _ _ => by rw [hd6.heap]
          rw [hin]
          clear hbs
          have hbsq6 := hbs6
          have HRd := Lib.hid (rread_any w6 _ _ _ hbsq6 0 (by rw [H64.out]; omega) (by omega))
          rw [show ((0 : Nat) : Int) = 0 from rfl] at HRd
          clear hbsq6 hbs6
          go_wp2_with fail
          refine HRd.out.mono ?_
          rintro e w7 ⟨rfl, hdn⟩
          have hdn : Drew w6 w7 := hdn
          have hd7 : Drew w5 w7 := hd6.trans hdn
          have b7 : Below w.heap.size w w7 := b5.trans (hd7.below.mono b5.size)
          have hbs7 : Bytes K.R w7 (.slice (some ⟨bx, ox, none⟩) sl.length xc) sl := Hbs.out.keep fun b _ _ => by rw [hd7.heap]
          clear hdn HRd
          have hbsq7 := hbs7
          have HRd := Lib.hid (rread_any w7 _ _ _ hbsq7 4 (by rw [H64.out]; omega) (by omega))
          rw [show ((4 : Nat) : Int) = 4 from rfl] at HRd
          clear hbsq7 hbs7
          go_wp2_with fail
          refine HRd.out.mono ?_
          rintro e w8 ⟨rfl, hdn⟩
          have hdn : Drew w7 w8 := hdn
          have hd8 : Drew w5 w8 := hd7.trans hdn
          have b8 : Below w.heap.size w w8 := b5.trans (hd8.below.mono b5.size)
          have hbs8 : Bytes K.R w8 (.slice (some ⟨bx, ox, none⟩) sl.length xc) sl := Hbs.out.keep fun b _ _ => by rw [hd8.heap]
          clear hdn HRd
          clear hbs8
          go_wp2_with fail
          go_ret2
          rw [Hbad.out hb]
          exact ⟨rfl, b8⟩
      · have n0 : ((read4 sl 0 : Int) != (g : Int)) = true := by simp; omega
        have hb : pieceOk sl g k (n - 48 * m) = false := by simp [pieceOk, h0g]
        clear h0g
        have hbs := Hbs.out
        go_wp2_with fail
        refine (rintact_any w5 _ _ _ hbs H64.out).mono ?_
        rintro e w6 ⟨rfl, hd6⟩
        have hd6 : Drew w5 w6 := hd6
        have b6 : Below w.heap.size w w6 := b5.trans (hd6.below.mono b5.size)
        have hbs6 : Bytes K.R w6 (.slice (some ⟨bx, ox, none⟩) sl.length xc) sl := hbs.keep fun b _ _ => by rw [hd6.heap]
        rw [hin]
        clear hbs
        have hbsq6 := hbs6
        have HRd := Lib.hid (rread_any w6 _ _ _ hbsq6 0 (by rw [H64.out]; omega) (by omega))
        rw [show ((0 : Nat) : Int) = 0 from rfl] at HRd
        clear hbsq6 hbs6
        go_wp2_with fail
        refine HRd.out.mono ?_
        rintro e w7 ⟨rfl, hdn⟩
        have hdn : Drew w6 w7 := hdn
        have hd7 : Drew w5 w7 := hd6.trans hdn
        have b7 : Below w.heap.size w w7 := b5.trans (hd7.below.mono b5.size)
        have hbs7 : Bytes K.R w7 (.slice (some ⟨bx, ox, none⟩) sl.length xc) sl := Hbs.out.keep fun b _ _ => by rw [hd7.heap]
        clear hdn HRd
        clear hbs7
        go_wp2_with fail
        go_ret2
        rw [Hbad.out hb]
        exact ⟨rfl, b7⟩
    · have hmI : ¬ (m : Int) < (T : Int) := by omega
      obtain rfl : m = T := by omega
      have hTT : takes n = max 1 ((n + 47) / 48) := rfl
      have h48 : n ≤ 48 * m := by have := HT.out; omega
      have hlb : (bodyM M.S g p m).length = 48 * m := bodyM_length _ (fun s hs => Href.out.s64 s hs) _ _ _ (fun j hj => placeN_lt _ _ _ (by rw [HHe.out]; omega))
      have hbyt := Bytes.of_owns hown (fun q => w.heap.size ≤ q ∧ q < wr.heap.size) (fun q h1 h2 => ⟨h1, h2⟩)
      have hrr : recordM M.S g k p = some ((bodyM M.S g p m).take n) := by rw [Hrec2.out, if_pos hpo]
      generalize bodyM M.S g p m = bo at *
      obtain ⟨av, cv, rfl, hcv, hmv, -, -⟩ := id hbyt
      have hby2 := hbyt.take n (by omega)
      have hbl : (bo.take n).length ≤ 65536 := by simp; omega
      have Hrr := Lib.hid hrr; have Hby2 := Lib.hid hby2; have Hbl := Lib.hid hbl
      clear hrr hby2 hbl hbyt hown hpo hTT
      rw [hlb] at hcv ⊢
      clear hlb
      have hcvI : (n : Int) ≤ (cv : Int) := by omega
      go_wp2_with fail
      go_ret2
      rw [Hrr.out]
      exact ⟨⟨_, rfl, Hby2.out, Hbl.out⟩, hbw⟩
end Go.Proofs.YtmimplmeccoahaaDoor
/- The reference journal: Open. -/
namespace Go.Proofs.YtmimplmeccoahaaDoor
open Go.RowKit
set_option linter.unusedVariables false
set_option maxRecDepth 20000
attribute [local go_sem ↓] seal_append
attribute [local go_sem] opC upC

/-- the blocks of a reference journal: itself, its disk, its records -/
structure RJK where
  j : Nat
  K : RK
  O : Blks
def RJK.all (k : RJK) : Blks := fun b => b = k.j ∨ k.K.all b ∨ k.O b

structure RJAt (w : World) (k : RJK) (M : MD) (J : MJ) : Prop where
  ref : RefAt w k.K M
  recs : ∃ ra rc R, RJBlk w k.j k.K.d J.g (.slice ra J.L.length rc) J.dead ∧ RowsIn R w 0 (.slice ra J.L.length rc) J.L ∧ (∀ b, (Value.slice ra J.L.length rc).ownBlock = some b ∨ R b → k.O b)
  apart : ¬ k.K.all k.j ∧ (∀ b, k.O b → b ≠ k.j ∧ ¬ k.K.all b ∧ b < w.heap.size)
  size8 : 8 ≤ M.S.length
  room : takenL J.L ≤ halfN M.S.length
  gen : J.g < 4294967296
  lens : ∀ b ∈ J.L, b.length ≤ 65536

theorem RJAt.keep {w w' : World} {k : RJK} {M : MD} {J : MJ} (h : RJAt w k M J) (hk : ∀ b, k.all b → w'.heap[b]? = w.heap[b]?) (hs : w.heap.size ≤ w'.heap.size) : RJAt w' k M J := by
  obtain ⟨h1, ⟨ra, rc, R, h2, h3, h4⟩, h5, h6, h7, h8, h9⟩ := h
  exact ⟨h1.keep (fun b hb => hk b (.inr (.inl hb))) hs, ⟨ra, rc, R, Blk.keep h2 (hk _ (.inl rfl)), h3.keep fun b hb _ => hk b (.inr (.inr (h4 b hb))), h4⟩, ⟨h5.1, fun b hb => ⟨(h5.2 b hb).1, (h5.2 b hb).2.1, Nat.lt_of_lt_of_le (h5.2 b hb).2.2 hs⟩⟩, h6, h7, h8, h9⟩
theorem RJAt.lt {w : World} {k : RJK} {M : MD} {J : MJ} (h : RJAt w k M J) : ∀ b, k.all b → b < w.heap.size := by
  rintro b (rfl | hb | hb)
  · obtain ⟨ra, rc, R, h2, _⟩ := h.recs; exact Blk.lt h2
  · exact h.ref.lt b hb
  · exact (h.apart.2 b hb).2.2
theorem RJAt.kept {w w' : World} {k : RJK} {M : MD} {J : MJ} (h : RJAt w k M J) (hb : Below w.heap.size w w') : RJAt w' k M J := h.keep (fun b hf => hb.block b (h.lt b hf)) hb.size
theorem RJAt.only {w w' : World} {k : RJK} {M : MD} {J : MJ} {F : Blks} (h : RJAt w k M J) (ho : Only F w w') (hd : ∀ b, k.all b → ¬ F b) : RJAt w' k M J := h.keep (fun b hb => ho.block b (h.lt b hb) (hd b hb)) ho.size

def lenOf (rb : Nat) (wr : World) : Nat := match wr.cell? ⟨rb, 2, none⟩ with
  | some (.slice _ n _) => n
  | _ => 0

def AddRelR (w : World) (rb d g : Nat) (S : List (List UInt8)) (v : Value) (wr : World) : Prop :=
  ∃ (ra : Option Addr) (rc : Nat) (R : Blks) (L : List (List UInt8)), v = v ∧ RJBlk wr rb d g (.slice ra L.length rc) false ∧ RowsIn R wr (rb + 1) (.slice ra L.length rc) L ∧
    (∀ b, R b → rb < b ∧ b < wr.heap.size) ∧ takenL L ≤ halfN S.length ∧ (∀ b ∈ L, b.length ≤ 65536) ∧
    recordsM S g (halfN S.length + 1) 0 0 = L ++ recordsM S g (halfN S.length + 1 - L.length) L.length (takenL L) ∧ Below w.heap.size w wr

def ROpenPost (w : World) (K : RK) (M : MD) (r : MJ ⊕ Int) (e : Ending) (w' : World) : Prop :=
  (match r with
    | .inr c => e = .returned (.tuple #[.pointer none, .int .i64 c])
    | .inl J => ∃ jk, e = .returned (.tuple #[.pointer (some ⟨jk.j, 0, none⟩), .int .i64 0]) ∧ jk.K = K ∧ RJAt w' jk M J ∧ ∀ b, jk.all b → K.all b ∨ w.heap.size ≤ b) ∧ Below w.heap.size w w'

theorem RowsIn.lower {R : Blks} {w : World} {lo lo' : Nat} {v : Value} {S : List (List UInt8)} (h : RowsIn R w lo v S) (hl : lo' ≤ lo) : RowsIn R w lo' v S := by
  obtain ⟨vals, ⟨h1, h2⟩, h3, h4⟩ := h
  refine ⟨vals, ⟨h1, ?_⟩, h3, h4⟩
  rcases h2 with h2 | ⟨g, cap, cur, rfl, hlo, r⟩
  · exact .inl h2
  · exact .inr ⟨g, cap, cur, rfl, by omega, r⟩

theorem ropen_nil (w : World) :
    Calls Tryd.prog 63 #[.pointer none] w fun e w' => e = .returned (.tuple #[.pointer none, .int .i64 9]) ∧ w = w' := by
  go_enter Tryd.func63, Tryd.ntmps63
  go_wp2_with fail
  go_ret2
  exact ⟨rfl, rfl⟩

set_option maxRecDepth 100000 in
set_option maxHeartbeats 2000000 in
theorem ropen_any (w : World) (K : RK) (M : MD) (h : RefAt w K M) :
    Calls Tryd.prog 63 #[.pointer (some ⟨K.d, 0, none⟩)] w (ROpenPost w K M (openM M)) := by
  have hle := h.len
  obtain ⟨cap, hcap, c0, c1, -⟩ := h.row
  by_cases h8 : M.S.length < 8
  · have Hr := Lib.hid (show openM M = .inr 6 by unfold openM; rw [if_pos h8])
    have h8I : (M.S.length : Int) < 8 := by omega
    go_enter Tryd.func63, Tryd.ntmps63
    go_wp2_with fail
    go_ret2
    rw [Hr.out]
    exact ⟨rfl, Below.refl _ _⟩
  have h8I : ¬ (M.S.length : Int) < 8 := by omega
  by_cases hdown : M.down = true
  · have Hr := Lib.hid (show openM M = .inr 341 by unfold openM; rw [if_neg h8, if_pos hdown])
    rw [hdown] at c1
    go_enter Tryd.func63, Tryd.ntmps63
    go_wp2_with fail
    go_ret2
    rw [Hr.out]
    exact ⟨rfl, Below.refl _ _⟩
  have hdn : M.down = false := by simpa using hdown
  have Hr := Lib.hid (show openM M = match genM M.S with | none => .inr 340 | some g => .inl ⟨g, recordsM M.S g (halfN M.S.length + 1) 0 0, false⟩ by unfold openM; rw [if_neg h8, if_neg hdown]; rfl)
  rw [hdn] at c1
  clear hdown
  have HG := Lib.hid (rgen_any w K M h (by omega))
  have hgen := genM_eq M.S
  have hg32 := genS_lt M.S 2
  obtain ⟨st, hst⟩ : ∃ st, genS M.S 2 = st := ⟨_, rfl⟩
  rw [hst] at hgen hg32 HG
  obtain ⟨fd, g⟩ := st
  dsimp only at hgen hg32
  have hKlt := h.lt
  have Href := Lib.hid h
  cases fd with
  | false =>
    have hr := Hr.out
    rw [hgen] at hr
    have Hr2 := Lib.hid hr
    rw [show gv (false, g) = -1 from rfl] at HG
    clear hr hgen hst h
    go_enter Tryd.func63, Tryd.ntmps63
    go_wp2_with fail
    refine HG.out.mono ?_
    rintro e w1 ⟨rfl, hd1⟩
    go_wp2_with fail
    go_ret2
    rw [Hr2.out]
    exact ⟨rfl, hd1.below⟩
  | true =>
    have hr := Hr.out
    rw [hgen] at hr
    have Hr2 := Lib.hid hr
    rw [show gv (true, g) = (g : Int) from rfl] at HG
    clear hr hgen hst h
    go_enter Tryd.func63, Tryd.ntmps63
    go_wp2_with fail
    refine HG.out.mono ?_
    rintro e w1 ⟨rfl, hd1⟩
    have hb1 := hd1.below
    have hgI : ¬ ((g : Nat) : Int) < 0 := by omega
    obtain ⟨rb, hrb⟩ : ∃ rb, rb = w1.heap.size := ⟨_, rfl⟩
    have hj0 : RJBlk (w1.alloc (.cells #[.pointer (some ⟨K.d, 0, none⟩), .int .i64 (g : Int), .slice none 0 0, .bool false] 98)) rb K.d g (.slice none 0 0) false := by
      rw [hrb]
      exact Blk.new w1 #[.pointer (some ⟨K.d, 0, none⟩), .int .i64 (g : Int), .slice none 0 0, .bool false] 98
    have hk0 : Below w.heap.size w (w1.alloc (.cells #[.pointer (some ⟨K.d, 0, none⟩), .int .i64 (g : Int), .slice none 0 0, .bool false] 98)) := Below.alloc hb1 hb1.size _
    have hrl : w.heap.size ≤ rb := by have := hb1.size; omega
    have hrr : ∀ {w'}, Below w.heap.size w w' → RefAt w' K M := fun hb => Href.out.kept hb
    have HRB := Lib.hid hrb
    have hd1z : w1.heap.size = w.heap.size := by rw [hd1.heap]
    have Hd1z := Lib.hid hd1z
    clear c0 c1 hd1 hb1 hd1z
    go_wp2_with fail
    rw [← hrb]
    clear hrb
    go_loopw [28] (fun v wr => AddRelR w rb K.d g M.S v wr) (fun _ wr => halfN M.S.length + 1 - lenOf rb wr)
    case atStart => exact ⟨none, 0, none_, [], rfl, by simpa using hj0, RowsIn.nil _ _, fun b hb => hb.elim, by simp [takenL], by simp, by simp [takenL], hk0⟩
    case round =>
      clear hj0 hk0
      obtain ⟨ra, rc, R, L, -, hj, hrow, hR, htk, hlens, hrec, hbw⟩ := hrel
      have hLT := length_le_taken L
      have hH : halfN M.S.length ≤ 32768 := by unfold halfN; omega
      have hsz := hbw.size
      have hjl := Blk.lt hj
      have ht := rtaken_any wr.drew rb K.d g _ false (show RJBlk wr.drew rb K.d g _ false from hj) R L ((hrow.lower (Nat.zero_le _)).kept (Below.refl _ _).drew) (by omega) (by omega) hlens
      have hre := rrecord_any wr.drew K M ((hrr hbw).kept (Below.refl _ _).drew) (by omega) g L.length (takenL L) hg32 (by omega) (by omega)
      have Ht := Lib.hid ht; have Hre := Lib.hid hre
      have c2 : ∀ w', Later wr.drew w' → w'.cell? ⟨rb, 2, none⟩ = some (.slice ra L.length rc) := fun w' hh => later_cell (by simpa using hj.cell 2) hh
      clear ht hre
      go_wp2_with fail
      refine wp_region_can Later [(0, true), (1, true), (2, true), (3, true), (4, true), (5, true), (6, true), (7, true), (8, false), (9, false), (10, true), (11, true), (12, true), (13, true), (14, true)] (by kernel_rfl) (by kernel_rfl) later_refl later_trans ?_
      repeat (first
        | (refine can_yes (v := ?_) rfl (wanted_none rfl) (fun w' hC => ?_) (fun K hK => ?_); rotate_left; (focus (go_simp; first | done | exact rfl)); go_simp; refine hK _ ?_; clear hK K)
        | (refine can_guard rfl (fun A B hA hB => ?_); go_simp; first | (refine hA ⟨?_, fun w' hC => ?_, fun K hK => ?_⟩; rotate_left; (focus (go_simp; first | done | exact rfl)); go_simp; refine hK _ ?_; clear hK K hA hB A B) | (refine hB (fun K hK => ?_); go_simp; refine hK _ ?_; clear hK K hA hB A B))
        | (refine can_guard_go rfl (fun A B hA hB => ?_); go_simp; refine hB (fun K hK => ?_); go_simp; refine hK _ ?_; clear hK K hA hB A B))
      refine can_go rfl rfl (fun KK hK => ?_)
      go_simp
      refine Ht.out.mono ?_
      rintro e w' ⟨rfl, rfl⟩
      refine ⟨_, rfl, later_refl _, hK _ _ ?_⟩
      clear hK KK
      go_simp
      refine can_go rfl rfl (fun KK hK => ?_)
      go_simp
      refine Hre.out.mono ?_
      rintro e w2 ⟨hm, hb2⟩
      cases hrm : recordM M.S g L.length (takenL L) with
      | none =>
        rw [hrm] at hm
        dsimp only at hm
        subst hm
        refine ⟨_, rfl, hb2, hK _ _ ?_⟩
        clear hK KK c2 Ht Hre
        go_simp
        repeat (first
          | (refine can_yes (v := ?_) rfl (wanted_none rfl) (fun w' hC => ?_) (fun K hK => ?_); rotate_left; (focus (go_simp; first | done | exact rfl)); go_simp; refine hK _ ?_; clear hK K)
          | (refine can_guard rfl (fun A B hA hB => ?_); go_simp; first | (refine hA ⟨?_, fun w' hC => ?_, fun K hK => ?_⟩; rotate_left; (focus (go_simp; first | done | exact rfl)); go_simp; refine hK _ ?_; clear hK K hA hB A B) | (refine hB (fun K hK => ?_); go_simp; refine hK _ ?_; clear hK K hA hB A B))
          | (refine can_guard_go rfl (fun A B hA hB => ?_); go_simp; refine hB (fun K hK => ?_); go_simp; refine hK _ ?_; clear hK K hA hB A B))
        refine can_nil ?_
        have hb2' : Below wr.heap.size wr w2 := (Below.refl _ _).drew.trans hb2
        have hLL : recordsM M.S g (halfN M.S.length + 1) 0 0 = L := by rw [hrec, recordsM_none hrm, List.append_nil]
        have HLL := Lib.hid hLL
        clear hLL hrec hrm
        go_wp2_with fail
        go_ret2
        rw [Hr2.out]
        simp only [if_true]
        rw [HLL.out]
        have hjlt := hKlt
        have hd1z := Hd1z.out
        have hz2 := hb2'.size
        refine ⟨⟨⟨rb, K, fun b => (Value.slice ra L.length rc).ownBlock = some b ∨ R b⟩, rfl, rfl, ⟨hrr (hbw.trans (hb2'.mono hsz)), ⟨ra, rc, R, Blk.keep hj (hb2'.block rb hjl), (hrow.lower (Nat.zero_le _)).kept hb2', fun b hb => hb⟩, ⟨fun h => by have h1 : rb < w.heap.size := hjlt _ h; have := HRB.out; have := hd1z; omega, fun b hb => ?_⟩, by show 8 ≤ M.S.length; omega, htk, hg32, hlens⟩, ?_⟩, hbw.trans (hb2'.mono hsz)⟩
        · have h1 : rb < b ∧ b < wr.heap.size := by
            rcases hb with hb | hb
            · have := hrow.own hb; omega
            · exact hR b hb
          exact ⟨by show b ≠ rb; omega, fun h => by have := hjlt _ h; omega, by show b < w2.heap.size; omega⟩
        · rintro b (hb | hb | hb)
          · exact .inr (by rw [hb]; exact hrl)
          · exact .inl hb
          · right
            rcases hb with hb | hb
            · have := hrow.own hb; omega
            · have := hR b hb; omega
      | some bb =>
        rw [hrm] at hm
        dsimp only at hm
        obtain ⟨v, rfl, hbv, hbl⟩ := hm
        refine ⟨_, rfl, hb2, hK _ _ ?_⟩
        clear hK KK c2 Ht Hre
        go_simp
        repeat (first
          | (refine can_yes (v := ?_) rfl (wanted_none rfl) (fun w' hC => ?_) (fun K hK => ?_); rotate_left; (focus (go_simp; first | done | exact rfl)); go_simp; refine hK _ ?_; clear hK K)
          | (refine can_guard rfl (fun A B hA hB => ?_); go_simp; first | (refine hA ⟨?_, fun w' hC => ?_, fun K hK => ?_⟩; rotate_left; (focus (go_simp; first | done | exact rfl)); go_simp; refine hK _ ?_; clear hK K hA hB A B) | (refine hB (fun K hK => ?_); go_simp; refine hK _ ?_; clear hK K hA hB A B))
          | (refine can_guard_go rfl (fun A B hA hB => ?_); go_simp; refine hB (fun K hK => ?_); go_simp; refine hK _ ?_; clear hK K hA hB A B))
        refine can_nil ?_
        have hb2' : Below wr.heap.size wr w2 := (Below.refl _ _).drew.trans hb2
        obtain ⟨hfit, -⟩ := recordM_some Href.out.s64 hrm
        have hrec2 : recordsM M.S g (halfN M.S.length + 1) 0 0 = (L ++ [bb]) ++ recordsM M.S g (halfN M.S.length + 1 - (L ++ [bb]).length) (L ++ [bb]).length (takenL (L ++ [bb])) := by
          rw [hrec, show halfN M.S.length + 1 - L.length = (halfN M.S.length - L.length) + 1 by omega, recordsM_some hrm, takenL_snoc]
          simp
        have hj2 : RJBlk w2 rb K.d g (.slice ra L.length rc) false := Blk.keep hj (hb2'.block rb hjl)
        have hrow2 := hrow.kept hb2'
        have hbw2 := hbw.trans (hb2'.mono hsz)
        have hz2 := hb2'.size
        have htp := takes_pos bb.length
        have Hl0 : Hid (lenOf rb wr = L.length) := Lib.hid (by unfold lenOf; rw [hj.cell 2]; rfl)
        obtain ⟨xa, xc, w3, hr3, hown3, hk3, hg3, hby3⟩ := run_clone w2.drew _ v bb (hbv.keep fun b _ _ => rfl) (by omega)
        change (AP _ _ #[.slice (some ⟨w2.heap.size, 0, none⟩) 0 0, _]).run _ (w2.alloc _).drew = _ at hr3
        clear hown3
        have hsz3 : w2.heap.size ≤ w3.heap.size := hk3.size
        have hrows3 : RowsIn R w3 (rb + 1) (.slice ra L.length rc) L := (hrow2.kept (w' := w2.drew) (Below.refl _ _).drew).kept hk3
        obtain ⟨a', c', w4, hap, hrows4, hg4⟩ := hrows3.append hby3 (fun b hb => hb.2.2) (by omega) (by omega)
        have hblk3 : Blk w3 rb _ _ := (Blk.keep (w' := w2.drew) hj2 rfl).keep (hk3.block rb (show rb < w2.heap.size by omega))
        have hob : ∀ q, Value.ownBlock (.slice ra L.length rc) = some q → rb + 1 ≤ q ∧ q < wr.heap.size ∧ ¬ R q := fun q hq => hrow.own hq
        have hblk4 : Blk w4 rb [.pointer (some ⟨K.d, 0, none⟩), .int .i64 (g : Int), .slice ra L.length rc, .bool false] 98 := (hblk3.alloc _).keep (hg4.block _ (by have := hblk3.lt; simp; omega) (fun e => by have := hob _ e.symm; omega))
        have k0 : LaterF (fun b => rb < b) w2.drew (w2.alloc (.cells #[] 5)).drew := LaterF.of_below (kept_alloc w2.drew _)
        have k1 : LaterF (fun b => rb < b) (w2.alloc (.cells #[] 5)).drew w3 := ⟨hg3.os, hg3.tape, hg3.output, hg3.size, fun q hq hn => hg3.block q hq (fun e => hn (by simp at e; have : w2.drew.heap.size = w2.heap.size := rfl; omega))⟩
        have k2 : LaterF (fun b => rb < b) w3 (w3.alloc (.cells #[.slice xa bb.length xc] 30)) := LaterF.of_below (kept_alloc _ _)
        have k3 : LaterF (fun b => rb < b) (w3.alloc (.cells #[.slice xa bb.length xc] 30)) w4 := ⟨hg4.os, hg4.tape, hg4.output, hg4.size, fun q hq hn => hg4.block q hq (fun e => hn (by have := hob _ e.symm; omega))⟩
        have hbw4 : Below w.heap.size w w4 := ((hbw2.drew.trans (hk3.mono (show w.heap.size ≤ w2.heap.size by omega))).alloc (by omega) _).grown hg4 (by simp; omega) (fun q hq => by have := hob q hq; omega)
        have c2 := hblk4.cell 2
        have f2 := hblk4.free 2
        simp at c2
        have hblk5 := hblk4.set 2 (.slice a' (L.length + 1) c')
        have hrows5 : RowsIn _ (w4.setCell ⟨rb, 2, none⟩ (.slice a' (L.length + 1) c')) (rb + 1) (.slice a' (L.length + 1) c') (L ++ [bb]) := hrows4.keep fun b hb _ => Below.heap_setCell _ ⟨rb, 2, none⟩ _ b (by
          rcases hb with hb | hb | hb
          · have := (hrows4.own hb).1; show b ≠ rb; omega
          · have := hR b hb; show b ≠ rb; omega
          · have : w2.drew.heap.size = w2.heap.size := rfl; have := hb.1; show b ≠ rb; omega)
        have hbw5 : Below w.heap.size w (w4.setCell ⟨rb, 2, none⟩ (.slice a' (L.length + 1) c')) := hbw4.setCell hrl _
        have q2 : ∀ w', LaterF (fun b => rb < b) w2.drew w' → w'.cell? ⟨rb, 2, none⟩ = some (.slice ra L.length rc) := fun w' hh => by
          simpa using (Blk.keep (w' := w') hj2 (hh.block rb (show rb < w2.heap.size by omega) (by omega))).cell 2
        obtain ⟨va, vc, rfl, -⟩ := id hbv
        have hzz3 : w4.heap.size ≥ w3.heap.size := by have := hg4.size; simp at this; omega
        have Hblk5 := Lib.hid hblk5; have Hrows5 := Lib.hid hrows5; have Hbw5 := Lib.hid hbw5; have Hrec2 := Lib.hid hrec2
        have hn5 : (w4.setCell ⟨rb, 2, none⟩ (.slice a' (L.length + 1) c')).heap.size = w4.heap.size := by simp [World.setCell]
        have Hn5 := Lib.hid hn5
        have Hzz := Lib.hid hzz3
        clear hblk5 hrows5 hbw5 hbw4 hrows4 hblk4 hrows3 hby3 hg4 hg3 hk3 hblk3 hrow hrow2 hbv hrec2 hrec hrm hj hj2 hn5 hzz3
        go_wp2_with fail
        refine wp_region_canL (LaterF (fun b => rb < b)) 12 [(0, true), (1, true), (2, true), (3, true), (4, true), (6, true), (5, false), (7, false), (8, false), (9, false), (10, true), (11, true), (12, false)] (by kernel_rfl) (by kernel_rfl) (by kernel_rfl) (laterF_refl _) (laterF_trans _) ?_
        repeat (first
          | (refine canL_yes (v := ?_) rfl (wanted_none rfl) (fun w' hC => ?_) (fun K hK => ?_); rotate_left; (focus (go_simp; first | done | exact rfl)); go_simp; refine hK _ ?_; clear hK K)
          | (refine canL_guard rfl (fun A B hA hB => ?_); go_simp; first | (refine hA ⟨?_, fun w' hC => ?_, fun K hK => ?_⟩; rotate_left; (focus (go_simp; first | done | exact rfl)); go_simp; refine hK _ ?_; clear hK K hA hB A B) | (refine hB (fun K hK => ?_); go_simp; refine hK _ ?_; clear hK K hA hB A B))
          | (refine canL_guard_go rfl (fun A B hA hB => ?_); go_simp; refine hB (fun K hK => ?_); go_simp; refine hK _ ?_; clear hK K hA hB A B))
        refine canL_go rfl rfl (fun KK hK => ?_)
        go_simp
        refine hK _ _ ?_
        clear hK KK
        go_simp
        refine canL_go rfl rfl (fun KK hK => ?_)
        go_simp
        refine hK _ _ ?_
        clear hK KK
        go_simp
        refine canL_go rfl rfl (fun KK hK => ?_)
        go_simp
        refine hK _ _ ?_
        clear hK KK
        go_simp
        refine canL_go rfl rfl (fun KK hK => ?_)
        go_simp
        refine hK _ _ ?_
        clear hK KK
        go_simp
        repeat (first
          | (refine canL_yes (v := ?_) rfl (wanted_none rfl) (fun w' hC => ?_) (fun K hK => ?_); rotate_left; (focus (go_simp; first | done | exact rfl)); go_simp; refine hK _ ?_; clear hK K)
          | (refine canL_guard rfl (fun A B hA hB => ?_); go_simp; first | (refine hA ⟨?_, fun w' hC => ?_, fun K hK => ?_⟩; rotate_left; (focus (go_simp; first | done | exact rfl)); go_simp; refine hK _ ?_; clear hK K hA hB A B) | (refine hB (fun K hK => ?_); go_simp; refine hK _ ?_; clear hK K hA hB A B))
          | (refine canL_guard_go rfl (fun A B hA hB => ?_); go_simp; refine hB (fun K hK => ?_); go_simp; refine hK _ ?_; clear hK K hA hB A B))
        refine canL_last rfl rfl rfl (fun KK hK => ?_)
        go_simp
        refine hK _ _ ?_
        clear hK KK
        go_simp
        refine canL_nil ?_
        go_wp2_with fail
        go_roundw
        case rel =>
          refine ⟨a', c', _, L ++ [bb], rfl, by simpa [RJBlk] using Hblk5.out, by simpa using Hrows5.out, fun b hb => ?_, by rw [takenL_snoc]; exact hfit, fun b hb => ?_, Hrec2.out, Hbw5.out⟩
          · have h5 := Hn5.out; have hz := Hzz.out
            rcases hb with hb | hb
            · have := hR b hb; omega
            · have : w2.drew.heap.size = w2.heap.size := rfl; have h1 := hb.1; have h2 := hb.2.1; omega
          · rcases List.mem_append.1 hb with hb | hb
            · exact hlens b hb
            · obtain rfl := List.mem_singleton.1 hb; exact hbl
        case measure =>
          have e4 : lenOf rb (w4.setCell ⟨rb, 2, none⟩ (.slice a' (L.length + 1) c')) = L.length + 1 := by unfold lenOf; rw [Hblk5.out.cell 2]; rfl
          rw [e4, Hl0.out]
          omega
end Go.Proofs.YtmimplmeccoahaaDoor
/- The reference journal: Records, Room. -/
namespace Go.Proofs.YtmimplmeccoahaaDoor
open Go.RowKit
set_option linter.unusedVariables false
set_option maxRecDepth 20000
attribute [local go_sem ↓] seal_append
attribute [local go_sem] opC upC

set_option maxHeartbeats 1000000 in
theorem rrecords_any (w : World) (k : RJK) (M : MD) (J : MJ) (h : RJAt w k M J) :
    Calls Tryd.prog 64 #[.pointer (some ⟨k.j, 0, none⟩)] w fun e w' => ∃ r R', e = .returned r ∧ RowsIn R' w' w.heap.size r J.L ∧ Below w.heap.size w w' := by
  obtain ⟨ra, rc, R, hj, hr, -⟩ := h.recs
  have hroom : takenL J.L ≤ halfN M.S.length := h.room
  have hle : M.S.length ≤ 65536 := h.ref.len
  have hLT := length_le_taken J.L
  have hlens := h.lens
  have hL : J.L.length ≤ 65536 := by unfold halfN at hroom; omega
  obtain ⟨L, hLe⟩ : ∃ L, J.L = L := ⟨_, rfl⟩
  rw [hLe] at hj hr hlens hL ⊢
  have c2 := hj.cell 2
  simp at c2
  have hjl := Blk.lt hj
  obtain ⟨len, hlen⟩ : ∃ len, L.length = len := ⟨_, rfl⟩
  rw [hlen] at c2 hL
  have hLI : (len : Int) ≤ 65536 := by omega
  have Hlen := Lib.hid hlen; have Hr := Lib.hid hr
  clear hroom hle hLT hLe hlen hr h
  go_enter Tryd.func64, Tryd.ntmps64
  go_wp2_with fail
  go_loopw [3, 4] (fun v i wr => ∃ m R', m ≤ len ∧ i = .int .i64 (m : Int) ∧ RowsIn R' wr w.heap.size v (L.take m) ∧ Below w.heap.size w wr) (fun _ i _ => len - (intOf i).toNat)
  case atStart => exact ⟨0, none_, by omega, rfl, by simpa using RowsIn.nil w w.heap.size, Below.refl _ _⟩
  case round =>
    obtain ⟨m, R', hm, rfl, hrow, hbw⟩ := hrel
    have c2' : wr.cell? ⟨k.j, 2, none⟩ = some (.slice ra len rc) := by rw [hbw.cell (p := ⟨k.j, 2, none⟩) hjl]; exact c2
    by_cases hml : m < len
    · have hmI : (m : Int) < (len : Int) := by omega
      have hmL : m < L.length := by rw [Hlen.out]; exact hml
      obtain ⟨gg, cap, x, hv, hbx, hcell⟩ := (Hr.out.kept hbw).elem m hmL
      have hll := hlens L[m] (List.getElem_mem hmL)
      have hlk : (L.take m).length = m := by simp; omega
      obtain ⟨a1, c1, rfl, hc1, hm1⟩ := hrow.shape
      rw [hlk] at hc1 hrow ⊢
      have htk : L.take m ++ [L[m]] = L.take (m + 1) := by rw [List.take_succ_eq_append_getElem hmL]
      generalize L[m] = b at *
      rw [Hlen.out] at hv
      simp at hv
      obtain ⟨rfl, rfl⟩ := hv
      have hsz := hbw.size
      obtain ⟨xa, xc, w3, hr3, hown3, hk3, hg3, hby3⟩ := run_clone wr _ x b hbx (by omega)
      have hz3 := hk3.size
      obtain ⟨a', c', w4, hap, hrows4, hg4⟩ := (hrow.kept hk3).append hby3 (fun b hb => hb.2.2) (by omega) (by omega)
      rw [hlk] at hap hrows4
      rw [htk] at hrows4
      have hb4 : Below w.heap.size w w4 := (Below.alloc (hbw.trans (hk3.mono hsz)) (by omega) _).grown hg4 (by simp; omega) (fun q hq => (hrow.own hq).1)
      have hcx : (wr.alloc (.cells #[] 5)).cell? ⟨gg, m, none⟩ = some x := by rw [(kept_alloc wr _).cell (p := ⟨gg, m, none⟩) (cell_lt hcell)]; exact hcell
      have hc2x : (wr.alloc (.cells #[] 5)).cell? ⟨k.j, 2, none⟩ = some (.slice (some ⟨gg, 0, none⟩) len rc) := by rw [(kept_alloc wr _).cell (p := ⟨k.j, 2, none⟩) (cell_lt c2')]; exact c2'
      obtain ⟨ax, cx, rfl, -⟩ := id hbx
      have Hrows := Lib.hid hrows4; have Hb4 := Lib.hid hb4
      clear hrows4 hb4 hrow hbx hown3 hk3 hg3 hby3 hg4 hz3 hlk htk hcell
      go_wp2_with fail
      go_roundw
      case rel => exact ⟨m + 1, _, by omega, by go_num, Hrows.out, Hb4.out⟩
      case measure => simp [intOf]; omega
    · have hmI : ¬ (m : Int) < (len : Int) := by omega
      have e : L.take m = L := List.take_of_length_le (by rw [Hlen.out]; omega)
      rw [e] at hrow
      go_wp2_with fail
      go_ret
      exact ⟨_, rfl, ⟨_, hrow⟩, hbw⟩

theorem rroom_any (w : World) (k : RJK) (M : MD) (J : MJ) (h : RJAt w k M J) :
    Calls Tryd.prog 65 #[.pointer (some ⟨k.j, 0, none⟩)] w fun e w' => e = .returned (.int .i64 (roomV M.S.length J.L)) ∧ w = w' := by
  obtain ⟨ra, rc, R, hj, hr, -⟩ := h.recs
  have hroom : takenL J.L ≤ halfN M.S.length := h.room
  have hle : M.S.length ≤ 65536 := h.ref.len
  have h8 : 8 ≤ M.S.length := h.size8
  have hLT := length_le_taken J.L
  have hH : halfN M.S.length ≤ 32768 := by unfold halfN; omega
  obtain ⟨cap, hcap, d0, d1, -⟩ := h.ref.row
  have HT := Lib.hid (rtaken_any w k.j k.K.d J.g _ J.dead hj R J.L hr (by omega) (by omega) h.lens)
  have HH := Lib.hid (rhalf_any w M.S.length (by omega) (by omega))
  have c0 := hj.cell 0
  simp at c0
  have hv : roomV M.S.length J.L = if halfN M.S.length - takenL J.L < 1 then -1 else min (48 * ((halfN M.S.length - takenL J.L : Nat) : Int)) 65536 := rfl
  rw [hv]
  generalize takenL J.L = t at *
  generalize halfN M.S.length = H at *
  have hnI : (M.S.length : Int) ≤ 65536 := by omega
  have hHI : (H : Int) ≤ 32768 := by omega
  have htI : (t : Int) ≤ (H : Int) := by omega
  clear hj hr hv hLT
  by_cases h1 : H - t < 1
  · have h1I : (H : Int) - (t : Int) < 1 := by omega
    rw [if_pos h1]
    go_enter Tryd.func65, Tryd.ntmps65
    go_wp2_with fail
    refine HH.out.mono ?_
    rintro e w' ⟨rfl, rfl⟩
    go_wp2_with fail
    refine HT.out.mono ?_
    rintro e w' ⟨rfl, rfl⟩
    go_wp2_with fail
    go_ret
    exact ⟨rfl, rfl⟩
  · have h1I : ¬ (H : Int) - (t : Int) < 1 := by omega
    rw [if_neg h1]
    go_enter Tryd.func65, Tryd.ntmps65
    go_wp2_with fail
    refine HH.out.mono ?_
    rintro e w' ⟨rfl, rfl⟩
    go_wp2_with fail
    refine HT.out.mono ?_
    rintro e w' ⟨rfl, rfl⟩
    go_wp2_with fail
    all_goals
      go_ret
      exact ⟨ret_int (by omega), rfl⟩
end Go.Proofs.YtmimplmeccoahaaDoor
