/- The check sum, by contract. -/
import Derived.Test.YtmimplmeccoahaaDoorJMath
import Derived.Test.YtmimplmeccoahaaDoorUse
namespace Go.Proofs.YtmimplmeccoahaaDoor
open Go.RowKit
set_option linter.unusedVariables false
set_option maxRecDepth 20000

def quarterCells : List Value := quarterT.map fun q => .int .u32 (q.toNat : Int)
/-- the table is in memory -/
def Quarter (w : World) : Prop := ∃ t fz, w.heap[0]? = some (.cells quarterCells.toArray t fz)

theorem Quarter.keep {w w' : World} (h : Quarter w) (he : w'.heap[0]? = w.heap[0]?) : Quarter w' := by
  obtain ⟨t, fz, h⟩ := h
  exact ⟨t, fz, he.trans h⟩
theorem Quarter.cell {w : World} (h : Quarter w) (i : Nat) (hi : i < 16) : w.cell? ⟨0, i, none⟩ = some (.int .u32 ((quarterT.getD i 0#32).toNat : Int)) := by
  obtain ⟨t, fz, h⟩ := h
  rw [cell_of_row w 0 i _ t fz h]
  have : quarterCells.length = 16 := rfl
  simp only [List.getElem?_toArray, quarterCells, List.getElem?_map]
  rw [List.getD_eq_getElem?_getD, List.getElem?_eq_getElem (show i < quarterT.length from hi)]
  rfl

theorem bits_xor32 (a b : BitVec 32) : Go.bits .xor .u32 (a.toNat : Int) (b.toNat : Int) = ((a ^^^ b).toNat : Int) := by
  have h := (a ^^^ b).isLt
  have e : ∀ x : BitVec 32, BitVec.ofInt 32 (x.toNat : Int) = x := fun x => by simp
  show IntKind.u32.wrap ((BitVec.ofInt 32 (a.toNat : Int) ^^^ BitVec.ofInt 32 (b.toNat : Int)).toNat : Int) = _
  rw [e a, e b]
  show ((a ^^^ b).toNat : Int) % 4294967296 = _
  omega
theorem bits_and32 (a b : BitVec 32) : Go.bits .and .u32 (a.toNat : Int) (b.toNat : Int) = ((a &&& b).toNat : Int) := by
  have h := (a &&& b).isLt
  have e : ∀ x : BitVec 32, BitVec.ofInt 32 (x.toNat : Int) = x := fun x => by simp
  show IntKind.u32.wrap ((BitVec.ofInt 32 (a.toNat : Int) &&& BitVec.ofInt 32 (b.toNat : Int)).toNat : Int) = _
  rw [e a, e b]
  show ((a &&& b).toNat : Int) % 4294967296 = _
  omega
theorem xor_byte (r : BitVec 32) (c : UInt8) : Go.bits .xor .u32 (r.toNat : Int) ((c.toNat : Int) % 4294967296) = ((r ^^^ BitVec.ofNat 32 c.toNat).toNat : Int) := by
  have hc := c.toNat_lt
  rw [← bits_xor32]
  congr 1
theorem nib_walk (x : BitVec 32) : ∃ i : Nat, i < 16 ∧ Go.bits .and .u32 (x.toNat : Int) 15 = (i : Int) ∧ Go.bits .xor .u32 ((x.toNat : Int) / 16) ((quarterT.getD i 0#32).toNat : Int) = ((nib x).toNat : Int) := by
  refine ⟨(x &&& 15#32).toNat, ?_, ?_, ?_⟩
  · have : (x &&& 15#32).toNat ≤ 15 := by rw [BitVec.toNat_and]; exact Nat.and_le_right
    omega
  · exact bits_and32 x 15#32
  · have e : ((x.toNat : Int) / (16 : Int)) = ((x >>> 4).toNat : Int) := by
      rw [BitVec.toNat_ushiftRight, Nat.shiftRight_eq_div_pow]
      omega
    rw [e, bits_xor32]
    rfl
theorem not_walk (x : BitVec 32) : Go.bits .xor .u32 IntKind.u32.max (x.toNat : Int) = ((~~~ x).toNat : Int) := by
  have : IntKind.u32.max = ((~~~ (0#32)).toNat : Int) := by decide
  rw [this, bits_xor32]
  congr 2

theorem crcF_snoc (r : BitVec 32) (l : List UInt8) (k : Nat) (h : k < l.length) : crcF r (l.take (k + 1)) = crcB (crcF r (l.take k)) l[k] := by
  unfold crcF
  rw [List.take_succ_eq_append_getElem h, List.foldl_append]
  rfl

theorem crcAdd_any (w : World) (hq : Quarter w) (F : Blks) (v : Value) (l : List UInt8) (hv : Bytes F w v l) (s : BitVec 32) :
    Calls Tryd.prog 77 #[.int .u32 (s.toNat : Int), v] w fun e w' => e = .returned (.int .u32 ((~~~ (crcF (~~~ s) l)).toNat : Int)) ∧ w = w' := by
  obtain ⟨a, cap, rfl, hc, hm, hz, hx⟩ := hv
  have hm' : cap ≤ 9223372036854775807 := by unfold maxLen at hm; omega
  have hs0 := not_walk s
  obtain ⟨s', hs'⟩ : ∃ s' : BitVec 32, s' = ~~~ s := ⟨_, rfl⟩
  rw [← hs'] at hs0 ⊢
  clear hs'
  go_enter Tryd.func77, Tryd.ntmps77
  go_wp2_with fail
  clear hs0
  go_loop [5, 12] (fun r i => ∃ k : Nat, k ≤ l.length ∧ i = .int .i64 (k : Int) ∧ r = .int .u32 ((crcF s' (l.take k)).toNat : Int)) (fun _ i => l.length - (intOf i).toNat)
  case atStart => exact ⟨0, by omega, rfl, rfl⟩
  case round =>
    obtain ⟨k, hk, rfl, rfl⟩ := hrel
    by_cases hkl : k < l.length
    · obtain ⟨b, off, L, t, fz, rfl, hF, hg, hle, hr⟩ := hx.resolve_left (by rintro rfl; simp at hkl)
      have cc : w.cell? ⟨b, off + k, none⟩ = some (B l[k]) := by rw [cell_of_row w b _ L t fz hg]; exact hr k hkl
      unfold B at cc
      have hsn := crcF_snoc s' l k hkl
      generalize hrr : crcF s' (l.take k) = r at *
      generalize l[k] = c at *
      clear hr hx hg hrr
      have e1 := xor_byte r c
      unfold crcB at hsn
      generalize r ^^^ BitVec.ofNat 32 c.toNat = x at *
      obtain ⟨i, hi, e2, e3⟩ := nib_walk x
      have c1 := hq.cell i hi
      generalize nib x = y at *
      obtain ⟨j, hj, e4, e5⟩ := nib_walk y
      have c2 := hq.cell j hj
      generalize nib y = z at *
      generalize quarterT.getD i 0#32 = q1 at *
      generalize quarterT.getD j 0#32 = q2 at *
      have Hsn := Lib.hid hsn; clear hsn
      have hkI : (k : Int) < (l.length : Int) := by omega
      have hiI : (i : Int) < 16 := by omega
      have hjI : (j : Int) < 16 := by omega
      go_wp2_with fail
      go_round
      case rel => exact ⟨k + 1, by omega, by go_num, by rw [Hsn.out]⟩
      case measure => simp [intOf]; omega
    · have hkI : ¬ (k : Int) < (l.length : Int) := by omega
      obtain rfl : k = l.length := by omega
      rw [List.take_of_length_le (Nat.le_refl _)]
      have e1 := not_walk (crcF s' l)
      go_wp2_with fail
      go_ret
      exact ⟨rfl, rfl⟩

theorem crcSum_any (w : World) (hq : Quarter w) (F : Blks) (v : Value) (l : List UInt8) (hv : Bytes F w v l) :
    Calls Tryd.prog 61 #[v] w fun e w' => e = .returned (.int .u32 (crc l : Int)) ∧ w = w' := by
  have h := crcAdd_any w hq F v l hv 0#32
  have H : Calls Tryd.prog 77 #[.int .u32 0, v] w fun e w' => e = .returned (.int .u32 (crc l : Int)) ∧ w = w' := h
  obtain ⟨a, cap, rfl, -⟩ := hv
  generalize crc l = c at *
  clear h
  have HH := Lib.hid H; clear H
  go_enter Tryd.func61, Tryd.ntmps61
  go_wp2_with fail
  refine HH.out.mono ?_
  rintro e w' ⟨rfl, rfl⟩
  go_wp2_with fail
  go_ret
  exact ⟨rfl, rfl⟩
end Go.Proofs.YtmimplmeccoahaaDoor
