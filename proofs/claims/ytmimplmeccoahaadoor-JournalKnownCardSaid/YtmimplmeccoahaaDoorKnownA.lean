/- The examples of the chapter: torn, head, and the sectors of the example. -/
import Derived.Test.YtmimplmeccoahaaDoorKeepC
import Derived.Test.YtmimplmeccoahaaDoorJ11
namespace Go.Proofs.YtmimplmeccoahaaDoor
open Go.RowKit
set_option linter.unusedVariables false
set_option maxRecDepth 20000
attribute [local go_sem ↓] seal_make_bytes

/-! the example, computed -/
def t255 : List UInt8 := List.replicate 64 255
def kM0 : MD := (formatM (MD.fresh 8)).1
def kJ0 : MJ := ⟨0, [], false⟩
def kM1 : MD := (replaceM kM0 kJ0 [120]).1
def kJ1 : MJ := (replaceM kM0 kJ0 [120]).2.1
def kM2 : MD := { kM1 with fault := some (0, t255) }
def kM3 : MD := (appendM kM2 kJ1 [121]).1
def kJ3 : MJ := (appendM kM2 kJ1 [121]).2.1
def kM4 : MD := (appendM kM3 kJ3 [122]).1
def kJ4 : MJ := (appendM kM3 kJ3 [122]).2.1
def kM5 : MD := (replaceM kM4 kJ4 []).1
def kJ5 : MJ := (replaceM kM4 kJ4 []).2.1
def kM6 : MD := { kM5 with down := false }
def kJ6 : MJ := ⟨1, [[120]], false⟩

theorem k_r1 : (replaceM kM0 kJ0 [120]).2.2 = 0 := by decide +kernel
theorem k_r3 : (appendM kM2 kJ1 [121]).2.2 = 341 := by decide +kernel
theorem k_r4 : (appendM kM3 kJ3 [122]).2.2 = 341 := by decide +kernel
theorem k_r5 : (replaceM kM4 kJ4 []).2.2 = 341 := by decide +kernel
theorem k_dead : kJ5.dead = true := by decide +kernel
theorem k_recs : kJ5.L = [[120]] := by decide +kernel
theorem k_o5 : openM kM5 = .inr 341 := by kernel_rfl
theorem k_o6 : openM kM6 = .inl kJ6 := by kernel_rfl
theorem k_on : openM (MD.fresh 8) = .inr 340 := by kernel_rfl
theorem k_head : kM6.S[1]? = some (headB 1) := by decide +kernel
theorem k_down : kM6.down = false := by kernel_rfl
theorem k_w0 : kM0.writes + 65536 < 4611686018427387904 := by decide +kernel
theorem k_w2 : kM2.writes + 65536 < 4611686018427387904 := by decide +kernel
theorem k_w3 : kM3.writes + 65536 < 4611686018427387904 := by decide +kernel
theorem k_w4 : kM4.writes + 65536 < 4611686018427387904 := by decide +kernel
theorem k_w6 : kM6.writes + 65536 < 4611686018427387904 := by decide +kernel
theorem k_a6 (l : List UInt8) (h : l.length = 65537) : appendM kM6 kJ6 l = (kM6, kJ6, 2) := by
  unfold appendM
  rw [if_neg (show ¬ kJ6.dead = true by decide), if_pos (by omega)]
theorem k_p6 (l : List UInt8) (h : l.length = 65537) : replaceM kM6 kJ6 l = (kM6, kJ6, 2) := by
  unfold replaceM
  rw [if_neg (show ¬ kJ6.dead = true by decide), if_pos (by omega)]

theorem torn_any (w : World) :
    Calls Tryd.prog 28 #[] w fun e w' => ∃ g, e = .returned (.slice (some ⟨g, 0, none⟩) 64 64) ∧ w.heap.size ≤ g ∧ Blk w' g (t255.map B) 5 ∧ Below w.heap.size w w' := by
  obtain ⟨w1, hmk, hb1, hk1⟩ := run_make_bytes w 64 (by omega)
  rw [show ((64 : Nat) : Int) = 64 from rfl] at hmk
  have Hb1 := Lib.hid hb1; have Hk1 := Lib.hid hk1
  clear hb1 hk1
  go_enter Tryd.func28, Tryd.ntmps28
  go_wp2_with fail
  clear hmk
  go_loopw [6] (fun i wr => ∃ k : Nat, k ≤ 64 ∧ i = .int .i64 (k : Int) ∧ Blk wr w.heap.size (List.replicate k (B 255) ++ List.replicate (64 - k) (B 0)) 5 ∧ Below w.heap.size w wr) (fun i _ => 64 - (intOf i).toNat)
  case atStart => exact ⟨0, by omega, rfl, by simpa using Hb1.out, Hk1.out⟩
  case round =>
    obtain ⟨k, hk, rfl, hbk, hbw⟩ := hrel
    by_cases hkl : k < 64
    · have hklI : (k : Int) < 64 := by omega
      have cc := hbk.cell k
      rw [List.getElem?_append_right (by simp), List.length_replicate, Nat.sub_self, List.getElem?_replicate, if_pos (by omega)] at cc
      have cf := hbk.free k
      have hset := hbk.set k (B 255)
      rw [set_rep 64 k _ _ hkl] at hset
      have Hset := Lib.hid hset
      clear hset hbk
      go_wp2_with fail
      go_roundw
      case rel => exact ⟨k + 1, by omega, by go_num, Hset.out, hbw.setCell (Nat.le_refl _) _⟩
      case measure => simp [intOf]; omega
    · obtain rfl : k = 64 := by omega
      have Hbk := Lib.hid hbk
      clear hbk
      go_wp2_with fail
      go_ret
      exact ⟨_, rfl, Nat.le_refl _, by simpa [t255] using Hbk.out, hbw⟩

/-- the head of generation 1, in sector 1 -/
theorem head35_any (w : World) (hq : Quarter w) (lo d : Nat) (M : MD) (h : DX w lo d M) (hdn : M.down = false) (hs1 : M.S[1]? = some (headB 1)) :
    Calls Tryd.prog 30 #[.pointer (some ⟨d, 0, none⟩)] w fun e w' => e = .returned (.bool true) ∧ Below w.heap.size w w' := by
  have h0 : 0 < w.heap.size := by obtain ⟨t, fz, hh⟩ := hq; exact lt_of_block hh
  have hq' : ∀ {w' : World}, Below w.heap.size w w' → Quarter w' := fun hb => hq.keep (hb.block 0 h0)
  obtain ⟨K, rfl, hlo0, hall, hd⟩ := h
  obtain ⟨hi, he⟩ := List.getElem?_eq_some_iff.1 hs1
  have hrd := read_ok w K M 1 hd hi hdn
  rw [he] at hrd
  have hs : (headB 1).length = 64 := headB_length 1
  have hint : intact (headB 1) = true := head_intact 1
  have h8 : (headB 1).take 8 = [72, 78, 75, 74, 1, 0, 0, 0] := by decide +kernel
  generalize headB 1 = s at *
  have Hrd := Lib.hid hrd; have Hs := Lib.hid hs; have Hint := Lib.hid hint; have H8 := Lib.hid h8
  clear hrd hs hint h8 he hs1 hd hall hdn hi
  go_enter Tryd.func30, Tryd.ntmps30
  go_wp2_with fail
  rw [show (1 : Int) = ((1 : Nat) : Int) from rfl]
  refine Hrd.out.mono ?_
  rintro e w1 ⟨r, rfl, hr1, hb1⟩
  have hs := Hs.out
  have hr1' : w1.ownsRow w.heap.size 5 1 r s.length (s.map B) := by rw [hs]; exact hr1
  have hby : Bytes (fun b => b < w1.heap.size) w1 r s := Bytes.of_owns hr1' _ (fun k _ hk => hk)
  obtain ⟨g, cap, rfl, hg, hcap, L, hL, hLt, hLc⟩ := ownsRow_cells hr1' (by omega)
  have hcell : ∀ i, i < 64 → w1.cell? ⟨g, i, none⟩ = some (.int .u8 ((s.getD i 0).toNat : Int)) := fun i hi => by
    rw [hL.cell i]
    have : (L.take s.length)[i]? = (s.map B)[i]? := by rw [hLt]
    rw [List.getElem?_take, if_pos (by omega), List.getElem?_map, List.getElem?_eq_getElem (show i < s.length by omega)] at this
    rw [this, List.getD_eq_getElem?_getD, List.getElem?_eq_getElem (show i < s.length by omega)]
    rfl
  have b8 := hby.take 8 (by omega)
  have b60 := hby.take 60 (by omega)
  have hstr := run_str b8
  rw [H8.out] at hstr
  have hc := crcSum_any w1 (hq' hb1) _ _ _ b60
  have hint := Hint.out
  unfold intact at hint
  rw [beq_iff_eq] at hint
  have h4 := (bytes4 s hs (crc (s.take 60)) (crc_lt _)).1 hint
  have x0 := hcell 60 (by omega)
  have x1 := hcell 61 (by omega)
  have x2 := hcell 62 (by omega)
  have x3 := hcell 63 (by omega)
  rw [h4.1] at x0
  rw [h4.2.1] at x1
  rw [h4.2.2.1] at x2
  rw [h4.2.2.2] at x3
  generalize crc (s.take 60) = c at *
  have HC := Lib.hid hc
  have hcI : (64 : Int) ≤ (cap : Int) := by omega
  rw [hs]
  clear hcap
  clear hint h4 hcell hby hr1' hr1 b8 b60 hc hL hLt hLc Hs Hint H8 hs Hrd
  go_wp2_with fail
  refine HC.out.mono ?_
  rintro e w' ⟨rfl, rfl⟩
  go_wp2_with fail
  go_ret
  exact ⟨rfl, hb1⟩
end Go.Proofs.YtmimplmeccoahaaDoor
