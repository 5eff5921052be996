/- The law JournalDoes. No condition. -/
import Derived.Test.YtmimplmeccoahaaDoorP10
import Derived.Test.YtmimplmeccoahaaDoorJA
namespace Go.Proofs.YtmimplmeccoahaaDoor
open Go.RowKit Go.ChangeShapes Go.WideShapes Go.ChangeAt
set_option linter.unusedVariables false
set_option maxRecDepth 20000
attribute [local go_sem] opC upC

theorem PairX.low {w : World} {p lo lo' : Nat} {M : MD} {o : Option MJ} (h : PairX w p lo M o) (hl : lo' ≤ lo) (h0 : 0 < lo') : PairX w p lo' M o := by
  obtain ⟨k, hk⟩ := h
  exact ⟨k, ⟨hk.blk, hk.ps, hk.rs, fun b hb => ⟨Nat.le_trans hl (hk.fF b hb).1, (hk.fF b hb).2⟩, fun b hb => ⟨Nat.le_trans hl (hk.fG b hb).1, (hk.fG b hb).2⟩, h0, Nat.le_trans hl hk.lo_p⟩⟩

def DoesRel (w0 : World) (p n len : Nat) (i : Value) (wr : World) : Prop :=
  ∃ k : Nat, k ≤ len ∧ i = .int .i64 (k : Int) ∧ (∃ M o, PairX wr p w0.heap.size M o ∧ M.S.length = n ∧ M.writes ≤ 70000 * (k + 1)) ∧ Below w0.heap.size w0 wr

set_option maxRecDepth 100000 in
set_option maxHeartbeats 1500000 in
theorem JournalDoes_walk (a0 : Int) (v1 : Value) (w : World) (w0 : (Lit.int .u8 a0).wf = true) (w1 : IsActs w v1) (hq : Quarter w) :
    Calls Tryd.prog 10 #[.int .u8 a0, v1] w fun e w' => e = .returned (.bool true) ∧ Below w.heap.size w w' := by
  have g0 := bounds_u8 w0
  clear w0
  have h0 : 0 < w.heap.size := by obtain ⟨t, fz, hh⟩ := hq; exact lt_of_block hh
  have hq' : ∀ {w' : World}, Below w.heap.size w w' → Quarter w' := fun hb => hq.keep (hb.block 0 h0)
  obtain ⟨A, hA⟩ := acts_of w1
  clear w1
  have hlight := light_any w w.heap.size v1 A hA (Nat.le_refl _)
  have HA0 := Lib.hid hA
  obtain ⟨va, vc, rfl, hA9, hx⟩ := hA
  obtain ⟨len, hlen⟩ : ∃ len, A.length = len := ⟨_, rfl⟩
  rw [hlen] at hA9 HA0 hlight ⊢
  have Hlen := Lib.hid hlen
  have Hx := Lib.hid hx
  have Hlight := Lib.hid hlight
  clear hx hlen hlight
  obtain ⟨N, hN⟩ : ∃ N : Nat, 1 + a0 % 40 = (N : Int) := Int.eq_ofNat_of_zero_le (by omega)
  have hN8 : 1 ≤ N := by omega
  have hN47 : N ≤ 40 := by omega
  have HN := Lib.hid hN
  clear hN
  go_enter Tryd.func10, Tryd.ntmps10
  go_wp2_with fail
  refine Hlight.out.mono ?_
  rintro e wl ⟨r, rfl, hr, hbl⟩
  cases r with
  | false =>
    have W := Lib.hid (works_any wl (hq' hbl))
    go_wp2_with fail
    refine W.out.mono ?_
    rintro e w' ⟨rfl, hb⟩
    go_wp2_with fail
    go_ret
    exact ⟨rfl, kept_trans hbl hb⟩
  | true =>
  obtain ⟨hlen60, hsh⟩ := hr rfl
  clear hr
  have hl60 : len ≤ 60 := by rw [← Hlen.out]; exact hlen60
  have Hsh := Lib.hid hsh
  have hbls := hbl.size
  clear hsh hlen60
  have S := Lib.hid (start_any wl N hN8 hN47 (hq' hbl))
  go_wp2_with fail
  rw [HN.out]
  refine S.out.mono ?_
  rintro e w1 ⟨p, M, o, rfl, hX1, hM1, hW1, hb1⟩
  have hbw1 : Below w.heap.size w w1 := kept_trans hbl hb1
  have Hs := Lib.hid (show DoesRel w p N len (.int .i64 0) w1 from ⟨0, by omega, rfl, ⟨M, o, hX1.low hbls h0, hM1, by omega⟩, hbw1⟩)
  clear S hX1 hM1 hW1 hb1 hbw1
  go_wp2_with fail
  go_loopw [25] (fun i wr => DoesRel w p N len i wr) (fun i _ => len - (intOf i).toNat)
  case atStart => exact Hs.out
  case round =>
    obtain ⟨k, hk, rfl, ⟨M, o, hX, hM, hW⟩, hbw⟩ := hrel
    by_cases hkl : k < len
    · have hklI : (k : Int) < (len : Int) := by omega
      have hkA : k < A.length := by rw [Hlen.out]; exact hkl
      obtain ⟨b, off, rfl, hblt, hcc⟩ := Hx.out.resolve_left (by intro e; rw [e] at hkA; simp at hkA)
      obtain ⟨hkd, han, ham, x, cc, c0, c1, c2, c3, hB⟩ := hcc k hkA
      have hl3 := Hsh.out A[k] (List.getElem_mem hkA)
      rw [← hbw.cell (p := ⟨b, off + k * 4, none⟩) hblt] at c0
      rw [← hbw.cell (p := ⟨b, off + k * 4 + 1, none⟩) hblt] at c1
      rw [← hbw.cell (p := ⟨b, off + k * 4 + 2, none⟩) hblt] at c2
      rw [← hbw.cell (p := ⟨b, off + k * 4 + 3, none⟩) hblt] at c3
      have hsz := hbw.size
      generalize A[k] = ak at *
      obtain ⟨kind, an, am, l⟩ := ak
      dsimp only at *
      obtain ⟨wa, hwa⟩ : ∃ wa, wa = wr.alloc (.cells #[.int .u8 kind, .int .u16 an, .int .u16 am, .slice x l.length cc] 32) := ⟨_, rfl⟩
      have ka : Below wr.heap.size wr wa := by rw [hwa]; exact kept_alloc _ _
      have za : wa.heap.size = wr.heap.size + 1 := by rw [hwa]; simp
      have na : Blk wa wr.heap.size [.int .u8 kind, .int .u16 an, .int .u16 am, .slice x l.length cc] 32 := by rw [hwa]; exact Blk.new _ _ _
      have hbwa : Below w.heap.size w wa := hbw.trans (ka.mono hsz)
      have hBa : Bytes (fun b => b < w.heap.size) wa (.slice x l.length cc) l := hB.keep fun b hb _ => hbwa.block b hb
      have HAct := Lib.hid (pact_any wa p w.heap.size N (70000 * (k + 1)) M o (hX.kept ka) hM hW (by omega) (hq' hbwa) kind an am _ l _ hBa (fun b hb => hb) hl3 hkd han ham)
      have s0 := na.cell 0
      have s1 := na.cell 1
      have s2 := na.cell 2
      have s3 := na.cell 3
      simp at s0 s1 s2 s3
      have Hwa := Lib.hid hwa; have Hza := Lib.hid za; have Hbwa := Lib.hid hbwa
      clear na za hwa hbwa hBa hB hbw hX hM hW hsz hl3
      go_wp2_with fail
      rw [← Hwa.out]
      refine HAct.out.mono ?_
      rintro e w3 ⟨rfl, ⟨M', o', hX3, hM3, hW3⟩, hb3⟩
      have hb3' : Below w.heap.size w w3 := Hbwa.out.trans hb3
      have HLk := Lib.hid (like_any w3 p _ M' _ hX3)
      have Hb3 := Lib.hid hb3'; have HX3 := Lib.hid hX3; have HM3 := Lib.hid hM3; have HW3 := Lib.hid hW3
      clear HAct hX3 hM3 hW3 hb3 hb3' Hbwa Hwa Hza c0 c1 c2 c3 s0 s1 s2 s3
      go_wp2_with fail
      refine HLk.out.mono ?_
      rintro e w4 ⟨rfl, hb4⟩
      have hb4' := kept_trans Hb3.out hb4
      have hX4 := HX3.out.kept hb4
      have HX4 := Lib.hid hX4; have Hb4 := Lib.hid hb4'
      clear HLk hX4 hb4 hb4'
      go_wp2_with fail
      go_roundw
      case rel => exact ⟨k + 1, by omega, by go_num, ⟨M', o', HX4.out, HM3.out, by have := HW3.out; omega⟩, Hb4.out⟩
      case measure => simp [intOf]; omega
    · have hklI : ¬ (k : Int) < (len : Int) := by omega
      have HS := Lib.hid (psectors_any wr p _ M o hX (by rw [hM]; omega))
      have Hbw := Lib.hid hbw
      clear hX hM hW hbw
      go_wp2_with fail
      refine HS.out.mono ?_
      rintro e w4 ⟨rfl, hb4⟩
      have hbw4 := kept_trans Hbw.out hb4
      have W := Lib.hid (works_any w4 (hq' hbw4))
      clear HS hb4
      go_wp2_with fail
      refine W.out.mono ?_
      rintro e w5 ⟨rfl, hb5⟩
      go_wp2_with fail
      go_ret
      exact ⟨rfl, kept_trans hbw4 hb5⟩
end Go.Proofs.YtmimplmeccoahaaDoor
