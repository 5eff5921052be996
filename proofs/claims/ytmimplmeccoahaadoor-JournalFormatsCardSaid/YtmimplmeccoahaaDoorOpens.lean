/- The law JournalOpens. No condition. -/
import Derived.Test.YtmimplmeccoahaaDoorP2
import Derived.Test.YtmimplmeccoahaaDoorP4
import Derived.Test.YtmimplmeccoahaaDoorOwnA
import Derived.Test.YtmimplmeccoahaaDoorSec35
namespace Go.Proofs.YtmimplmeccoahaaDoor
open Go.RowKit
set_option linter.unusedVariables false
set_option maxRecDepth 20000
attribute [local go_sem] opC upC

/-- two disks in the same state, apart, whose power never fails -/
def TwoAt (w0 w : World) (d e n c : Nat) : Prop :=
  ∃ (K : DK) (KR : RK) (M : MD), K.d = d ∧ KR.d = e ∧ DiskAt w K M ∧ RefAt w KR M ∧ M.S.length = n ∧ M.down = false ∧ M.fault = none ∧ M.writes ≤ c ∧ (∀ b, K.foot b → w0.heap.size ≤ b ∧ ¬ KR.all b) ∧ (∀ b, KR.all b → w0.heap.size ≤ b) ∧ Below w0.heap.size w0 w
def TwoRel (w0 : World) (d e n : Nat) (i : Value) (wr : World) : Prop := ∃ k : Nat, k ≤ n ∧ i = .int .i64 (k : Int) ∧ TwoAt w0 wr d e n k

theorem write_up (M : MD) (hf : M.fault = none) (i : Nat) (l : List UInt8) : M.write i l = ({ M with S := M.S.set i l, writes := M.writes + 1 }, 0) := by simp [MD.write, hf]



set_option maxRecDepth 100000 in
set_option maxHeartbeats 1600000 in
theorem JournalOpens_walk (v0 : Value) (w : World) (w0 : IsBss w v0) (hq : Quarter w) :
    Calls Tryd.prog 9 #[v0] w fun e w' => e = .returned (.bool true) ∧ Below w.heap.size w w' := by
  have h0 : 0 < w.heap.size := by obtain ⟨t, fz, hh⟩ := hq; exact lt_of_block hh
  have hq' : ∀ {w' : World}, Below w.heap.size w w' → Quarter w' := fun hb => hq.keep (hb.block 0 h0)
  obtain ⟨A, va, vc, rfl, hA9, hx⟩ := bss_of w0
  clear w0
  have Hx := Lib.hid hx
  clear hx
  obtain ⟨len, hlen⟩ : ∃ len, A.length = len := ⟨_, rfl⟩
  rw [hlen] at hA9 ⊢
  have Hlen := Lib.hid hlen
  clear hlen
  have hA9I : (len : Int) ≤ 9223372036854775807 := by omega
  have h3 : len < 1 ∨ (1 ≤ len ∧ len ≤ 60) ∨ 60 < len := by omega
  rcases h3 with h | ⟨h, h'⟩ | h
  · have hI : (len : Int) < 1 := by omega
    go_enter Tryd.func9, Tryd.ntmps9
    have hnew := new_ok w 1 (by omega) (by omega)
    try rw [show ((1 : Nat) : Int) = 1 from rfl] at hnew
    have Hnew := Lib.hid hnew
    clear hnew
    go_wp2_with fail
    refine Hnew.out.mono ?_
    rintro e w1 ⟨K, rfl, hd, hb1, hK⟩
    have hrnew := refNew_ok w1 1 (by omega) (by omega)
    try rw [show ((1 : Nat) : Int) = 1 from rfl] at hrnew
    have Hrnew := Lib.hid hrnew
    clear hrnew Hnew
    go_wp2_with fail
    refine Hrnew.out.mono ?_
    rintro e w2 ⟨KR, rfl, hr, hb2, hKR⟩
    have hT : TwoAt w w2 K.d KR.d 1 0 := by
      have hz1 := hb1.size
      exact ⟨K, KR, MD.fresh 1, rfl, rfl, hd.kept hb2, hr, by simp [MD.fresh], rfl, rfl, Nat.le_refl _, fun b hb => ⟨hK b hb, fun h => by have := hd.lt b hb; have := hKR b h; omega⟩, fun b hb => by have := hKR b hb; omega, kept_trans hb1 hb2⟩
    have HT := Lib.hid hT
    obtain ⟨kd, hkd⟩ : ∃ q, K.d = q := ⟨_, rfl⟩
    obtain ⟨ke, hke⟩ : ∃ q, KR.d = q := ⟨_, rfl⟩
    rw [hkd, hke] at HT
    rw [hkd, hke]
    clear hT hd hr hK hKR hb1 hb2 Hrnew hkd hke
    go_wp2_with fail
    go_loopw [8] (fun i wr => TwoRel w kd ke 1 i wr) (fun i _ => 1 - (intOf i).toNat)
    case atStart => exact ⟨0, by omega, rfl, HT.out⟩
    case round =>
      obtain ⟨k, hk, rfl, K, KR, M, rfl, rfl, hd, hr, hSn, hdn, hft, hwr, hKf, hKR, hbw⟩ := hrel
      by_cases hkN : k < 1
      · have hkI : (k : Int) < 1 := by omega
        by_cases hkl : k < len
        · have hklI : (k : Int) < (len : Int) := by omega
          have hkA : k < A.length := by rw [Hlen.out]; exact hkl
          obtain ⟨b, off, rfl, hblt, hcc⟩ := Hx.out.resolve_left (by intro e; rw [e] at hkA; simp at hkA)
          obtain ⟨x, c, hc0, hB, -⟩ := hcc k hkA
          generalize A[k] = s at *
          have hsz := hbw.size
          rw [← hbw.cell (p := ⟨b, off + k, none⟩) hblt] at hc0
          have HS1 := Lib.hid (sector35_any wr _ _ s (hB.keep (w' := wr) fun b hb _ => hbw.block b hb))
          have Hd := Lib.hid hd; have Hr := Lib.hid hr; have HB := Lib.hid hB; have HSn := Lib.hid hSn; have Hdn := Lib.hid hdn; have Hft := Lib.hid hft; have Hwr := Lib.hid hwr; have HKf := Lib.hid hKf; have HKR := Lib.hid hKR
          have H64 := Lib.hid (sec64_length s)
          have hrl := hr.lt
          have hdl := hd.lt
          clear hd hr hB hSn hdn hft hwr hKf hKR hcc HT
          go_wp2_with fail
          refine HS1.out.mono ?_
          rintro e w3 ⟨rfl, hq3, hb3⟩
          have hd3 := Hd.out.kept hb3
          have hw := write_ok w3 K M hd3 k (by rw [HSn.out]; exact hkN) Hdn.out (by have := Hwr.out; omega) (fun b => b = wr.heap.size) _ (sec64 s) (blk_bytes64 hq3 H64.out _ rfl) H64.out (fun b e h => by have := hdl b h; omega)
          rw [write_up M Hft.out] at hw
          have Hw := Lib.hid hw
          have Hr3 := Lib.hid (Hr.out.kept hb3)
          have hz3 := hb3.size
          clear hw hd3 hq3 HS1
          go_wp2_with fail
          refine Hw.out.mono ?_
          rintro e w4 ⟨rfl, ⟨K4, hK4, hK4f, hd4⟩, ho4, -⟩
          have hz4 : w3.heap.size ≤ w4.heap.size := ho4.size
          have hr4 := Hr3.out.only ho4 fun b hb h => (HKf.out b h).2 hb
          have hc4 : w4.cell? ⟨b, off + k, none⟩ = some (.slice x s.length c) := by
            have hlt := cell_lt hc0
            have e : w4.heap[b]? = wr.heap[b]? := by rw [ho4.block b (by show b < w3.heap.size; omega) (fun h => by have := (HKf.out b h).1; omega), hb3.block b hlt]
            unfold World.cell? at *
            rw [show (⟨b, off + k, none⟩ : Addr).block = b from rfl, e]
            exact hc0
          have hB4 : Bytes (fun b => b < w.heap.size) w4 (.slice x s.length c) s := HB.out.keep fun b hb _ => by rw [ho4.block b (by omega) (fun h => by have := (HKf.out b h).1; omega), hb3.block b (by omega), hbw.block b hb]
          have HS2 := Lib.hid (sector35_any w4 _ _ s hB4)
          have Hd4 := Lib.hid hd4; have Hr4 := Lib.hid hr4
          have hb34 : Below w.heap.size w w4 := (hbw.trans (hb3.mono hsz)).trans (ho4.below (fun b h => (HKf.out b h).1) (by omega))
          clear hd4 hr4 hB4 Hw Hr3 hc0 hb3 ho4
          go_wp2_with fail
          refine HS2.out.mono ?_
          rintro e w5 ⟨rfl, hq5, hb5⟩
          have hw := refWrite_ok w5 KR M (Hr4.out.kept hb5) k (by rw [HSn.out]; exact hkN) Hdn.out (by have := Hwr.out; omega) (fun b => b = w4.heap.size) _ (sec64 s) (blk_bytes64 hq5 H64.out _ rfl) H64.out (fun b e h => by have := hrl KR.d (.inl rfl); omega)
          rw [write_up M Hft.out] at hw
          have Hw := Lib.hid hw
          have Hd5 := Lib.hid (Hd4.out.kept hb5)
          have hz5 := hb5.size
          have hd4l := Hd4.out.lt
          have hb35 : Below w.heap.size w w5 := hb34.trans (hb5.mono (by have := hb34.size; omega))
          clear hw hq5 HS2 Hd4 Hr4 hb5
          go_wp2_with fail
          refine Hw.out.mono ?_
          rintro e w6 ⟨rfl, ⟨R6, hR6, hR6f, hr6⟩, ho6⟩
          have hd6 := Hd5.out.only ho6 fun b hb h => (HKf.out b (hK4f b hb)).2 (RefAt.foot_all h)
          have hb36 : Below w.heap.size w w6 := hb35.trans (ho6.below (fun b h => HKR.out b (RefAt.foot_all h)) (by have := hb35.size; omega))
          have Hd6 := Lib.hid hd6; have Hr6 := Lib.hid hr6
          have hk4s := hb34.size
          clear hd6 hr6 Hw Hd5 ho6
          go_wp2_with fail
          go_roundw
          case rel =>
            refine ⟨k + 1, by omega, by go_num, K4, R6, _, hK4, hR6, Hd6.out, Hr6.out, by simp [HSn.out], Hdn.out, Hft.out, by have := Hwr.out; show M.writes + 1 ≤ k + 1; omega, fun b hb => ⟨(HKf.out b (hK4f b hb)).1, fun h => ?_⟩, fun b hb => ?_, hb36⟩
            · rcases hR6f b h with h | h
              · exact (HKf.out b (hK4f b hb)).2 h
              · have := hd4l b hb; omega
            · rcases hR6f b hb with h | h
              · exact HKR.out b h
              · have := hb35.size; omega
          case measure => simp [intOf]; omega
        ·
          have hklI : ¬ (k : Int) < (len : Int) := by omega
          have hrl := hr.lt
          have hdl := hd.lt
          obtain ⟨p, hp⟩ : ∃ p, p = wr.heap.size := ⟨_, rfl⟩
          have hpl : w.heap.size ≤ p := by rw [hp]; exact hbw.size
          obtain ⟨wp, hwp⟩ : ∃ wp, wp = wr.alloc (.cells #[.pointer (some ⟨K.d, 0, none⟩), .pointer none, .pointer (some ⟨KR.d, 0, none⟩), .pointer none] 61) := ⟨_, rfl⟩
          have bp : Below wr.heap.size wr wp := by rw [hwp]; exact kept_alloc _ _
          have zp : wp.heap.size = wr.heap.size + 1 := by rw [hwp]; simp
          have np : Blk wp p [.pointer (some ⟨K.d, 0, none⟩), .pointer none, .pointer (some ⟨KR.d, 0, none⟩), .pointer none] 61 := by rw [hwp, hp]; exact Blk.new _ _ _
          have hX : PairX wp p w.heap.size M none := ⟨⟨K.foot, KR.all, K.d, .pointer none, KR.d, .pointer none⟩, ⟨np, ⟨rfl, K, rfl, fun b hb => hb, hd.kept bp⟩, ⟨rfl, KR, rfl, fun b hb => hb, hr.kept bp⟩, fun b hb => ⟨(hKf b hb).1, by have := hdl b hb; omega, (hKf b hb).2, by have := hdl b hb; omega⟩, fun b hb => ⟨hKR b hb, by have := hrl b hb; omega, by have := hrl b hb; omega⟩, h0, hpl⟩⟩
          have hbp := hbw.trans (bp.mono hbw.size)
          have hS1 : 0 < M.S.length := by rw [hSn]; omega
          have HX := Lib.hid (popen_any wp p w.heap.size M none hX (hq' hbp))
          have Hp := Lib.hid hp; have Hwp := Lib.hid hwp
          clear hX np zp bp hd hr hKf hKR hrl hdl hwp hSn hdn hft HT
          go_wp2_with fail
          rw [← Hp.out, ← Hwp.out]
          clear hp
          refine HX.out.mono ?_
          rintro e wq ⟨rfl, hXq, hbq⟩
          have hbq' : Below w.heap.size w wq := hbp.trans hbq
          have HL := Lib.hid (like_any wq p w.heap.size M _ hXq)
          clear HX hbq
          go_wp2_with fail
          refine HL.out.mono ?_
          rintro e wr2 ⟨rfl, hbr⟩
          have hXr := hXq.kept hbr
          have hbr' := kept_trans hbq' hbr
          have HSs := Lib.hid (psectors_any wr2 p w.heap.size M _ hXr hS1)
          clear HL hXq hbr hXr
          go_wp2_with fail
          refine HSs.out.mono ?_
          rintro e ws ⟨rfl, hbs⟩
          have hbs' := kept_trans hbr' hbs
          have HW := Lib.hid (works_any ws (hq' hbs'))
          clear HSs hbs
          go_wp2_with fail
          refine HW.out.mono ?_
          rintro e wt ⟨rfl, hbt⟩
          go_wp2_with fail
          go_ret
          exact ⟨rfl, kept_trans hbs' hbt⟩
      · have hkI : ¬ (k : Int) < 1 := by omega
        have hrl := hr.lt
        have hdl := hd.lt
        obtain ⟨p, hp⟩ : ∃ p, p = wr.heap.size := ⟨_, rfl⟩
        have hpl : w.heap.size ≤ p := by rw [hp]; exact hbw.size
        obtain ⟨wp, hwp⟩ : ∃ wp, wp = wr.alloc (.cells #[.pointer (some ⟨K.d, 0, none⟩), .pointer none, .pointer (some ⟨KR.d, 0, none⟩), .pointer none] 61) := ⟨_, rfl⟩
        have bp : Below wr.heap.size wr wp := by rw [hwp]; exact kept_alloc _ _
        have zp : wp.heap.size = wr.heap.size + 1 := by rw [hwp]; simp
        have np : Blk wp p [.pointer (some ⟨K.d, 0, none⟩), .pointer none, .pointer (some ⟨KR.d, 0, none⟩), .pointer none] 61 := by rw [hwp, hp]; exact Blk.new _ _ _
        have hX : PairX wp p w.heap.size M none := ⟨⟨K.foot, KR.all, K.d, .pointer none, KR.d, .pointer none⟩, ⟨np, ⟨rfl, K, rfl, fun b hb => hb, hd.kept bp⟩, ⟨rfl, KR, rfl, fun b hb => hb, hr.kept bp⟩, fun b hb => ⟨(hKf b hb).1, by have := hdl b hb; omega, (hKf b hb).2, by have := hdl b hb; omega⟩, fun b hb => ⟨hKR b hb, by have := hrl b hb; omega, by have := hrl b hb; omega⟩, h0, hpl⟩⟩
        have hbp := hbw.trans (bp.mono hbw.size)
        have hS1 : 0 < M.S.length := by rw [hSn]; omega
        have HX := Lib.hid (popen_any wp p w.heap.size M none hX (hq' hbp))
        have Hp := Lib.hid hp; have Hwp := Lib.hid hwp
        clear hX np zp bp hd hr hKf hKR hrl hdl hwp hSn hdn hft HT
        go_wp2_with fail
        rw [← Hp.out, ← Hwp.out]
        clear hp
        refine HX.out.mono ?_
        rintro e wq ⟨rfl, hXq, hbq⟩
        have hbq' : Below w.heap.size w wq := hbp.trans hbq
        have HL := Lib.hid (like_any wq p w.heap.size M _ hXq)
        clear HX hbq
        go_wp2_with fail
        refine HL.out.mono ?_
        rintro e wr2 ⟨rfl, hbr⟩
        have hXr := hXq.kept hbr
        have hbr' := kept_trans hbq' hbr
        have HSs := Lib.hid (psectors_any wr2 p w.heap.size M _ hXr hS1)
        clear HL hXq hbr hXr
        go_wp2_with fail
        refine HSs.out.mono ?_
        rintro e ws ⟨rfl, hbs⟩
        have hbs' := kept_trans hbr' hbs
        have HW := Lib.hid (works_any ws (hq' hbs'))
        clear HSs hbs
        go_wp2_with fail
        refine HW.out.mono ?_
        rintro e wt ⟨rfl, hbt⟩
        go_wp2_with fail
        go_ret
        exact ⟨rfl, kept_trans hbs' hbt⟩
  · have hI : ¬ (len : Int) < 1 := by omega
    have hI2 : (len : Int) ≤ 60 := by omega
    go_enter Tryd.func9, Tryd.ntmps9
    have hnew := new_ok w len (by omega) (by omega)
    try rw [show ((len : Nat) : Int) = len from rfl] at hnew
    have Hnew := Lib.hid hnew
    clear hnew
    go_wp2_with fail
    refine Hnew.out.mono ?_
    rintro e w1 ⟨K, rfl, hd, hb1, hK⟩
    have hrnew := refNew_ok w1 len (by omega) (by omega)
    try rw [show ((len : Nat) : Int) = len from rfl] at hrnew
    have Hrnew := Lib.hid hrnew
    clear hrnew Hnew
    go_wp2_with fail
    refine Hrnew.out.mono ?_
    rintro e w2 ⟨KR, rfl, hr, hb2, hKR⟩
    have hT : TwoAt w w2 K.d KR.d len 0 := by
      have hz1 := hb1.size
      exact ⟨K, KR, MD.fresh len, rfl, rfl, hd.kept hb2, hr, by simp [MD.fresh], rfl, rfl, Nat.le_refl _, fun b hb => ⟨hK b hb, fun h => by have := hd.lt b hb; have := hKR b h; omega⟩, fun b hb => by have := hKR b hb; omega, kept_trans hb1 hb2⟩
    have HT := Lib.hid hT
    obtain ⟨kd, hkd⟩ : ∃ q, K.d = q := ⟨_, rfl⟩
    obtain ⟨ke, hke⟩ : ∃ q, KR.d = q := ⟨_, rfl⟩
    rw [hkd, hke] at HT
    rw [hkd, hke]
    clear hT hd hr hK hKR hb1 hb2 Hrnew hkd hke
    go_wp2_with fail
    go_loopw [8] (fun i wr => TwoRel w kd ke len i wr) (fun i _ => len - (intOf i).toNat)
    case atStart => exact ⟨0, by omega, rfl, HT.out⟩
    case round =>
      obtain ⟨k, hk, rfl, K, KR, M, rfl, rfl, hd, hr, hSn, hdn, hft, hwr, hKf, hKR, hbw⟩ := hrel
      by_cases hkN : k < len
      · have hkI : (k : Int) < (len : Int) := by omega
        by_cases hkl : k < len
        · have hklI : (k : Int) < (len : Int) := by omega
          have hkA : k < A.length := by rw [Hlen.out]; exact hkl
          obtain ⟨b, off, rfl, hblt, hcc⟩ := Hx.out.resolve_left (by intro e; rw [e] at hkA; simp at hkA)
          obtain ⟨x, c, hc0, hB, -⟩ := hcc k hkA
          generalize A[k] = s at *
          have hsz := hbw.size
          rw [← hbw.cell (p := ⟨b, off + k, none⟩) hblt] at hc0
          have HS1 := Lib.hid (sector35_any wr _ _ s (hB.keep (w' := wr) fun b hb _ => hbw.block b hb))
          have Hd := Lib.hid hd; have Hr := Lib.hid hr; have HB := Lib.hid hB; have HSn := Lib.hid hSn; have Hdn := Lib.hid hdn; have Hft := Lib.hid hft; have Hwr := Lib.hid hwr; have HKf := Lib.hid hKf; have HKR := Lib.hid hKR
          have H64 := Lib.hid (sec64_length s)
          have hrl := hr.lt
          have hdl := hd.lt
          clear hd hr hB hSn hdn hft hwr hKf hKR hcc HT
          go_wp2_with fail
          refine HS1.out.mono ?_
          rintro e w3 ⟨rfl, hq3, hb3⟩
          have hd3 := Hd.out.kept hb3
          have hw := write_ok w3 K M hd3 k (by rw [HSn.out]; exact hkN) Hdn.out (by have := Hwr.out; omega) (fun b => b = wr.heap.size) _ (sec64 s) (blk_bytes64 hq3 H64.out _ rfl) H64.out (fun b e h => by have := hdl b h; omega)
          rw [write_up M Hft.out] at hw
          have Hw := Lib.hid hw
          have Hr3 := Lib.hid (Hr.out.kept hb3)
          have hz3 := hb3.size
          clear hw hd3 hq3 HS1
          go_wp2_with fail
          refine Hw.out.mono ?_
          rintro e w4 ⟨rfl, ⟨K4, hK4, hK4f, hd4⟩, ho4, -⟩
          have hz4 : w3.heap.size ≤ w4.heap.size := ho4.size
          have hr4 := Hr3.out.only ho4 fun b hb h => (HKf.out b h).2 hb
          have hc4 : w4.cell? ⟨b, off + k, none⟩ = some (.slice x s.length c) := by
            have hlt := cell_lt hc0
            have e : w4.heap[b]? = wr.heap[b]? := by rw [ho4.block b (by show b < w3.heap.size; omega) (fun h => by have := (HKf.out b h).1; omega), hb3.block b hlt]
            unfold World.cell? at *
            rw [show (⟨b, off + k, none⟩ : Addr).block = b from rfl, e]
            exact hc0
          have hB4 : Bytes (fun b => b < w.heap.size) w4 (.slice x s.length c) s := HB.out.keep fun b hb _ => by rw [ho4.block b (by omega) (fun h => by have := (HKf.out b h).1; omega), hb3.block b (by omega), hbw.block b hb]
          have HS2 := Lib.hid (sector35_any w4 _ _ s hB4)
          have Hd4 := Lib.hid hd4; have Hr4 := Lib.hid hr4
          have hb34 : Below w.heap.size w w4 := (hbw.trans (hb3.mono hsz)).trans (ho4.below (fun b h => (HKf.out b h).1) (by omega))
          clear hd4 hr4 hB4 Hw Hr3 hc0 hb3 ho4
          go_wp2_with fail
          refine HS2.out.mono ?_
          rintro e w5 ⟨rfl, hq5, hb5⟩
          have hw := refWrite_ok w5 KR M (Hr4.out.kept hb5) k (by rw [HSn.out]; exact hkN) Hdn.out (by have := Hwr.out; omega) (fun b => b = w4.heap.size) _ (sec64 s) (blk_bytes64 hq5 H64.out _ rfl) H64.out (fun b e h => by have := hrl KR.d (.inl rfl); omega)
          rw [write_up M Hft.out] at hw
          have Hw := Lib.hid hw
          have Hd5 := Lib.hid (Hd4.out.kept hb5)
          have hz5 := hb5.size
          have hd4l := Hd4.out.lt
          have hb35 : Below w.heap.size w w5 := hb34.trans (hb5.mono (by have := hb34.size; omega))
          clear hw hq5 HS2 Hd4 Hr4 hb5
          go_wp2_with fail
          refine Hw.out.mono ?_
          rintro e w6 ⟨rfl, ⟨R6, hR6, hR6f, hr6⟩, ho6⟩
          have hd6 := Hd5.out.only ho6 fun b hb h => (HKf.out b (hK4f b hb)).2 (RefAt.foot_all h)
          have hb36 : Below w.heap.size w w6 := hb35.trans (ho6.below (fun b h => HKR.out b (RefAt.foot_all h)) (by have := hb35.size; omega))
          have Hd6 := Lib.hid hd6; have Hr6 := Lib.hid hr6
          have hk4s := hb34.size
          clear hd6 hr6 Hw Hd5 ho6
          go_wp2_with fail
          go_roundw
          case rel =>
            refine ⟨k + 1, by omega, by go_num, K4, R6, _, hK4, hR6, Hd6.out, Hr6.out, by simp [HSn.out], Hdn.out, Hft.out, by have := Hwr.out; show M.writes + 1 ≤ k + 1; omega, fun b hb => ⟨(HKf.out b (hK4f b hb)).1, fun h => ?_⟩, fun b hb => ?_, hb36⟩
            · rcases hR6f b h with h | h
              · exact (HKf.out b (hK4f b hb)).2 h
              · have := hd4l b hb; omega
            · rcases hR6f b hb with h | h
              · exact HKR.out b h
              · have := hb35.size; omega
          case measure => simp [intOf]; omega
        ·
          exact absurd hkl (by omega)
      · have hkI : ¬ (k : Int) < (len : Int) := by omega
        have hrl := hr.lt
        have hdl := hd.lt
        obtain ⟨p, hp⟩ : ∃ p, p = wr.heap.size := ⟨_, rfl⟩
        have hpl : w.heap.size ≤ p := by rw [hp]; exact hbw.size
        obtain ⟨wp, hwp⟩ : ∃ wp, wp = wr.alloc (.cells #[.pointer (some ⟨K.d, 0, none⟩), .pointer none, .pointer (some ⟨KR.d, 0, none⟩), .pointer none] 61) := ⟨_, rfl⟩
        have bp : Below wr.heap.size wr wp := by rw [hwp]; exact kept_alloc _ _
        have zp : wp.heap.size = wr.heap.size + 1 := by rw [hwp]; simp
        have np : Blk wp p [.pointer (some ⟨K.d, 0, none⟩), .pointer none, .pointer (some ⟨KR.d, 0, none⟩), .pointer none] 61 := by rw [hwp, hp]; exact Blk.new _ _ _
        have hX : PairX wp p w.heap.size M none := ⟨⟨K.foot, KR.all, K.d, .pointer none, KR.d, .pointer none⟩, ⟨np, ⟨rfl, K, rfl, fun b hb => hb, hd.kept bp⟩, ⟨rfl, KR, rfl, fun b hb => hb, hr.kept bp⟩, fun b hb => ⟨(hKf b hb).1, by have := hdl b hb; omega, (hKf b hb).2, by have := hdl b hb; omega⟩, fun b hb => ⟨hKR b hb, by have := hrl b hb; omega, by have := hrl b hb; omega⟩, h0, hpl⟩⟩
        have hbp := hbw.trans (bp.mono hbw.size)
        have hS1 : 0 < M.S.length := by rw [hSn]; omega
        have HX := Lib.hid (popen_any wp p w.heap.size M none hX (hq' hbp))
        have Hp := Lib.hid hp; have Hwp := Lib.hid hwp
        clear hX np zp bp hd hr hKf hKR hrl hdl hwp hSn hdn hft HT
        go_wp2_with fail
        rw [← Hp.out, ← Hwp.out]
        clear hp
        refine HX.out.mono ?_
        rintro e wq ⟨rfl, hXq, hbq⟩
        have hbq' : Below w.heap.size w wq := hbp.trans hbq
        have HL := Lib.hid (like_any wq p w.heap.size M _ hXq)
        clear HX hbq
        go_wp2_with fail
        refine HL.out.mono ?_
        rintro e wr2 ⟨rfl, hbr⟩
        have hXr := hXq.kept hbr
        have hbr' := kept_trans hbq' hbr
        have HSs := Lib.hid (psectors_any wr2 p w.heap.size M _ hXr hS1)
        clear HL hXq hbr hXr
        go_wp2_with fail
        refine HSs.out.mono ?_
        rintro e ws ⟨rfl, hbs⟩
        have hbs' := kept_trans hbr' hbs
        have HW := Lib.hid (works_any ws (hq' hbs'))
        clear HSs hbs
        go_wp2_with fail
        refine HW.out.mono ?_
        rintro e wt ⟨rfl, hbt⟩
        go_wp2_with fail
        go_ret
        exact ⟨rfl, kept_trans hbs' hbt⟩
  · have hI : ¬ (len : Int) < 1 := by omega
    have hI2 : 60 < (len : Int) := by omega
    go_enter Tryd.func9, Tryd.ntmps9
    have hnew := new_ok w 60 (by omega) (by omega)
    try rw [show ((60 : Nat) : Int) = 60 from rfl] at hnew
    have Hnew := Lib.hid hnew
    clear hnew
    go_wp2_with fail
    refine Hnew.out.mono ?_
    rintro e w1 ⟨K, rfl, hd, hb1, hK⟩
    have hrnew := refNew_ok w1 60 (by omega) (by omega)
    try rw [show ((60 : Nat) : Int) = 60 from rfl] at hrnew
    have Hrnew := Lib.hid hrnew
    clear hrnew Hnew
    go_wp2_with fail
    refine Hrnew.out.mono ?_
    rintro e w2 ⟨KR, rfl, hr, hb2, hKR⟩
    have hT : TwoAt w w2 K.d KR.d 60 0 := by
      have hz1 := hb1.size
      exact ⟨K, KR, MD.fresh 60, rfl, rfl, hd.kept hb2, hr, by simp [MD.fresh], rfl, rfl, Nat.le_refl _, fun b hb => ⟨hK b hb, fun h => by have := hd.lt b hb; have := hKR b h; omega⟩, fun b hb => by have := hKR b hb; omega, kept_trans hb1 hb2⟩
    have HT := Lib.hid hT
    obtain ⟨kd, hkd⟩ : ∃ q, K.d = q := ⟨_, rfl⟩
    obtain ⟨ke, hke⟩ : ∃ q, KR.d = q := ⟨_, rfl⟩
    rw [hkd, hke] at HT
    rw [hkd, hke]
    clear hT hd hr hK hKR hb1 hb2 Hrnew hkd hke
    go_wp2_with fail
    go_loopw [8] (fun i wr => TwoRel w kd ke 60 i wr) (fun i _ => 60 - (intOf i).toNat)
    case atStart => exact ⟨0, by omega, rfl, HT.out⟩
    case round =>
      obtain ⟨k, hk, rfl, K, KR, M, rfl, rfl, hd, hr, hSn, hdn, hft, hwr, hKf, hKR, hbw⟩ := hrel
      by_cases hkN : k < 60
      · have hkI : (k : Int) < 60 := by omega
        by_cases hkl : k < len
        · have hklI : (k : Int) < (len : Int) := by omega
          have hkA : k < A.length := by rw [Hlen.out]; exact hkl
          obtain ⟨b, off, rfl, hblt, hcc⟩ := Hx.out.resolve_left (by intro e; rw [e] at hkA; simp at hkA)
          obtain ⟨x, c, hc0, hB, -⟩ := hcc k hkA
          generalize A[k] = s at *
          have hsz := hbw.size
          rw [← hbw.cell (p := ⟨b, off + k, none⟩) hblt] at hc0
          have HS1 := Lib.hid (sector35_any wr _ _ s (hB.keep (w' := wr) fun b hb _ => hbw.block b hb))
          have Hd := Lib.hid hd; have Hr := Lib.hid hr; have HB := Lib.hid hB; have HSn := Lib.hid hSn; have Hdn := Lib.hid hdn; have Hft := Lib.hid hft; have Hwr := Lib.hid hwr; have HKf := Lib.hid hKf; have HKR := Lib.hid hKR
          have H64 := Lib.hid (sec64_length s)
          have hrl := hr.lt
          have hdl := hd.lt
          clear hd hr hB hSn hdn hft hwr hKf hKR hcc HT
          go_wp2_with fail
          refine HS1.out.mono ?_
          rintro e w3 ⟨rfl, hq3, hb3⟩
          have hd3 := Hd.out.kept hb3
          have hw := write_ok w3 K M hd3 k (by rw [HSn.out]; exact hkN) Hdn.out (by have := Hwr.out; omega) (fun b => b = wr.heap.size) _ (sec64 s) (blk_bytes64 hq3 H64.out _ rfl) H64.out (fun b e h => by have := hdl b h; omega)
          rw [write_up M Hft.out] at hw
          have Hw := Lib.hid hw
          have Hr3 := Lib.hid (Hr.out.kept hb3)
          have hz3 := hb3.size
          clear hw hd3 hq3 HS1
          go_wp2_with fail
          refine Hw.out.mono ?_
          rintro e w4 ⟨rfl, ⟨K4, hK4, hK4f, hd4⟩, ho4, -⟩
          have hz4 : w3.heap.size ≤ w4.heap.size := ho4.size
          have hr4 := Hr3.out.only ho4 fun b hb h => (HKf.out b h).2 hb
          have hc4 : w4.cell? ⟨b, off + k, none⟩ = some (.slice x s.length c) := by
            have hlt := cell_lt hc0
            have e : w4.heap[b]? = wr.heap[b]? := by rw [ho4.block b (by show b < w3.heap.size; omega) (fun h => by have := (HKf.out b h).1; omega), hb3.block b hlt]
            unfold World.cell? at *
            rw [show (⟨b, off + k, none⟩ : Addr).block = b from rfl, e]
            exact hc0
          have hB4 : Bytes (fun b => b < w.heap.size) w4 (.slice x s.length c) s := HB.out.keep fun b hb _ => by rw [ho4.block b (by omega) (fun h => by have := (HKf.out b h).1; omega), hb3.block b (by omega), hbw.block b hb]
          have HS2 := Lib.hid (sector35_any w4 _ _ s hB4)
          have Hd4 := Lib.hid hd4; have Hr4 := Lib.hid hr4
          have hb34 : Below w.heap.size w w4 := (hbw.trans (hb3.mono hsz)).trans (ho4.below (fun b h => (HKf.out b h).1) (by omega))
          clear hd4 hr4 hB4 Hw Hr3 hc0 hb3 ho4
          go_wp2_with fail
          refine HS2.out.mono ?_
          rintro e w5 ⟨rfl, hq5, hb5⟩
          have hw := refWrite_ok w5 KR M (Hr4.out.kept hb5) k (by rw [HSn.out]; exact hkN) Hdn.out (by have := Hwr.out; omega) (fun b => b = w4.heap.size) _ (sec64 s) (blk_bytes64 hq5 H64.out _ rfl) H64.out (fun b e h => by have := hrl KR.d (.inl rfl); omega)
          rw [write_up M Hft.out] at hw
          have Hw := Lib.hid hw
          have Hd5 := Lib.hid (Hd4.out.kept hb5)
          have hz5 := hb5.size
          have hd4l := Hd4.out.lt
          have hb35 : Below w.heap.size w w5 := hb34.trans (hb5.mono (by have := hb34.size; omega))
          clear hw hq5 HS2 Hd4 Hr4 hb5
          go_wp2_with fail
          refine Hw.out.mono ?_
          rintro e w6 ⟨rfl, ⟨R6, hR6, hR6f, hr6⟩, ho6⟩
          have hd6 := Hd5.out.only ho6 fun b hb h => (HKf.out b (hK4f b hb)).2 (RefAt.foot_all h)
          have hb36 : Below w.heap.size w w6 := hb35.trans (ho6.below (fun b h => HKR.out b (RefAt.foot_all h)) (by have := hb35.size; omega))
          have Hd6 := Lib.hid hd6; have Hr6 := Lib.hid hr6
          have hk4s := hb34.size
          clear hd6 hr6 Hw Hd5 ho6
          go_wp2_with fail
          go_roundw
          case rel =>
            refine ⟨k + 1, by omega, by go_num, K4, R6, _, hK4, hR6, Hd6.out, Hr6.out, by simp [HSn.out], Hdn.out, Hft.out, by have := Hwr.out; show M.writes + 1 ≤ k + 1; omega, fun b hb => ⟨(HKf.out b (hK4f b hb)).1, fun h => ?_⟩, fun b hb => ?_, hb36⟩
            · rcases hR6f b h with h | h
              · exact (HKf.out b (hK4f b hb)).2 h
              · have := hd4l b hb; omega
            · rcases hR6f b hb with h | h
              · exact HKR.out b h
              · have := hb35.size; omega
          case measure => simp [intOf]; omega
        ·
          exact absurd hkl (by omega)
      · have hkI : ¬ (k : Int) < 60 := by omega
        have hrl := hr.lt
        have hdl := hd.lt
        obtain ⟨p, hp⟩ : ∃ p, p = wr.heap.size := ⟨_, rfl⟩
        have hpl : w.heap.size ≤ p := by rw [hp]; exact hbw.size
        obtain ⟨wp, hwp⟩ : ∃ wp, wp = wr.alloc (.cells #[.pointer (some ⟨K.d, 0, none⟩), .pointer none, .pointer (some ⟨KR.d, 0, none⟩), .pointer none] 61) := ⟨_, rfl⟩
        have bp : Below wr.heap.size wr wp := by rw [hwp]; exact kept_alloc _ _
        have zp : wp.heap.size = wr.heap.size + 1 := by rw [hwp]; simp
        have np : Blk wp p [.pointer (some ⟨K.d, 0, none⟩), .pointer none, .pointer (some ⟨KR.d, 0, none⟩), .pointer none] 61 := by rw [hwp, hp]; exact Blk.new _ _ _
        have hX : PairX wp p w.heap.size M none := ⟨⟨K.foot, KR.all, K.d, .pointer none, KR.d, .pointer none⟩, ⟨np, ⟨rfl, K, rfl, fun b hb => hb, hd.kept bp⟩, ⟨rfl, KR, rfl, fun b hb => hb, hr.kept bp⟩, fun b hb => ⟨(hKf b hb).1, by have := hdl b hb; omega, (hKf b hb).2, by have := hdl b hb; omega⟩, fun b hb => ⟨hKR b hb, by have := hrl b hb; omega, by have := hrl b hb; omega⟩, h0, hpl⟩⟩
        have hbp := hbw.trans (bp.mono hbw.size)
        have hS1 : 0 < M.S.length := by rw [hSn]; omega
        have HX := Lib.hid (popen_any wp p w.heap.size M none hX (hq' hbp))
        have Hp := Lib.hid hp; have Hwp := Lib.hid hwp
        clear hX np zp bp hd hr hKf hKR hrl hdl hwp hSn hdn hft HT
        go_wp2_with fail
        rw [← Hp.out, ← Hwp.out]
        clear hp
        refine HX.out.mono ?_
        rintro e wq ⟨rfl, hXq, hbq⟩
        have hbq' : Below w.heap.size w wq := hbp.trans hbq
        have HL := Lib.hid (like_any wq p w.heap.size M _ hXq)
        clear HX hbq
        go_wp2_with fail
        refine HL.out.mono ?_
        rintro e wr2 ⟨rfl, hbr⟩
        have hXr := hXq.kept hbr
        have hbr' := kept_trans hbq' hbr
        have HSs := Lib.hid (psectors_any wr2 p w.heap.size M _ hXr hS1)
        clear HL hXq hbr hXr
        go_wp2_with fail
        refine HSs.out.mono ?_
        rintro e ws ⟨rfl, hbs⟩
        have hbs' := kept_trans hbr' hbs
        have HW := Lib.hid (works_any ws (hq' hbs'))
        clear HSs hbs
        go_wp2_with fail
        refine HW.out.mono ?_
        rintro e wt ⟨rfl, hbt⟩
        go_wp2_with fail
        go_ret
        exact ⟨rfl, kept_trans hbs' hbt⟩
end Go.Proofs.YtmimplmeccoahaaDoor
