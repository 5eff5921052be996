/- The law JournalFormats. No condition. -/
import Derived.Test.YtmimplmeccoahaaDoorP6
import Derived.Test.YtmimplmeccoahaaDoorOpens
namespace Go.Proofs.YtmimplmeccoahaaDoor
open Go.RowKit
set_option linter.unusedVariables false
set_option maxRecDepth 20000
attribute [local go_sem] opC upC

theorem fmtM_len (M : MD) : (fmtM M).S.length = M.S.length := by
  unfold fmtM
  split
  · rfl
  · rw [formatM_def]; exact (writeAll_len _ M).1



set_option maxRecDepth 100000 in
set_option maxHeartbeats 3200000 in
theorem JournalFormats_walk (v0 : Value) (a1 : Int) (v2 : Value) (w : World) (w0 : IsBss w v0) (w1 : (Lit.int .u8 a1).wf = true) (w2 : IsBs w v2) (hq : Quarter w) :
    Calls Tryd.prog 11 #[v0, .int .u8 a1, v2] w fun e w' => e = .returned (.bool true) ∧ Below w.heap.size w w' := by
  have h0 : 0 < w.heap.size := by obtain ⟨t, fz, hh⟩ := hq; exact lt_of_block hh
  have hq' : ∀ {w' : World}, Below w.heap.size w w' → Quarter w' := fun hb => hq.keep (hb.block 0 h0)
  have g1 := bounds_u8 w1
  obtain ⟨tn, htn⟩ := w2
  obtain ⟨ta, tc, rfl, -⟩ := id htn
  obtain ⟨tl, htl⟩ : ∃ tl, tn.length = tl := ⟨_, rfl⟩
  rw [htl] at htn ⊢
  have HTn := Lib.hid htn
  clear htn htl
  obtain ⟨A, va, vc, rfl, hA9, hx⟩ := bss_of w0
  clear w0 w1
  have Hx := Lib.hid hx
  clear hx
  obtain ⟨len, hlen⟩ : ∃ len, A.length = len := ⟨_, rfl⟩
  rw [hlen] at hA9 ⊢
  have Hlen := Lib.hid hlen
  clear hlen
  have hA9I : (len : Int) ≤ 9223372036854775807 := by omega
  have h3 : len < 1 ∨ (1 ≤ len ∧ len ≤ 40) ∨ 40 < len := by omega
  rcases h3 with h | ⟨h, h'⟩ | h
  · have hI : (len : Int) < 1 := by omega
    go_enter Tryd.func11, Tryd.ntmps11
    have hnew := new_ok w 1 (by omega) (by omega)
    try rw [show ((1 : Nat) : Int) = 1 from rfl] at hnew
    have Hnew := Lib.hid hnew
    clear hnew
    go_wp2_with fail
    refine Hnew.out.mono ?_
    rintro e w1 ⟨K, rfl, hd, hb1, hK⟩
    have hrnew := refNew_ok w1 1 (by omega) (by omega)
    try rw [show ((1 : Nat) : Int) = 1 from rfl] at hrnew
    have Hrnew := Lib.hid hrnew
    clear hrnew Hnew
    go_wp2_with fail
    refine Hrnew.out.mono ?_
    rintro e w2 ⟨KR, rfl, hr, hb2, hKR⟩
    have hT : TwoAt w w2 K.d KR.d 1 0 := by
      have hz1 := hb1.size
      exact ⟨K, KR, MD.fresh 1, rfl, rfl, hd.kept hb2, hr, by simp [MD.fresh], rfl, rfl, Nat.le_refl _, fun b hb => ⟨hK b hb, fun h => by have := hd.lt b hb; have := hKR b h; omega⟩, fun b hb => by have := hKR b hb; omega, kept_trans hb1 hb2⟩
    have HT := Lib.hid hT
    obtain ⟨kd, hkd⟩ : ∃ q, K.d = q := ⟨_, rfl⟩
    obtain ⟨ke, hke⟩ : ∃ q, KR.d = q := ⟨_, rfl⟩
    rw [hkd, hke] at HT
    rw [hkd, hke]
    clear hT hd hr hK hKR hb1 hb2 Hrnew hkd hke
    go_wp2_with fail
    go_loopw [12] (fun i wr => TwoRel w kd ke 1 i wr) (fun i _ => 1 - (intOf i).toNat)
    case atStart => exact ⟨0, by omega, rfl, HT.out⟩
    case round =>
      obtain ⟨k, hk, rfl, K, KR, M, rfl, rfl, hd, hr, hSn, hdn, hft, hwr, hKf, hKR, hbw⟩ := hrel
      by_cases hkN : k < 1
      · have hkI : (k : Int) < 1 := by omega
        by_cases hkl : k < len
        · have hklI : (k : Int) < (len : Int) := by omega
          have hkA : k < A.length := by rw [Hlen.out]; exact hkl
          obtain ⟨b, off, rfl, hblt, hcc⟩ := Hx.out.resolve_left (by intro e; rw [e] at hkA; simp at hkA)
          obtain ⟨x, c, hc0, hB, -⟩ := hcc k hkA
          generalize A[k] = s at *
          have hsz := hbw.size
          rw [← hbw.cell (p := ⟨b, off + k, none⟩) hblt] at hc0
          have HS1 := Lib.hid (sector35_any wr _ _ s (hB.keep (w' := wr) fun b hb _ => hbw.block b hb))
          have Hd := Lib.hid hd; have Hr := Lib.hid hr; have HB := Lib.hid hB; have HSn := Lib.hid hSn; have Hdn := Lib.hid hdn; have Hft := Lib.hid hft; have Hwr := Lib.hid hwr; have HKf := Lib.hid hKf; have HKR := Lib.hid hKR
          have H64 := Lib.hid (sec64_length s)
          have hrl := hr.lt
          have hdl := hd.lt
          clear hd hr hB hSn hdn hft hwr hKf hKR hcc HT
          go_wp2_with fail
          refine HS1.out.mono ?_
          rintro e w3 ⟨rfl, hq3, hb3⟩
          have hd3 := Hd.out.kept hb3
          have hw := write_ok w3 K M hd3 k (by rw [HSn.out]; exact hkN) Hdn.out (by have := Hwr.out; omega) (fun b => b = wr.heap.size) _ (sec64 s) (blk_bytes64 hq3 H64.out _ rfl) H64.out (fun b e h => by have := hdl b h; omega)
          rw [write_up M Hft.out] at hw
          have Hw := Lib.hid hw
          have Hr3 := Lib.hid (Hr.out.kept hb3)
          have hz3 := hb3.size
          clear hw hd3 hq3 HS1
          go_wp2_with fail
          refine Hw.out.mono ?_
          rintro e w4 ⟨rfl, ⟨K4, hK4, hK4f, hd4⟩, ho4, -⟩
          have hz4 : w3.heap.size ≤ w4.heap.size := ho4.size
          have hr4 := Hr3.out.only ho4 fun b hb h => (HKf.out b h).2 hb
          have hc4 : w4.cell? ⟨b, off + k, none⟩ = some (.slice x s.length c) := by
            have hlt := cell_lt hc0
            have e : w4.heap[b]? = wr.heap[b]? := by rw [ho4.block b (by show b < w3.heap.size; omega) (fun h => by have := (HKf.out b h).1; omega), hb3.block b hlt]
            unfold World.cell? at *
            rw [show (⟨b, off + k, none⟩ : Addr).block = b from rfl, e]
            exact hc0
          have hB4 : Bytes (fun b => b < w.heap.size) w4 (.slice x s.length c) s := HB.out.keep fun b hb _ => by rw [ho4.block b (by omega) (fun h => by have := (HKf.out b h).1; omega), hb3.block b (by omega), hbw.block b hb]
          have HS2 := Lib.hid (sector35_any w4 _ _ s hB4)
          have Hd4 := Lib.hid hd4; have Hr4 := Lib.hid hr4
          have hb34 : Below w.heap.size w w4 := (hbw.trans (hb3.mono hsz)).trans (ho4.below (fun b h => (HKf.out b h).1) (by omega))
          clear hd4 hr4 hB4 Hw Hr3 hc0 hb3 ho4
          go_wp2_with fail
          refine HS2.out.mono ?_
          rintro e w5 ⟨rfl, hq5, hb5⟩
          have hw := refWrite_ok w5 KR M (Hr4.out.kept hb5) k (by rw [HSn.out]; exact hkN) Hdn.out (by have := Hwr.out; omega) (fun b => b = w4.heap.size) _ (sec64 s) (blk_bytes64 hq5 H64.out _ rfl) H64.out (fun b e h => by have := hrl KR.d (.inl rfl); omega)
          rw [write_up M Hft.out] at hw
          have Hw := Lib.hid hw
          have Hd5 := Lib.hid (Hd4.out.kept hb5)
          have hz5 := hb5.size
          have hd4l := Hd4.out.lt
          have hb35 : Below w.heap.size w w5 := hb34.trans (hb5.mono (by have := hb34.size; omega))
          clear hw hq5 HS2 Hd4 Hr4 hb5
          go_wp2_with fail
          refine Hw.out.mono ?_
          rintro e w6 ⟨rfl, ⟨R6, hR6, hR6f, hr6⟩, ho6⟩
          have hd6 := Hd5.out.only ho6 fun b hb h => (HKf.out b (hK4f b hb)).2 (RefAt.foot_all h)
          have hb36 : Below w.heap.size w w6 := hb35.trans (ho6.below (fun b h => HKR.out b (RefAt.foot_all h)) (by have := hb35.size; omega))
          have Hd6 := Lib.hid hd6; have Hr6 := Lib.hid hr6
          have hk4s := hb34.size
          clear hd6 hr6 Hw Hd5 ho6
          go_wp2_with fail
          go_roundw
          case rel =>
            refine ⟨k + 1, by omega, by go_num, K4, R6, _, hK4, hR6, Hd6.out, Hr6.out, by simp [HSn.out], Hdn.out, Hft.out, by have := Hwr.out; show M.writes + 1 ≤ k + 1; omega, fun b hb => ⟨(HKf.out b (hK4f b hb)).1, fun h => ?_⟩, fun b hb => ?_, hb36⟩
            · rcases hR6f b h with h | h
              · exact (HKf.out b (hK4f b hb)).2 h
              · have := hd4l b hb; omega
            · rcases hR6f b hb with h | h
              · exact HKR.out b h
              · have := hb35.size; omega
          case measure => simp [intOf]; omega
        ·
          have hklI : ¬ (k : Int) < (len : Int) := by omega
          have HT2 : TwinU wr w.heap.size K.d KR.d M M := ⟨K, KR, rfl, rfl, hd, hr, hKf, hKR, h0⟩
          obtain ⟨dd, hdd⟩ : ∃ q, K.d = q := ⟨_, rfl⟩
          obtain ⟨ee, hee⟩ : ∃ q, KR.d = q := ⟨_, rfl⟩
          rw [hdd, hee] at HT2
          rw [hdd, hee]
          have hS1 : 0 < M.S.length := by rw [hSn]; omega
          have hee0 : w.heap.size ≤ ee := by rw [← hee]; exact hKR _ (.inl rfl)
          have HS1 := Lib.hid (sector35_any wr _ _ tn (HTn.out.keep (w' := wr) fun b hb _ => hbw.block b hb))
          have HT2 := Lib.hid HT2; have Hbw := Lib.hid hbw; have Hwr := Lib.hid hwr; have HS0 := Lib.hid hS1; have Hee := Lib.hid hee0
          clear hd hr hKf hKR hSn hdn hft hdd hee hS1 HT hbw hwr hee0
          go_wp2_with fail
          refine HS1.out.mono ?_
          rintro e w3 ⟨rfl, hq3, hb3⟩
          have H64 := Lib.hid (sec64_length tn)
          have HF := Lib.hid (tfailP w3 _ _ _ M M (HT2.out.kept hb3) (a1 % 60) (by omega) (by omega) (fun b => b = wr.heap.size) _ (sec64 tn) (blk_bytes64 hq3 H64.out _ rfl) H64.out)
          have Hb3 := Lib.hid (Hbw.out.trans (hb3.mono Hbw.out.size))
          clear hq3 hb3 HS1 HT2 Hbw
          go_wp2_with fail
          refine HF.out.mono ?_
          rintro e w4 ⟨rfl, hT4, hb4⟩
          have hb4' := Hb3.out.trans hb4
          have HS2 := Lib.hid (sector35_any w4 _ _ tn (HTn.out.keep (w' := w4) fun b hb _ => hb4'.block b hb))
          have HT4 := Lib.hid hT4; have Hb4 := Lib.hid hb4'
          clear HF hT4 hb4 hb4' Hb3
          go_wp2_with fail
          refine HS2.out.mono ?_
          rintro e w5 ⟨rfl, hq5, hb5⟩
          have HF := Lib.hid (tfailR w5 _ _ _ _ M (HT4.out.kept hb5) (a1 % 60) (by omega) (by omega) (fun b => b = w4.heap.size) _ (sec64 tn) (blk_bytes64 hq5 H64.out _ rfl) H64.out (fun b hb hx => by
            obtain ⟨K, KR, h1, h2, h3, h4, h5⟩ := HT4.out
            have h6 := h4.lt _ (.inl rfl)
            rw [h2] at h6
            omega))
          have Hb5 := Lib.hid (Hb4.out.trans (hb5.mono Hb4.out.size))
          clear hq5 hb5 HS2 HT4 Hb4
          go_wp2_with fail
          refine HF.out.mono ?_
          rintro e w6 ⟨rfl, hT6, hb6⟩
          have hb6' := Hb5.out.trans hb6
          have hS1 : 0 < M.S.length := HS0.out
          have hW6 : M.writes ≤ 60 := by have := Hwr.out; omega
          obtain ⟨N, hN⟩ : ∃ N : MD, N = { M with fault := some ((a1 % 60).toNat, sec64 tn) } := ⟨_, rfl⟩
          have hNS : 0 < N.S.length := by rw [hN]; exact hS1
          have hNW : N.writes ≤ 60 := by rw [hN]; exact hW6
          rw [← hN] at hT6
          have HT6 := Lib.hid (tformatP w6 _ _ _ N N hT6 (hq' hb6') (by omega))
          have Hb6 := Lib.hid hb6'; have HNS := Lib.hid hNS; have HNW := Lib.hid hNW
          clear HF hT6 hb6 hb6' Hb5 hN hNS hNW hS1 hW6 HS0 Hwr
          go_wp2_with fail
          refine HT6.out.mono ?_
          rintro e w7 ⟨x7, F7, rfl, hH7, hb7⟩
          have hb7' := Hb6.out.trans hb7
          have HR7 := Lib.hid (tformatR w7 _ _ _ _ _ _ _ N hH7 hb7'.size (by have := HNW.out; omega))
          have Hb7 := Lib.hid hb7'
          clear HT6 hH7 hb7 hb7' Hb6
          go_wp2_with fail
          refine HR7.out.mono ?_
          rintro e w8 ⟨x8, G8, rfl, hP8, hR8, hF8, hG8, hb8⟩
          have hb8' := Hb7.out.trans hb8
          obtain ⟨p, hp⟩ : ∃ p, p = w8.heap.size := ⟨_, rfl⟩
          obtain ⟨wp, hwp⟩ : ∃ wp, wp = w8.alloc (.cells #[.pointer (some ⟨dd, 0, none⟩), .pointer x7, .pointer (some ⟨ee, 0, none⟩), .pointer x8] 61) := ⟨_, rfl⟩
          have hU : PairU wp p w.heap.size dd ee (fmtM N) (fmtM N) (fmtO N) (fmtO N) := by rw [hwp, hp]; exact pair_new hP8 hR8 hF8 hG8 h0 hb8'.size
          have hbp : Below w.heap.size w wp := by rw [hwp]; exact Below.alloc hb8' hb8'.size _
          have hfS : 0 < (fmtM N).S.length := by rw [fmtM_len]; exact HNS.out
          obtain ⟨r, hr⟩ : ∃ r, fmtR N = r := ⟨_, rfl⟩
          obtain ⟨M9, hM9⟩ : ∃ q, fmtM N = q := ⟨_, rfl⟩
          obtain ⟨o9, ho9⟩ : ∃ q, fmtO N = q := ⟨_, rfl⟩
          rw [hM9, ho9] at hU
          rw [hM9] at hfS
          rw [hr]
          have HL := Lib.hid (like_any wp p _ M9 _ hU.X)
          have HU := Lib.hid hU; have Hbp := Lib.hid hbp; have HfS := Lib.hid hfS
          have Hp := Lib.hid hp; have Hwp := Lib.hid hwp
          clear HR7 hP8 hR8 hF8 hG8 hb8 hb8' hwp hU hbp hfS hr hM9 ho9 Hb7 HNS HNW
          go_wp2_with fail
          rw [← Hp.out, ← Hwp.out]
          clear hp
          refine HL.out.mono ?_
          rintro e w10 ⟨rfl, hb10⟩
          have HS := Lib.hid (psectors_any w10 p _ M9 _ (HU.out.kept hb10).X HfS.out)
          have HU10 := Lib.hid (HU.out.kept hb10); have Hb10 := Lib.hid (kept_trans Hbp.out hb10)
          clear HL hb10 HU Hbp Hwp Hp
          go_wp2_with fail
          refine HS.out.mono ?_
          rintro e w11 ⟨rfl, hb11⟩
          have HUP := Lib.hid (upP w11 p _ _ _ _ _ _ _ (HU10.out.kept hb11))
          have Hb11 := Lib.hid (kept_trans Hb10.out hb11)
          clear HS hb11 HU10 Hb10
          go_wp2_with fail
          refine HUP.out.mono ?_
          rintro e w12 ⟨rfl, hU12, hb12⟩
          have HUR := Lib.hid (upR w12 p _ _ _ _ _ _ _ hU12)
          have Hb12 := Lib.hid (Hb11.out.trans hb12)
          clear HUP hU12 hb12 Hb11
          go_wp2_with fail
          refine HUR.out.mono ?_
          rintro e w13 ⟨rfl, hU13, hb13⟩
          have hb13' := Hb12.out.trans hb13
          have HX := Lib.hid (popen_any w13 p _ _ _ hU13.X (hq' hb13'))
          have Hb13 := Lib.hid hb13'
          clear HUR hU13 hb13 hb13' Hb12
          go_wp2_with fail
          refine HX.out.mono ?_
          rintro e wq ⟨rfl, hXq, hbq⟩
          have hbq' : Below w.heap.size w wq := Hb13.out.trans hbq
          have HL := Lib.hid (like_any wq p w.heap.size _ _ hXq)
          have Hbq := Lib.hid hbq'
          clear HX hbq hXq hbq' Hb13
          go_wp2_with fail
          refine HL.out.mono ?_
          rintro e ws ⟨rfl, hbs⟩
          have hbs' := kept_trans Hbq.out hbs
          have HW := Lib.hid (works_any ws (hq' hbs'))
          clear hbs HL
          go_wp2_with fail
          refine HW.out.mono ?_
          rintro e wt ⟨rfl, hbt⟩
          go_wp2_with fail
          go_ret
          exact ⟨rfl, kept_trans hbs' hbt⟩
      · have hkI : ¬ (k : Int) < 1 := by omega
        have HT2 : TwinU wr w.heap.size K.d KR.d M M := ⟨K, KR, rfl, rfl, hd, hr, hKf, hKR, h0⟩
        obtain ⟨dd, hdd⟩ : ∃ q, K.d = q := ⟨_, rfl⟩
        obtain ⟨ee, hee⟩ : ∃ q, KR.d = q := ⟨_, rfl⟩
        rw [hdd, hee] at HT2
        rw [hdd, hee]
        have hS1 : 0 < M.S.length := by rw [hSn]; omega
        have hee0 : w.heap.size ≤ ee := by rw [← hee]; exact hKR _ (.inl rfl)
        have HS1 := Lib.hid (sector35_any wr _ _ tn (HTn.out.keep (w' := wr) fun b hb _ => hbw.block b hb))
        have HT2 := Lib.hid HT2; have Hbw := Lib.hid hbw; have Hwr := Lib.hid hwr; have HS0 := Lib.hid hS1; have Hee := Lib.hid hee0
        clear hd hr hKf hKR hSn hdn hft hdd hee hS1 HT hbw hwr hee0
        go_wp2_with fail
        refine HS1.out.mono ?_
        rintro e w3 ⟨rfl, hq3, hb3⟩
        have H64 := Lib.hid (sec64_length tn)
        have HF := Lib.hid (tfailP w3 _ _ _ M M (HT2.out.kept hb3) (a1 % 60) (by omega) (by omega) (fun b => b = wr.heap.size) _ (sec64 tn) (blk_bytes64 hq3 H64.out _ rfl) H64.out)
        have Hb3 := Lib.hid (Hbw.out.trans (hb3.mono Hbw.out.size))
        clear hq3 hb3 HS1 HT2 Hbw
        go_wp2_with fail
        refine HF.out.mono ?_
        rintro e w4 ⟨rfl, hT4, hb4⟩
        have hb4' := Hb3.out.trans hb4
        have HS2 := Lib.hid (sector35_any w4 _ _ tn (HTn.out.keep (w' := w4) fun b hb _ => hb4'.block b hb))
        have HT4 := Lib.hid hT4; have Hb4 := Lib.hid hb4'
        clear HF hT4 hb4 hb4' Hb3
        go_wp2_with fail
        refine HS2.out.mono ?_
        rintro e w5 ⟨rfl, hq5, hb5⟩
        have HF := Lib.hid (tfailR w5 _ _ _ _ M (HT4.out.kept hb5) (a1 % 60) (by omega) (by omega) (fun b => b = w4.heap.size) _ (sec64 tn) (blk_bytes64 hq5 H64.out _ rfl) H64.out (fun b hb hx => by
          obtain ⟨K, KR, h1, h2, h3, h4, h5⟩ := HT4.out
          have h6 := h4.lt _ (.inl rfl)
          rw [h2] at h6
          omega))
        have Hb5 := Lib.hid (Hb4.out.trans (hb5.mono Hb4.out.size))
        clear hq5 hb5 HS2 HT4 Hb4
        go_wp2_with fail
        refine HF.out.mono ?_
        rintro e w6 ⟨rfl, hT6, hb6⟩
        have hb6' := Hb5.out.trans hb6
        have hS1 : 0 < M.S.length := HS0.out
        have hW6 : M.writes ≤ 60 := by have := Hwr.out; omega
        obtain ⟨N, hN⟩ : ∃ N : MD, N = { M with fault := some ((a1 % 60).toNat, sec64 tn) } := ⟨_, rfl⟩
        have hNS : 0 < N.S.length := by rw [hN]; exact hS1
        have hNW : N.writes ≤ 60 := by rw [hN]; exact hW6
        rw [← hN] at hT6
        have HT6 := Lib.hid (tformatP w6 _ _ _ N N hT6 (hq' hb6') (by omega))
        have Hb6 := Lib.hid hb6'; have HNS := Lib.hid hNS; have HNW := Lib.hid hNW
        clear HF hT6 hb6 hb6' Hb5 hN hNS hNW hS1 hW6 HS0 Hwr
        go_wp2_with fail
        refine HT6.out.mono ?_
        rintro e w7 ⟨x7, F7, rfl, hH7, hb7⟩
        have hb7' := Hb6.out.trans hb7
        have HR7 := Lib.hid (tformatR w7 _ _ _ _ _ _ _ N hH7 hb7'.size (by have := HNW.out; omega))
        have Hb7 := Lib.hid hb7'
        clear HT6 hH7 hb7 hb7' Hb6
        go_wp2_with fail
        refine HR7.out.mono ?_
        rintro e w8 ⟨x8, G8, rfl, hP8, hR8, hF8, hG8, hb8⟩
        have hb8' := Hb7.out.trans hb8
        obtain ⟨p, hp⟩ : ∃ p, p = w8.heap.size := ⟨_, rfl⟩
        obtain ⟨wp, hwp⟩ : ∃ wp, wp = w8.alloc (.cells #[.pointer (some ⟨dd, 0, none⟩), .pointer x7, .pointer (some ⟨ee, 0, none⟩), .pointer x8] 61) := ⟨_, rfl⟩
        have hU : PairU wp p w.heap.size dd ee (fmtM N) (fmtM N) (fmtO N) (fmtO N) := by rw [hwp, hp]; exact pair_new hP8 hR8 hF8 hG8 h0 hb8'.size
        have hbp : Below w.heap.size w wp := by rw [hwp]; exact Below.alloc hb8' hb8'.size _
        have hfS : 0 < (fmtM N).S.length := by rw [fmtM_len]; exact HNS.out
        obtain ⟨r, hr⟩ : ∃ r, fmtR N = r := ⟨_, rfl⟩
        obtain ⟨M9, hM9⟩ : ∃ q, fmtM N = q := ⟨_, rfl⟩
        obtain ⟨o9, ho9⟩ : ∃ q, fmtO N = q := ⟨_, rfl⟩
        rw [hM9, ho9] at hU
        rw [hM9] at hfS
        rw [hr]
        have HL := Lib.hid (like_any wp p _ M9 _ hU.X)
        have HU := Lib.hid hU; have Hbp := Lib.hid hbp; have HfS := Lib.hid hfS
        have Hp := Lib.hid hp; have Hwp := Lib.hid hwp
        clear HR7 hP8 hR8 hF8 hG8 hb8 hb8' hwp hU hbp hfS hr hM9 ho9 Hb7 HNS HNW
        go_wp2_with fail
        rw [← Hp.out, ← Hwp.out]
        clear hp
        refine HL.out.mono ?_
        rintro e w10 ⟨rfl, hb10⟩
        have HS := Lib.hid (psectors_any w10 p _ M9 _ (HU.out.kept hb10).X HfS.out)
        have HU10 := Lib.hid (HU.out.kept hb10); have Hb10 := Lib.hid (kept_trans Hbp.out hb10)
        clear HL hb10 HU Hbp Hwp Hp
        go_wp2_with fail
        refine HS.out.mono ?_
        rintro e w11 ⟨rfl, hb11⟩
        have HUP := Lib.hid (upP w11 p _ _ _ _ _ _ _ (HU10.out.kept hb11))
        have Hb11 := Lib.hid (kept_trans Hb10.out hb11)
        clear HS hb11 HU10 Hb10
        go_wp2_with fail
        refine HUP.out.mono ?_
        rintro e w12 ⟨rfl, hU12, hb12⟩
        have HUR := Lib.hid (upR w12 p _ _ _ _ _ _ _ hU12)
        have Hb12 := Lib.hid (Hb11.out.trans hb12)
        clear HUP hU12 hb12 Hb11
        go_wp2_with fail
        refine HUR.out.mono ?_
        rintro e w13 ⟨rfl, hU13, hb13⟩
        have hb13' := Hb12.out.trans hb13
        have HX := Lib.hid (popen_any w13 p _ _ _ hU13.X (hq' hb13'))
        have Hb13 := Lib.hid hb13'
        clear HUR hU13 hb13 hb13' Hb12
        go_wp2_with fail
        refine HX.out.mono ?_
        rintro e wq ⟨rfl, hXq, hbq⟩
        have hbq' : Below w.heap.size w wq := Hb13.out.trans hbq
        have HL := Lib.hid (like_any wq p w.heap.size _ _ hXq)
        have Hbq := Lib.hid hbq'
        clear HX hbq hXq hbq' Hb13
        go_wp2_with fail
        refine HL.out.mono ?_
        rintro e ws ⟨rfl, hbs⟩
        have hbs' := kept_trans Hbq.out hbs
        have HW := Lib.hid (works_any ws (hq' hbs'))
        clear hbs HL
        go_wp2_with fail
        refine HW.out.mono ?_
        rintro e wt ⟨rfl, hbt⟩
        go_wp2_with fail
        go_ret
        exact ⟨rfl, kept_trans hbs' hbt⟩
  · have hI : ¬ (len : Int) < 1 := by omega
    have hI2 : (len : Int) ≤ 40 := by omega
    go_enter Tryd.func11, Tryd.ntmps11
    have hnew := new_ok w len (by omega) (by omega)
    try rw [show ((len : Nat) : Int) = len from rfl] at hnew
    have Hnew := Lib.hid hnew
    clear hnew
    go_wp2_with fail
    refine Hnew.out.mono ?_
    rintro e w1 ⟨K, rfl, hd, hb1, hK⟩
    have hrnew := refNew_ok w1 len (by omega) (by omega)
    try rw [show ((len : Nat) : Int) = len from rfl] at hrnew
    have Hrnew := Lib.hid hrnew
    clear hrnew Hnew
    go_wp2_with fail
    refine Hrnew.out.mono ?_
    rintro e w2 ⟨KR, rfl, hr, hb2, hKR⟩
    have hT : TwoAt w w2 K.d KR.d len 0 := by
      have hz1 := hb1.size
      exact ⟨K, KR, MD.fresh len, rfl, rfl, hd.kept hb2, hr, by simp [MD.fresh], rfl, rfl, Nat.le_refl _, fun b hb => ⟨hK b hb, fun h => by have := hd.lt b hb; have := hKR b h; omega⟩, fun b hb => by have := hKR b hb; omega, kept_trans hb1 hb2⟩
    have HT := Lib.hid hT
    obtain ⟨kd, hkd⟩ : ∃ q, K.d = q := ⟨_, rfl⟩
    obtain ⟨ke, hke⟩ : ∃ q, KR.d = q := ⟨_, rfl⟩
    rw [hkd, hke] at HT
    rw [hkd, hke]
    clear hT hd hr hK hKR hb1 hb2 Hrnew hkd hke
    go_wp2_with fail
    go_loopw [12] (fun i wr => TwoRel w kd ke len i wr) (fun i _ => len - (intOf i).toNat)
    case atStart => exact ⟨0, by omega, rfl, HT.out⟩
    case round =>
      obtain ⟨k, hk, rfl, K, KR, M, rfl, rfl, hd, hr, hSn, hdn, hft, hwr, hKf, hKR, hbw⟩ := hrel
      by_cases hkN : k < len
      · have hkI : (k : Int) < (len : Int) := by omega
        by_cases hkl : k < len
        · have hklI : (k : Int) < (len : Int) := by omega
          have hkA : k < A.length := by rw [Hlen.out]; exact hkl
          obtain ⟨b, off, rfl, hblt, hcc⟩ := Hx.out.resolve_left (by intro e; rw [e] at hkA; simp at hkA)
          obtain ⟨x, c, hc0, hB, -⟩ := hcc k hkA
          generalize A[k] = s at *
          have hsz := hbw.size
          rw [← hbw.cell (p := ⟨b, off + k, none⟩) hblt] at hc0
          have HS1 := Lib.hid (sector35_any wr _ _ s (hB.keep (w' := wr) fun b hb _ => hbw.block b hb))
          have Hd := Lib.hid hd; have Hr := Lib.hid hr; have HB := Lib.hid hB; have HSn := Lib.hid hSn; have Hdn := Lib.hid hdn; have Hft := Lib.hid hft; have Hwr := Lib.hid hwr; have HKf := Lib.hid hKf; have HKR := Lib.hid hKR
          have H64 := Lib.hid (sec64_length s)
          have hrl := hr.lt
          have hdl := hd.lt
          clear hd hr hB hSn hdn hft hwr hKf hKR hcc HT
          go_wp2_with fail
          refine HS1.out.mono ?_
          rintro e w3 ⟨rfl, hq3, hb3⟩
          have hd3 := Hd.out.kept hb3
          have hw := write_ok w3 K M hd3 k (by rw [HSn.out]; exact hkN) Hdn.out (by have := Hwr.out; omega) (fun b => b = wr.heap.size) _ (sec64 s) (blk_bytes64 hq3 H64.out _ rfl) H64.out (fun b e h => by have := hdl b h; omega)
          rw [write_up M Hft.out] at hw
          have Hw := Lib.hid hw
          have Hr3 := Lib.hid (Hr.out.kept hb3)
          have hz3 := hb3.size
          clear hw hd3 hq3 HS1
          go_wp2_with fail
          refine Hw.out.mono ?_
          rintro e w4 ⟨rfl, ⟨K4, hK4, hK4f, hd4⟩, ho4, -⟩
          have hz4 : w3.heap.size ≤ w4.heap.size := ho4.size
          have hr4 := Hr3.out.only ho4 fun b hb h => (HKf.out b h).2 hb
          have hc4 : w4.cell? ⟨b, off + k, none⟩ = some (.slice x s.length c) := by
            have hlt := cell_lt hc0
            have e : w4.heap[b]? = wr.heap[b]? := by rw [ho4.block b (by show b < w3.heap.size; omega) (fun h => by have := (HKf.out b h).1; omega), hb3.block b hlt]
            unfold World.cell? at *
            rw [show (⟨b, off + k, none⟩ : Addr).block = b from rfl, e]
            exact hc0
          have hB4 : Bytes (fun b => b < w.heap.size) w4 (.slice x s.length c) s := HB.out.keep fun b hb _ => by rw [ho4.block b (by omega) (fun h => by have := (HKf.out b h).1; omega), hb3.block b (by omega), hbw.block b hb]
          have HS2 := Lib.hid (sector35_any w4 _ _ s hB4)
          have Hd4 := Lib.hid hd4; have Hr4 := Lib.hid hr4
          have hb34 : Below w.heap.size w w4 := (hbw.trans (hb3.mono hsz)).trans (ho4.below (fun b h => (HKf.out b h).1) (by omega))
          clear hd4 hr4 hB4 Hw Hr3 hc0 hb3 ho4
          go_wp2_with fail
          refine HS2.out.mono ?_
          rintro e w5 ⟨rfl, hq5, hb5⟩
          have hw := refWrite_ok w5 KR M (Hr4.out.kept hb5) k (by rw [HSn.out]; exact hkN) Hdn.out (by have := Hwr.out; omega) (fun b => b = w4.heap.size) _ (sec64 s) (blk_bytes64 hq5 H64.out _ rfl) H64.out (fun b e h => by have := hrl KR.d (.inl rfl); omega)
          rw [write_up M Hft.out] at hw
          have Hw := Lib.hid hw
          have Hd5 := Lib.hid (Hd4.out.kept hb5)
          have hz5 := hb5.size
          have hd4l := Hd4.out.lt
          have hb35 : Below w.heap.size w w5 := hb34.trans (hb5.mono (by have := hb34.size; omega))
          clear hw hq5 HS2 Hd4 Hr4 hb5
          go_wp2_with fail
          refine Hw.out.mono ?_
          rintro e w6 ⟨rfl, ⟨R6, hR6, hR6f, hr6⟩, ho6⟩
          have hd6 := Hd5.out.only ho6 fun b hb h => (HKf.out b (hK4f b hb)).2 (RefAt.foot_all h)
          have hb36 : Below w.heap.size w w6 := hb35.trans (ho6.below (fun b h => HKR.out b (RefAt.foot_all h)) (by have := hb35.size; omega))
          have Hd6 := Lib.hid hd6; have Hr6 := Lib.hid hr6
          have hk4s := hb34.size
          clear hd6 hr6 Hw Hd5 ho6
          go_wp2_with fail
          go_roundw
          case rel =>
            refine ⟨k + 1, by omega, by go_num, K4, R6, _, hK4, hR6, Hd6.out, Hr6.out, by simp [HSn.out], Hdn.out, Hft.out, by have := Hwr.out; show M.writes + 1 ≤ k + 1; omega, fun b hb => ⟨(HKf.out b (hK4f b hb)).1, fun h => ?_⟩, fun b hb => ?_, hb36⟩
            · rcases hR6f b h with h | h
              · exact (HKf.out b (hK4f b hb)).2 h
              · have := hd4l b hb; omega
            · rcases hR6f b hb with h | h
              · exact HKR.out b h
              · have := hb35.size; omega
          case measure => simp [intOf]; omega
        ·
          exact absurd hkl (by omega)
      · have hkI : ¬ (k : Int) < (len : Int) := by omega
        have HT2 : TwinU wr w.heap.size K.d KR.d M M := ⟨K, KR, rfl, rfl, hd, hr, hKf, hKR, h0⟩
        obtain ⟨dd, hdd⟩ : ∃ q, K.d = q := ⟨_, rfl⟩
        obtain ⟨ee, hee⟩ : ∃ q, KR.d = q := ⟨_, rfl⟩
        rw [hdd, hee] at HT2
        rw [hdd, hee]
        have hS1 : 0 < M.S.length := by rw [hSn]; omega
        have hee0 : w.heap.size ≤ ee := by rw [← hee]; exact hKR _ (.inl rfl)
        have HS1 := Lib.hid (sector35_any wr _ _ tn (HTn.out.keep (w' := wr) fun b hb _ => hbw.block b hb))
        have HT2 := Lib.hid HT2; have Hbw := Lib.hid hbw; have Hwr := Lib.hid hwr; have HS0 := Lib.hid hS1; have Hee := Lib.hid hee0
        clear hd hr hKf hKR hSn hdn hft hdd hee hS1 HT hbw hwr hee0
        go_wp2_with fail
        refine HS1.out.mono ?_
        rintro e w3 ⟨rfl, hq3, hb3⟩
        have H64 := Lib.hid (sec64_length tn)
        have HF := Lib.hid (tfailP w3 _ _ _ M M (HT2.out.kept hb3) (a1 % 60) (by omega) (by omega) (fun b => b = wr.heap.size) _ (sec64 tn) (blk_bytes64 hq3 H64.out _ rfl) H64.out)
        have Hb3 := Lib.hid (Hbw.out.trans (hb3.mono Hbw.out.size))
        clear hq3 hb3 HS1 HT2 Hbw
        go_wp2_with fail
        refine HF.out.mono ?_
        rintro e w4 ⟨rfl, hT4, hb4⟩
        have hb4' := Hb3.out.trans hb4
        have HS2 := Lib.hid (sector35_any w4 _ _ tn (HTn.out.keep (w' := w4) fun b hb _ => hb4'.block b hb))
        have HT4 := Lib.hid hT4; have Hb4 := Lib.hid hb4'
        clear HF hT4 hb4 hb4' Hb3
        go_wp2_with fail
        refine HS2.out.mono ?_
        rintro e w5 ⟨rfl, hq5, hb5⟩
        have HF := Lib.hid (tfailR w5 _ _ _ _ M (HT4.out.kept hb5) (a1 % 60) (by omega) (by omega) (fun b => b = w4.heap.size) _ (sec64 tn) (blk_bytes64 hq5 H64.out _ rfl) H64.out (fun b hb hx => by
          obtain ⟨K, KR, h1, h2, h3, h4, h5⟩ := HT4.out
          have h6 := h4.lt _ (.inl rfl)
          rw [h2] at h6
          omega))
        have Hb5 := Lib.hid (Hb4.out.trans (hb5.mono Hb4.out.size))
        clear hq5 hb5 HS2 HT4 Hb4
        go_wp2_with fail
        refine HF.out.mono ?_
        rintro e w6 ⟨rfl, hT6, hb6⟩
        have hb6' := Hb5.out.trans hb6
        have hS1 : 0 < M.S.length := HS0.out
        have hW6 : M.writes ≤ 60 := by have := Hwr.out; omega
        obtain ⟨N, hN⟩ : ∃ N : MD, N = { M with fault := some ((a1 % 60).toNat, sec64 tn) } := ⟨_, rfl⟩
        have hNS : 0 < N.S.length := by rw [hN]; exact hS1
        have hNW : N.writes ≤ 60 := by rw [hN]; exact hW6
        rw [← hN] at hT6
        have HT6 := Lib.hid (tformatP w6 _ _ _ N N hT6 (hq' hb6') (by omega))
        have Hb6 := Lib.hid hb6'; have HNS := Lib.hid hNS; have HNW := Lib.hid hNW
        clear HF hT6 hb6 hb6' Hb5 hN hNS hNW hS1 hW6 HS0 Hwr
        go_wp2_with fail
        refine HT6.out.mono ?_
        rintro e w7 ⟨x7, F7, rfl, hH7, hb7⟩
        have hb7' := Hb6.out.trans hb7
        have HR7 := Lib.hid (tformatR w7 _ _ _ _ _ _ _ N hH7 hb7'.size (by have := HNW.out; omega))
        have Hb7 := Lib.hid hb7'
        clear HT6 hH7 hb7 hb7' Hb6
        go_wp2_with fail
        refine HR7.out.mono ?_
        rintro e w8 ⟨x8, G8, rfl, hP8, hR8, hF8, hG8, hb8⟩
        have hb8' := Hb7.out.trans hb8
        obtain ⟨p, hp⟩ : ∃ p, p = w8.heap.size := ⟨_, rfl⟩
        obtain ⟨wp, hwp⟩ : ∃ wp, wp = w8.alloc (.cells #[.pointer (some ⟨dd, 0, none⟩), .pointer x7, .pointer (some ⟨ee, 0, none⟩), .pointer x8] 61) := ⟨_, rfl⟩
        have hU : PairU wp p w.heap.size dd ee (fmtM N) (fmtM N) (fmtO N) (fmtO N) := by rw [hwp, hp]; exact pair_new hP8 hR8 hF8 hG8 h0 hb8'.size
        have hbp : Below w.heap.size w wp := by rw [hwp]; exact Below.alloc hb8' hb8'.size _
        have hfS : 0 < (fmtM N).S.length := by rw [fmtM_len]; exact HNS.out
        obtain ⟨r, hr⟩ : ∃ r, fmtR N = r := ⟨_, rfl⟩
        obtain ⟨M9, hM9⟩ : ∃ q, fmtM N = q := ⟨_, rfl⟩
        obtain ⟨o9, ho9⟩ : ∃ q, fmtO N = q := ⟨_, rfl⟩
        rw [hM9, ho9] at hU
        rw [hM9] at hfS
        rw [hr]
        have HL := Lib.hid (like_any wp p _ M9 _ hU.X)
        have HU := Lib.hid hU; have Hbp := Lib.hid hbp; have HfS := Lib.hid hfS
        have Hp := Lib.hid hp; have Hwp := Lib.hid hwp
        clear HR7 hP8 hR8 hF8 hG8 hb8 hb8' hwp hU hbp hfS hr hM9 ho9 Hb7 HNS HNW
        go_wp2_with fail
        rw [← Hp.out, ← Hwp.out]
        clear hp
        refine HL.out.mono ?_
        rintro e w10 ⟨rfl, hb10⟩
        have HS := Lib.hid (psectors_any w10 p _ M9 _ (HU.out.kept hb10).X HfS.out)
        have HU10 := Lib.hid (HU.out.kept hb10); have Hb10 := Lib.hid (kept_trans Hbp.out hb10)
        clear HL hb10 HU Hbp Hwp Hp
        go_wp2_with fail
        refine HS.out.mono ?_
        rintro e w11 ⟨rfl, hb11⟩
        have HUP := Lib.hid (upP w11 p _ _ _ _ _ _ _ (HU10.out.kept hb11))
        have Hb11 := Lib.hid (kept_trans Hb10.out hb11)
        clear HS hb11 HU10 Hb10
        go_wp2_with fail
        refine HUP.out.mono ?_
        rintro e w12 ⟨rfl, hU12, hb12⟩
        have HUR := Lib.hid (upR w12 p _ _ _ _ _ _ _ hU12)
        have Hb12 := Lib.hid (Hb11.out.trans hb12)
        clear HUP hU12 hb12 Hb11
        go_wp2_with fail
        refine HUR.out.mono ?_
        rintro e w13 ⟨rfl, hU13, hb13⟩
        have hb13' := Hb12.out.trans hb13
        have HX := Lib.hid (popen_any w13 p _ _ _ hU13.X (hq' hb13'))
        have Hb13 := Lib.hid hb13'
        clear HUR hU13 hb13 hb13' Hb12
        go_wp2_with fail
        refine HX.out.mono ?_
        rintro e wq ⟨rfl, hXq, hbq⟩
        have hbq' : Below w.heap.size w wq := Hb13.out.trans hbq
        have HL := Lib.hid (like_any wq p w.heap.size _ _ hXq)
        have Hbq := Lib.hid hbq'
        clear HX hbq hXq hbq' Hb13
        go_wp2_with fail
        refine HL.out.mono ?_
        rintro e ws ⟨rfl, hbs⟩
        have hbs' := kept_trans Hbq.out hbs
        have HW := Lib.hid (works_any ws (hq' hbs'))
        clear hbs HL
        go_wp2_with fail
        refine HW.out.mono ?_
        rintro e wt ⟨rfl, hbt⟩
        go_wp2_with fail
        go_ret
        exact ⟨rfl, kept_trans hbs' hbt⟩
  · have hI : ¬ (len : Int) < 1 := by omega
    have hI2 : 40 < (len : Int) := by omega
    go_enter Tryd.func11, Tryd.ntmps11
    have hnew := new_ok w 40 (by omega) (by omega)
    try rw [show ((40 : Nat) : Int) = 40 from rfl] at hnew
    have Hnew := Lib.hid hnew
    clear hnew
    go_wp2_with fail
    refine Hnew.out.mono ?_
    rintro e w1 ⟨K, rfl, hd, hb1, hK⟩
    have hrnew := refNew_ok w1 40 (by omega) (by omega)
    try rw [show ((40 : Nat) : Int) = 40 from rfl] at hrnew
    have Hrnew := Lib.hid hrnew
    clear hrnew Hnew
    go_wp2_with fail
    refine Hrnew.out.mono ?_
    rintro e w2 ⟨KR, rfl, hr, hb2, hKR⟩
    have hT : TwoAt w w2 K.d KR.d 40 0 := by
      have hz1 := hb1.size
      exact ⟨K, KR, MD.fresh 40, rfl, rfl, hd.kept hb2, hr, by simp [MD.fresh], rfl, rfl, Nat.le_refl _, fun b hb => ⟨hK b hb, fun h => by have := hd.lt b hb; have := hKR b h; omega⟩, fun b hb => by have := hKR b hb; omega, kept_trans hb1 hb2⟩
    have HT := Lib.hid hT
    obtain ⟨kd, hkd⟩ : ∃ q, K.d = q := ⟨_, rfl⟩
    obtain ⟨ke, hke⟩ : ∃ q, KR.d = q := ⟨_, rfl⟩
    rw [hkd, hke] at HT
    rw [hkd, hke]
    clear hT hd hr hK hKR hb1 hb2 Hrnew hkd hke
    go_wp2_with fail
    go_loopw [12] (fun i wr => TwoRel w kd ke 40 i wr) (fun i _ => 40 - (intOf i).toNat)
    case atStart => exact ⟨0, by omega, rfl, HT.out⟩
    case round =>
      obtain ⟨k, hk, rfl, K, KR, M, rfl, rfl, hd, hr, hSn, hdn, hft, hwr, hKf, hKR, hbw⟩ := hrel
      by_cases hkN : k < 40
      · have hkI : (k : Int) < 40 := by omega
        by_cases hkl : k < len
        · have hklI : (k : Int) < (len : Int) := by omega
          have hkA : k < A.length := by rw [Hlen.out]; exact hkl
          obtain ⟨b, off, rfl, hblt, hcc⟩ := Hx.out.resolve_left (by intro e; rw [e] at hkA; simp at hkA)
          obtain ⟨x, c, hc0, hB, -⟩ := hcc k hkA
          generalize A[k] = s at *
          have hsz := hbw.size
          rw [← hbw.cell (p := ⟨b, off + k, none⟩) hblt] at hc0
          have HS1 := Lib.hid (sector35_any wr _ _ s (hB.keep (w' := wr) fun b hb _ => hbw.block b hb))
          have Hd := Lib.hid hd; have Hr := Lib.hid hr; have HB := Lib.hid hB; have HSn := Lib.hid hSn; have Hdn := Lib.hid hdn; have Hft := Lib.hid hft; have Hwr := Lib.hid hwr; have HKf := Lib.hid hKf; have HKR := Lib.hid hKR
          have H64 := Lib.hid (sec64_length s)
          have hrl := hr.lt
          have hdl := hd.lt
          clear hd hr hB hSn hdn hft hwr hKf hKR hcc HT
          go_wp2_with fail
          refine HS1.out.mono ?_
          rintro e w3 ⟨rfl, hq3, hb3⟩
          have hd3 := Hd.out.kept hb3
          have hw := write_ok w3 K M hd3 k (by rw [HSn.out]; exact hkN) Hdn.out (by have := Hwr.out; omega) (fun b => b = wr.heap.size) _ (sec64 s) (blk_bytes64 hq3 H64.out _ rfl) H64.out (fun b e h => by have := hdl b h; omega)
          rw [write_up M Hft.out] at hw
          have Hw := Lib.hid hw
          have Hr3 := Lib.hid (Hr.out.kept hb3)
          have hz3 := hb3.size
          clear hw hd3 hq3 HS1
          go_wp2_with fail
          refine Hw.out.mono ?_
          rintro e w4 ⟨rfl, ⟨K4, hK4, hK4f, hd4⟩, ho4, -⟩
          have hz4 : w3.heap.size ≤ w4.heap.size := ho4.size
          have hr4 := Hr3.out.only ho4 fun b hb h => (HKf.out b h).2 hb
          have hc4 : w4.cell? ⟨b, off + k, none⟩ = some (.slice x s.length c) := by
            have hlt := cell_lt hc0
            have e : w4.heap[b]? = wr.heap[b]? := by rw [ho4.block b (by show b < w3.heap.size; omega) (fun h => by have := (HKf.out b h).1; omega), hb3.block b hlt]
            unfold World.cell? at *
            rw [show (⟨b, off + k, none⟩ : Addr).block = b from rfl, e]
            exact hc0
          have hB4 : Bytes (fun b => b < w.heap.size) w4 (.slice x s.length c) s := HB.out.keep fun b hb _ => by rw [ho4.block b (by omega) (fun h => by have := (HKf.out b h).1; omega), hb3.block b (by omega), hbw.block b hb]
          have HS2 := Lib.hid (sector35_any w4 _ _ s hB4)
          have Hd4 := Lib.hid hd4; have Hr4 := Lib.hid hr4
          have hb34 : Below w.heap.size w w4 := (hbw.trans (hb3.mono hsz)).trans (ho4.below (fun b h => (HKf.out b h).1) (by omega))
          clear hd4 hr4 hB4 Hw Hr3 hc0 hb3 ho4
          go_wp2_with fail
          refine HS2.out.mono ?_
          rintro e w5 ⟨rfl, hq5, hb5⟩
          have hw := refWrite_ok w5 KR M (Hr4.out.kept hb5) k (by rw [HSn.out]; exact hkN) Hdn.out (by have := Hwr.out; omega) (fun b => b = w4.heap.size) _ (sec64 s) (blk_bytes64 hq5 H64.out _ rfl) H64.out (fun b e h => by have := hrl KR.d (.inl rfl); omega)
          rw [write_up M Hft.out] at hw
          have Hw := Lib.hid hw
          have Hd5 := Lib.hid (Hd4.out.kept hb5)
          have hz5 := hb5.size
          have hd4l := Hd4.out.lt
          have hb35 : Below w.heap.size w w5 := hb34.trans (hb5.mono (by have := hb34.size; omega))
          clear hw hq5 HS2 Hd4 Hr4 hb5
          go_wp2_with fail
          refine Hw.out.mono ?_
          rintro e w6 ⟨rfl, ⟨R6, hR6, hR6f, hr6⟩, ho6⟩
          have hd6 := Hd5.out.only ho6 fun b hb h => (HKf.out b (hK4f b hb)).2 (RefAt.foot_all h)
          have hb36 : Below w.heap.size w w6 := hb35.trans (ho6.below (fun b h => HKR.out b (RefAt.foot_all h)) (by have := hb35.size; omega))
          have Hd6 := Lib.hid hd6; have Hr6 := Lib.hid hr6
          have hk4s := hb34.size
          clear hd6 hr6 Hw Hd5 ho6
          go_wp2_with fail
          go_roundw
          case rel =>
            refine ⟨k + 1, by omega, by go_num, K4, R6, _, hK4, hR6, Hd6.out, Hr6.out, by simp [HSn.out], Hdn.out, Hft.out, by have := Hwr.out; show M.writes + 1 ≤ k + 1; omega, fun b hb => ⟨(HKf.out b (hK4f b hb)).1, fun h => ?_⟩, fun b hb => ?_, hb36⟩
            · rcases hR6f b h with h | h
              · exact (HKf.out b (hK4f b hb)).2 h
              · have := hd4l b hb; omega
            · rcases hR6f b hb with h | h
              · exact HKR.out b h
              · have := hb35.size; omega
          case measure => simp [intOf]; omega
        ·
          exact absurd hkl (by omega)
      · have hkI : ¬ (k : Int) < 40 := by omega
        have HT2 : TwinU wr w.heap.size K.d KR.d M M := ⟨K, KR, rfl, rfl, hd, hr, hKf, hKR, h0⟩
        obtain ⟨dd, hdd⟩ : ∃ q, K.d = q := ⟨_, rfl⟩
        obtain ⟨ee, hee⟩ : ∃ q, KR.d = q := ⟨_, rfl⟩
        rw [hdd, hee] at HT2
        rw [hdd, hee]
        have hS1 : 0 < M.S.length := by rw [hSn]; omega
        have hee0 : w.heap.size ≤ ee := by rw [← hee]; exact hKR _ (.inl rfl)
        have HS1 := Lib.hid (sector35_any wr _ _ tn (HTn.out.keep (w' := wr) fun b hb _ => hbw.block b hb))
        have HT2 := Lib.hid HT2; have Hbw := Lib.hid hbw; have Hwr := Lib.hid hwr; have HS0 := Lib.hid hS1; have Hee := Lib.hid hee0
        clear hd hr hKf hKR hSn hdn hft hdd hee hS1 HT hbw hwr hee0
        go_wp2_with fail
        refine HS1.out.mono ?_
        rintro e w3 ⟨rfl, hq3, hb3⟩
        have H64 := Lib.hid (sec64_length tn)
        have HF := Lib.hid (tfailP w3 _ _ _ M M (HT2.out.kept hb3) (a1 % 60) (by omega) (by omega) (fun b => b = wr.heap.size) _ (sec64 tn) (blk_bytes64 hq3 H64.out _ rfl) H64.out)
        have Hb3 := Lib.hid (Hbw.out.trans (hb3.mono Hbw.out.size))
        clear hq3 hb3 HS1 HT2 Hbw
        go_wp2_with fail
        refine HF.out.mono ?_
        rintro e w4 ⟨rfl, hT4, hb4⟩
        have hb4' := Hb3.out.trans hb4
        have HS2 := Lib.hid (sector35_any w4 _ _ tn (HTn.out.keep (w' := w4) fun b hb _ => hb4'.block b hb))
        have HT4 := Lib.hid hT4; have Hb4 := Lib.hid hb4'
        clear HF hT4 hb4 hb4' Hb3
        go_wp2_with fail
        refine HS2.out.mono ?_
        rintro e w5 ⟨rfl, hq5, hb5⟩
        have HF := Lib.hid (tfailR w5 _ _ _ _ M (HT4.out.kept hb5) (a1 % 60) (by omega) (by omega) (fun b => b = w4.heap.size) _ (sec64 tn) (blk_bytes64 hq5 H64.out _ rfl) H64.out (fun b hb hx => by
          obtain ⟨K, KR, h1, h2, h3, h4, h5⟩ := HT4.out
          have h6 := h4.lt _ (.inl rfl)
          rw [h2] at h6
          omega))
        have Hb5 := Lib.hid (Hb4.out.trans (hb5.mono Hb4.out.size))
        clear hq5 hb5 HS2 HT4 Hb4
        go_wp2_with fail
        refine HF.out.mono ?_
        rintro e w6 ⟨rfl, hT6, hb6⟩
        have hb6' := Hb5.out.trans hb6
        have hS1 : 0 < M.S.length := HS0.out
        have hW6 : M.writes ≤ 60 := by have := Hwr.out; omega
        obtain ⟨N, hN⟩ : ∃ N : MD, N = { M with fault := some ((a1 % 60).toNat, sec64 tn) } := ⟨_, rfl⟩
        have hNS : 0 < N.S.length := by rw [hN]; exact hS1
        have hNW : N.writes ≤ 60 := by rw [hN]; exact hW6
        rw [← hN] at hT6
        have HT6 := Lib.hid (tformatP w6 _ _ _ N N hT6 (hq' hb6') (by omega))
        have Hb6 := Lib.hid hb6'; have HNS := Lib.hid hNS; have HNW := Lib.hid hNW
        clear HF hT6 hb6 hb6' Hb5 hN hNS hNW hS1 hW6 HS0 Hwr
        go_wp2_with fail
        refine HT6.out.mono ?_
        rintro e w7 ⟨x7, F7, rfl, hH7, hb7⟩
        have hb7' := Hb6.out.trans hb7
        have HR7 := Lib.hid (tformatR w7 _ _ _ _ _ _ _ N hH7 hb7'.size (by have := HNW.out; omega))
        have Hb7 := Lib.hid hb7'
        clear HT6 hH7 hb7 hb7' Hb6
        go_wp2_with fail
        refine HR7.out.mono ?_
        rintro e w8 ⟨x8, G8, rfl, hP8, hR8, hF8, hG8, hb8⟩
        have hb8' := Hb7.out.trans hb8
        obtain ⟨p, hp⟩ : ∃ p, p = w8.heap.size := ⟨_, rfl⟩
        obtain ⟨wp, hwp⟩ : ∃ wp, wp = w8.alloc (.cells #[.pointer (some ⟨dd, 0, none⟩), .pointer x7, .pointer (some ⟨ee, 0, none⟩), .pointer x8] 61) := ⟨_, rfl⟩
        have hU : PairU wp p w.heap.size dd ee (fmtM N) (fmtM N) (fmtO N) (fmtO N) := by rw [hwp, hp]; exact pair_new hP8 hR8 hF8 hG8 h0 hb8'.size
        have hbp : Below w.heap.size w wp := by rw [hwp]; exact Below.alloc hb8' hb8'.size _
        have hfS : 0 < (fmtM N).S.length := by rw [fmtM_len]; exact HNS.out
        obtain ⟨r, hr⟩ : ∃ r, fmtR N = r := ⟨_, rfl⟩
        obtain ⟨M9, hM9⟩ : ∃ q, fmtM N = q := ⟨_, rfl⟩
        obtain ⟨o9, ho9⟩ : ∃ q, fmtO N = q := ⟨_, rfl⟩
        rw [hM9, ho9] at hU
        rw [hM9] at hfS
        rw [hr]
        have HL := Lib.hid (like_any wp p _ M9 _ hU.X)
        have HU := Lib.hid hU; have Hbp := Lib.hid hbp; have HfS := Lib.hid hfS
        have Hp := Lib.hid hp; have Hwp := Lib.hid hwp
        clear HR7 hP8 hR8 hF8 hG8 hb8 hb8' hwp hU hbp hfS hr hM9 ho9 Hb7 HNS HNW
        go_wp2_with fail
        rw [← Hp.out, ← Hwp.out]
        clear hp
        refine HL.out.mono ?_
        rintro e w10 ⟨rfl, hb10⟩
        have HS := Lib.hid (psectors_any w10 p _ M9 _ (HU.out.kept hb10).X HfS.out)
        have HU10 := Lib.hid (HU.out.kept hb10); have Hb10 := Lib.hid (kept_trans Hbp.out hb10)
        clear HL hb10 HU Hbp Hwp Hp
        go_wp2_with fail
        refine HS.out.mono ?_
        rintro e w11 ⟨rfl, hb11⟩
        have HUP := Lib.hid (upP w11 p _ _ _ _ _ _ _ (HU10.out.kept hb11))
        have Hb11 := Lib.hid (kept_trans Hb10.out hb11)
        clear HS hb11 HU10 Hb10
        go_wp2_with fail
        refine HUP.out.mono ?_
        rintro e w12 ⟨rfl, hU12, hb12⟩
        have HUR := Lib.hid (upR w12 p _ _ _ _ _ _ _ hU12)
        have Hb12 := Lib.hid (Hb11.out.trans hb12)
        clear HUP hU12 hb12 Hb11
        go_wp2_with fail
        refine HUR.out.mono ?_
        rintro e w13 ⟨rfl, hU13, hb13⟩
        have hb13' := Hb12.out.trans hb13
        have HX := Lib.hid (popen_any w13 p _ _ _ hU13.X (hq' hb13'))
        have Hb13 := Lib.hid hb13'
        clear HUR hU13 hb13 hb13' Hb12
        go_wp2_with fail
        refine HX.out.mono ?_
        rintro e wq ⟨rfl, hXq, hbq⟩
        have hbq' : Below w.heap.size w wq := Hb13.out.trans hbq
        have HL := Lib.hid (like_any wq p w.heap.size _ _ hXq)
        have Hbq := Lib.hid hbq'
        clear HX hbq hXq hbq' Hb13
        go_wp2_with fail
        refine HL.out.mono ?_
        rintro e ws ⟨rfl, hbs⟩
        have hbs' := kept_trans Hbq.out hbs
        have HW := Lib.hid (works_any ws (hq' hbs'))
        clear hbs HL
        go_wp2_with fail
        refine HW.out.mono ?_
        rintro e wt ⟨rfl, hbt⟩
        go_wp2_with fail
        go_ret
        exact ⟨rfl, kept_trans hbs' hbt⟩
end Go.Proofs.YtmimplmeccoahaaDoor
