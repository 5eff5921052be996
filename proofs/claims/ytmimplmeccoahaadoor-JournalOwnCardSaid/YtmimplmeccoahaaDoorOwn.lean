/- The law JournalOwn. No condition. -/
import Derived.Test.YtmimplmeccoahaaDoorOwnB
namespace Go.Proofs.YtmimplmeccoahaaDoor
open Go.RowKit
set_option linter.unusedVariables false
set_option maxRecDepth 20000
attribute [local go_sem ↓] seal_append
attribute [local go_sem] opC upC

def cut100 (l : List UInt8) : List UInt8 := l.take (min l.length 100)
theorem cut100_length (l : List UInt8) : (cut100 l).length = min l.length 100 := by simp [cut100]
def wantL (A : List (List UInt8)) (k : Nat) : List (List UInt8) := (A.take k).map cut100
theorem wantL_succ (A : List (List UInt8)) (k : Nat) (h : k < A.length) : wantL A (k + 1) = wantL A k ++ [cut100 A[k]] := by
  unfold wantL
  rw [List.take_succ_eq_append_getElem h, List.map_append]
  rfl
theorem wantL_length (A : List (List UInt8)) (k : Nat) (h : k ≤ A.length) : (wantL A k).length = k := by simp [wantL]; omega
theorem wantL_short (A : List (List UInt8)) (k : Nat) : ∀ l ∈ wantL A k, l.length ≤ 100 := by
  intro l hl
  unfold wantL at hl
  rw [List.mem_map] at hl
  obtain ⟨a, -, rfl⟩ := hl
  rw [cut100_length]
  omega

theorem records_PJ (w : World) (jk : JK) (M : MD) (J : MJ) (hj : JAt w jk M J) :
    Calls Tryd.prog 18 #[.pointer (some ⟨jk.j, 0, none⟩)] w fun e w' => ∃ r R', e = .returned r ∧ RowsIn R' w' w.heap.size r J.L ∧ (∀ b, R' b → w.heap.size ≤ b ∧ ∃ C, Blk w' b C 5) ∧ Below w.heap.size w w' := by
  have hroom : takenL J.L ≤ halfN M.S.length := hj.room
  have hle : M.S.length ≤ 65536 := hj.disk.le
  have := length_le_taken J.L
  obtain ⟨ra, rc, R, hjb, hr, hown⟩ := hj.recs
  exact records_plain w jk.j jk.K.d J.g (takenL J.L) _ J.dead hjb R J.L hr (by unfold halfN at hroom; omega) hj.lens

def OwnRel (w0 : World) (j : Nat) (A : List (List UInt8)) (v i : Value) (wr : World) : Prop :=
  ∃ (k : Nat) (jk : JK) (S : List (List UInt8)) (kk : Nat) (R : Blks), k ≤ A.length ∧ k ≤ 100 ∧ i = .int .i64 (k : Int) ∧ jk.j = j ∧ JAt wr jk (upM S kk) ⟨0, wantL A k, false⟩ ∧ (∀ b, jk.all b → w0.heap.size ≤ b) ∧ S.length = 1000 ∧ kk ≤ 70000 * (k + 1) ∧
    RowsIn R wr w0.heap.size v (wantL A k) ∧ (∀ b, v.ownBlock = some b ∨ R b → ¬ jk.all b) ∧ Below w0.heap.size w0 wr



set_option maxRecDepth 100000 in
set_option maxHeartbeats 4000000 in
theorem JournalOwn_walk (v0 : Value) (w : World) (w0 : IsBss w v0) (hq : Quarter w) :
    Calls Tryd.prog 4 #[v0] w fun e w' => e = .returned (.bool true) ∧ Below w.heap.size w w' := by
  have h0 : 0 < w.heap.size := by obtain ⟨t, fz, hh⟩ := hq; exact lt_of_block hh
  have hq' : ∀ {w' : World}, Below w.heap.size w w' → Quarter w' := fun hb => hq.keep (hb.block 0 h0)
  obtain ⟨A, va, vc, rfl, hA9, hx⟩ := bss_of w0
  clear w0
  have Hx := Lib.hid hx
  clear hx
  obtain ⟨len, hlen⟩ : ∃ len, A.length = len := ⟨_, rfl⟩
  rw [hlen] at hA9 ⊢
  have Hlen := Lib.hid hlen
  clear hlen
  have hA9I : (len : Int) ≤ 9223372036854775807 := by omega
  have hfresh := fresh_any w 1000 (by omega) (by omega) hq
  rw [show ((1000 : Nat) : Int) = 1000 from rfl] at hfresh
  have Hf := Lib.hid hfresh
  clear hfresh
  go_enter Tryd.func4, Tryd.ntmps4
  go_wp2_with fail
  refine Hf.out.mono ?_
  rintro e w1 ⟨jk1, rfl, hU1, hb1⟩
  clear Hf
  obtain ⟨j, hj⟩ : ∃ j, jk1.j = j := ⟨_, rfl⟩
  rw [hj]
  have Hj := Lib.hid hj
  clear hj
  go_wp2_with fail
  go_loopw [5, 6] (fun v i wr => OwnRel w j A v i wr) (fun _ i _ => 100 - (intOf i).toNat)
  case atStart =>
    obtain ⟨h1, h2, S, k, h3, h4, h5⟩ := hU1
    exact ⟨0, jk1, S, k, none_, by omega, by omega, rfl, Hj.out, h5, h2, h3, by omega, RowsIn.nil _ _, fun b hb => by rcases hb with h | h; cases h; exact h.elim, hb1⟩
  case round =>
    rename World => wo
    clear hU1 hb1 Hj
    obtain ⟨k, jk, S, kk, R, hkA, hk100, rfl, rfl, hj, hall, hSn, hkk, hrow, hdis, hbw⟩ := hrel
    rw [Hlen.out] at hkA
    by_cases hkl : k < len
    · have hklI : (k : Int) < (len : Int) := by omega
      by_cases hk1 : k < 100
      · have hk1I : (k : Int) < 100 := by omega
        have hkA' : k < A.length := by rw [Hlen.out]; exact hkl
        obtain ⟨b, off, rfl, hblt, hcc⟩ := Hx.out.resolve_left (by intro e; rw [e] at hkA'; simp at hkA')
        obtain ⟨x, c, hc0, hB, hAk⟩ := hcc k hkA'
        rw [← hbw.cell (p := ⟨b, off + k, none⟩) hblt] at hc0
        have hwk := wantL_succ A k hkA'
        have hwl := wantL_length A k (by omega)
        have hws := wantL_short A k
        have hcl := cut100_length A[k]
        have hcut : cut100 A[k] = A[k].take (min A[k].length 100) := rfl
        generalize hl : A[k] = l at *
        have hsz := hbw.size
        -- b := append([]byte{}, l[i]...)
        obtain ⟨wa, hwa⟩ : ∃ wa, wa = wo.alloc (.cells #[] 5) := ⟨_, rfl⟩
        have ba : Below wo.heap.size wo wa := by rw [hwa]; exact kept_alloc _ _
        have za : wa.heap.size = wo.heap.size + 1 := by rw [hwa]; simp
        have na : Blk wa wo.heap.size [] 5 := by rw [hwa]; exact Blk.new _ _ _
        have hBa : Bytes (fun b => b < w.heap.size) wa (.slice x l.length c) l := hB.keep fun b hb _ => by rw [ba.block b (by omega), hbw.block b hb]
        obtain ⟨v7, wb, hap1, hown7, hg7⟩ := run_append_bytes wa wo.heap.size (.slice (some ⟨wo.heap.size, 0, none⟩) 0 0) []
          ⟨rfl, .inr ⟨wo.heap.size, 0, #[], rfl, Nat.le_refl _, na, Nat.le_refl _, by unfold maxLen; omega, rfl, rfl⟩⟩ _ _ l hBa (by simp; omega) (by omega)
        simp only [List.nil_append] at hown7
        have bb : Below wo.heap.size wo wb := ba.grown hg7 (by omega) (fun g h => by simp [Value.ownBlock] at h; omega)
        obtain ⟨a7, c7, rfl, hc7, hm7⟩ : ∃ a cap, v7 = .slice a l.length cap ∧ l.length ≤ cap ∧ cap ≤ maxLen := by
          obtain ⟨a, cap, h, h1, h2, -⟩ := owns_bytes hown7
          exact ⟨a, cap, h, h1, h2⟩
        have hmin : min (l.length : Int) 100 = ((min l.length 100 : Nat) : Int) := by omega
        obtain ⟨n, hn⟩ : ∃ n, min l.length 100 = n := ⟨_, rfl⟩
        have hnl : n ≤ l.length := by omega
        have hn100 : n ≤ 100 := by omega
        rw [hn] at hmin hcl hcut
        have hb7 : Bytes (fun b => wo.heap.size ≤ b ∧ b < wb.heap.size) wb (.slice a7 n c7) (l.take n) := (Bytes.of_owns hown7 _ (fun k h1 h2 => ⟨h1, h2⟩)).take n hnl
        have hp7 : Plain (fun b => wo.heap.size ≤ b ∧ b < wb.heap.size) wb (.slice a7 n c7) n := (Plain.of_owns hown7).less n hnl
        have zb := bb.size
        -- append([]byte{}, b...)
        obtain ⟨wc, hwc⟩ : ∃ wc, wc = wb.alloc (.cells #[] 5) := ⟨_, rfl⟩
        have bc : Below wb.heap.size wb wc := by rw [hwc]; exact kept_alloc _ _
        have zc : wc.heap.size = wb.heap.size + 1 := by rw [hwc]; simp
        have nc : Blk wc wb.heap.size [] 5 := by rw [hwc]; exact Blk.new _ _ _
        have htl : (l.take n).length = n := by simp; omega
        obtain ⟨v42, wd, hap2, hown42, hg42⟩ := run_append_bytes wc wb.heap.size (.slice (some ⟨wb.heap.size, 0, none⟩) 0 0) []
          ⟨rfl, .inr ⟨wb.heap.size, 0, #[], rfl, Nat.le_refl _, nc, Nat.le_refl _, by unfold maxLen; omega, rfl, rfl⟩⟩ _ _ (l.take n) (hb7.keep fun b hb hlt => bc.block b hlt) (by simp; omega) (by omega)
        simp only [List.nil_append] at hown42
        obtain ⟨a42, c42, rfl⟩ : ∃ a cap, v42 = .slice a n cap := by
          obtain ⟨a, cap, h, -⟩ := owns_bytes hown42
          rw [htl] at h
          exact ⟨a, cap, h⟩
        have bd : Below wb.heap.size wb wd := bc.grown hg42 (by omega) (fun g h => by simp [Value.ownBlock] at h; omega)
        have zd := bd.size
        have hbd : Below wo.heap.size wo wd := bb.trans (bd.mono zb)
        have hby := owns_bytes hown42
        have hrowd := hrow.kept hbd
        obtain ⟨aw, cw, hvw, hcw, hmw⟩ := hrowd.shape
        obtain ⟨a', c', we, hap3, hrows, hge⟩ := hrowd.append hby (fun b hb => hb.2.2) (by omega) (by omega)
        have hbe : Below w.heap.size w we := (Below.alloc (hbw.trans (hbd.mono hsz)) (by omega) _).grown hge (by simp; omega) (fun q hq => (hrowd.own hq).1)
        have hze := hge.size
        simp at hze
        have howne : ∀ b, (Value.slice a' ((wantL A k).length + 1) c').ownBlock = some b → u5.ownBlock = some b ∨ wd.heap.size ≤ b := hrowd.appended rfl (by omega) hap3
        -- what lies where: below wo.heap.size but for the row of want, nothing has changed
        have hvo : ∀ g, u5.ownBlock = some g → g < wo.heap.size := fun g hg => (hrow.own hg).2.1
        have hkeepE : ∀ b, b < wd.heap.size → (∀ g, u5.ownBlock = some g → b ≠ g) → we.heap[b]? = wd.heap[b]? := fun b hb hg => by
          rw [hge.block b (by simp; omega) (fun e => hg b e.symm rfl), Below.heap_alloc _ _ _ hb]
        have hje : JAt we jk (upM S kk) ⟨0, wantL A k, false⟩ := hj.keep (fun b hb => by
          have hlt := hj.lt b hb
          rw [hkeepE b (by omega) (fun g hg e => hdis g (.inl hg) (by rw [← e]; exact hb)), hbd.block b hlt]) (by omega)
        have hb7e : Bytes (fun b => wo.heap.size ≤ b ∧ b < wb.heap.size) we (.slice a7 n c7) (l.take n) := hb7.keep fun b hb hlt => by
          rw [hkeepE b (by omega) (fun g hg e => by have := hvo g hg; omega), bd.block b hlt]
        have hp7e : Plain (fun b => wo.heap.size ≤ b ∧ b < wb.heap.size) we (.slice a7 n c7) n := hp7.keep fun b hb hlt => by
          rw [hkeepE b (by omega) (fun g hg e => by have := hvo g hg; omega), bd.block b hlt]
        have hfit : takenL (wantL A k) + takes (l.take n).length ≤ halfN S.length := by
          have h1 := takenL_le (wantL A k) hws
          have h2 : takes n ≤ 3 := by unfold takes; omega
          rw [hwl] at h1
          rw [htl, hSn]
          show takenL (wantL A k) + takes n ≤ 499
          omega
        have hap := append_UJ we jk S kk 0 (wantL A k) hje (hq' hbe) _ _ (l.take n) hb7e (fun b hb => ⟨by omega, fun h => by have := hj.lt b h; omega⟩) (fun h => by have := hall 0 h; omega) (by omega) (by omega) hfit
        have hbwz := hbw.size
        have Hap := Lib.hid hap; have Hp7 := Lib.hid hp7e; have Hrows := Lib.hid hrows; have Hze := Lib.hid hze; have Hown := Lib.hid howne; have Hbe := Lib.hid hbe; have Hzb := Lib.hid zb; have Hzd := Lib.hid zd; have Hza := Lib.hid za
        have Hhall := Lib.hid hall; have Hjlt : Hid (∀ b, jk.all b → b < wo.heap.size) := Lib.hid hj.lt; have Hdis := Lib.hid hdis; have Hwk := Lib.hid hwk; have Hcut := Lib.hid hcut; have Hn := Lib.hid hn; have Hkk := Lib.hid hkk; have HSn := Lib.hid hSn; have Hwl := Lib.hid hwl; have Hl := Lib.hid hl; have Hvo := Lib.hid hvo
        have HrowR : Hid (∀ b, R b → b < wo.heap.size) := Lib.hid fun b hb => by
          obtain ⟨vals, -, -, hR⟩ := hrow
          obtain ⟨L0, fz, h⟩ := hR b hb
          exact lt_of_block h
        have hcapI : (n : Int) ≤ (c7 : Int) := by omega
        have hnI : (n : Int) ≤ 100 := by omega
        have hlI : (l.length : Int) ≤ 140737488351232 := by omega
        have HwaE := Lib.hid hwa; have HwcE := Lib.hid hwc
        rw [← ba.cell (p := ⟨b, off + k, none⟩) (show b < wo.heap.size by omega), hwa] at hc0
        rw [hwa] at hap1
        rw [hwc] at hap2
        clear hap hp7e hrows hze howne hbe zb zd za hall hj hdis hwk hcut hn hkk hSn hwl hl hvo hje hb7e hp7 hb7 hown7 hg7 bb ba na hBa hcc hB hown42 hg42 bd bc nc zc hbd hby hrowd hcw hmw hge hkeepE hfit htl hnl hn100 hws hcl hrow hbw hAk hc7 hm7 hwa hwc
        subst hvw
        have hn3 : (n = l.length ∧ (l.length : Int) < 100) ∨ (n = l.length ∧ (l.length : Int) ≤ 100 ∧ 100 ≤ (l.length : Int)) ∨ (n = 100 ∧ 100 < (l.length : Int)) := by have := Hn.out; omega
        clear hmin
        rcases hn3 with ⟨rfl, hm1⟩ | ⟨rfl, hm1, hm2⟩ | ⟨rfl, hm1⟩
        ·
          go_wp2_with fail
          refine Hap.out.mono ?_
          rintro e wf ⟨rfl, jk', S', k', hje, hSn', hk', hj', hall', ho'⟩
          have hp0 : Plain (fun b => wo.heap.size ≤ b ∧ b < wb.heap.size) wf (.slice a7 l.length c7) l.length := Hp7.out.keep fun b hb hlt => ho'.block b hlt fun h => by have := Hjlt.out b h; omega
          have Hp0 := Lib.hid hp0; have Hhj' := Lib.hid hj'; have Hall' := Lib.hid hall'; have Hk' := Lib.hid hk'; have HSn' := Lib.hid hSn'; have Hje := Lib.hid hje
          clear hp0 hj' hall' hk' hSn' hje Hap
          go_wp2_with fail
          go_loopw [51] (fun i wr => ∃ m : Nat, m ≤ l.length ∧ i = .int .i64 (m : Int) ∧ Plain (fun b => wo.heap.size ≤ b ∧ b < wb.heap.size) wr (.slice a7 l.length c7) l.length ∧ Only (fun b => wo.heap.size ≤ b ∧ b < wb.heap.size) wf wr) (fun i _ => l.length - (intOf i).toNat)
          case atStart => exact ⟨0, by omega, rfl, Hp0.out, Only.refl _ _⟩
          case round =>
            obtain ⟨m, hm, rfl, hpm, hom⟩ := hrel
            by_cases hmn : m < l.length
            · have hmnI : (m : Int) < ((l.length : Nat) : Int) := by omega
              obtain ⟨bb, ob, rfl, hN, hbl, cc, hcell, hfz⟩ := hpm.at m hmn
              have hset := hpm.set bb (ob + m) (UInt8.ofNat (cc.toNat + 1))
              have hon := hom.setCell (p := ⟨bb, ob + m, none⟩) (.inl hN) (B (UInt8.ofNat (cc.toNat + 1)))
              rw [u8_next] at hset hon
              have Hset := Lib.hid hset; have Hon := Lib.hid hon
              clear hset hon hpm hom hN
              go_wp2_with fail
              go_roundw
              case rel => exact ⟨m + 1, by omega, by go_num, Hset.out, Hon.out⟩
              case measure => simp [intOf]; omega
            · have hmnI : ¬ (m : Int) < ((l.length : Nat) : Int) := by omega
              clear hpm Hp0
              go_wp2_with fail
              have hjall : ∀ b, jk'.all b → (jk.all b ∧ b < wo.heap.size) ∨ we.heap.size ≤ b := fun b hb => (Hall'.out b hb).imp (fun h => ⟨h, Hjlt.out b h⟩) id
              have zb := Hzb.out; have zd := Hzd.out; have ze := Hze.out; have zf := ho'.size; have zr := hom.size; have hwz := hbwz
              have hown3 : ∀ b, (Value.slice a' ((wantL A k).length + 1) c').ownBlock = some b → ((Value.slice aw (wantL A k).length cw).ownBlock = some b ∧ b < wo.heap.size) ∨ wd.heap.size ≤ b := fun b hb => (Hown.out b hb).imp (fun h => ⟨h, Hvo.out b h⟩) id
              have hownlt : ∀ b, (Value.slice a' ((wantL A k).length + 1) c').ownBlock = some b → b < we.heap.size := fun b hb => (Hrows.out.own hb).2.1
              have hrowf := Hrows.out.only ho' (fun b hb h => by
                have hlt := Hjlt.out b h
                rcases hb with hb | hb | hb
                · rcases hown3 b hb with h1 | h1
                  · exact Hdis.out b (.inl h1.1) h
                  · omega
                · exact Hdis.out b (.inr hb) h
                · have := hb.1; omega)
              have hrowr := hrowf.only hom (fun b hb h => by
                rcases hb with hb | hb | hb
                · rcases hown3 b hb with h1 | h1
                  · have := h1.2; omega
                  · omega
                · have := HrowR.out b hb; omega
                · have := hb.1; omega)
              have hjr := Hhj'.out.only hom (fun b hb h => by
                rcases hjall b hb with h1 | h1
                · have := h1.2; omega
                · omega)
              have hbr : Below w.heap.size w wr := (Hbe.out.trans (ho'.below Hhall.out (by omega))).trans (hom.below (fun b hb => by omega) (by omega))
              have hwk2 : wantL A (k + 1) = wantL A k ++ [l.take l.length] := by rw [Hwk.out, Hcut.out]
              refine ⟨⟨k + 1, jk', S', k', _, by rw [Hlen.out]; omega, by omega, by go_num, Hje.out, by rw [hwk2]; exact hjr, fun b hb => ?_, HSn'.out.trans HSn.out, by have := Hk'.out; have := Hkk.out; omega, by rw [hwk2]; exact hrowr, fun b hb h => ?_, hbr⟩, by simp [intOf]; omega⟩
              · rcases hjall b hb with h1 | h1
                · exact Hhall.out b h1.1
                · omega
              · rcases hjall b h with h1 | h1
                · rcases hb with hb | hb | hb
                  · rcases hown3 b hb with h2 | h2
                    · exact Hdis.out b (.inl h2.1) h1.1
                    · have := h1.2; omega
                  · exact Hdis.out b (.inr hb) h1.1
                  · have := hb.1; have := h1.2; omega
                · rcases hb with hb | hb | hb
                  · have := hownlt b hb; omega
                  · have := HrowR.out b hb; omega
                  · have := hb.2.1; omega
        ·
          go_wp2_with fail
          refine Hap.out.mono ?_
          rintro e wf ⟨rfl, jk', S', k', hje, hSn', hk', hj', hall', ho'⟩
          have hp0 : Plain (fun b => wo.heap.size ≤ b ∧ b < wb.heap.size) wf (.slice a7 l.length c7) l.length := Hp7.out.keep fun b hb hlt => ho'.block b hlt fun h => by have := Hjlt.out b h; omega
          have Hp0 := Lib.hid hp0; have Hhj' := Lib.hid hj'; have Hall' := Lib.hid hall'; have Hk' := Lib.hid hk'; have HSn' := Lib.hid hSn'; have Hje := Lib.hid hje
          clear hp0 hj' hall' hk' hSn' hje Hap
          go_wp2_with fail
          go_loopw [51] (fun i wr => ∃ m : Nat, m ≤ l.length ∧ i = .int .i64 (m : Int) ∧ Plain (fun b => wo.heap.size ≤ b ∧ b < wb.heap.size) wr (.slice a7 l.length c7) l.length ∧ Only (fun b => wo.heap.size ≤ b ∧ b < wb.heap.size) wf wr) (fun i _ => l.length - (intOf i).toNat)
          case atStart => exact ⟨0, by omega, rfl, Hp0.out, Only.refl _ _⟩
          case round =>
            obtain ⟨m, hm, rfl, hpm, hom⟩ := hrel
            by_cases hmn : m < l.length
            · have hmnI : (m : Int) < ((l.length : Nat) : Int) := by omega
              obtain ⟨bb, ob, rfl, hN, hbl, cc, hcell, hfz⟩ := hpm.at m hmn
              have hset := hpm.set bb (ob + m) (UInt8.ofNat (cc.toNat + 1))
              have hon := hom.setCell (p := ⟨bb, ob + m, none⟩) (.inl hN) (B (UInt8.ofNat (cc.toNat + 1)))
              rw [u8_next] at hset hon
              have Hset := Lib.hid hset; have Hon := Lib.hid hon
              clear hset hon hpm hom hN
              go_wp2_with fail
              go_roundw
              case rel => exact ⟨m + 1, by omega, by go_num, Hset.out, Hon.out⟩
              case measure => simp [intOf]; omega
            · have hmnI : ¬ (m : Int) < ((l.length : Nat) : Int) := by omega
              clear hpm Hp0
              go_wp2_with fail
              have hjall : ∀ b, jk'.all b → (jk.all b ∧ b < wo.heap.size) ∨ we.heap.size ≤ b := fun b hb => (Hall'.out b hb).imp (fun h => ⟨h, Hjlt.out b h⟩) id
              have zb := Hzb.out; have zd := Hzd.out; have ze := Hze.out; have zf := ho'.size; have zr := hom.size; have hwz := hbwz
              have hown3 : ∀ b, (Value.slice a' ((wantL A k).length + 1) c').ownBlock = some b → ((Value.slice aw (wantL A k).length cw).ownBlock = some b ∧ b < wo.heap.size) ∨ wd.heap.size ≤ b := fun b hb => (Hown.out b hb).imp (fun h => ⟨h, Hvo.out b h⟩) id
              have hownlt : ∀ b, (Value.slice a' ((wantL A k).length + 1) c').ownBlock = some b → b < we.heap.size := fun b hb => (Hrows.out.own hb).2.1
              have hrowf := Hrows.out.only ho' (fun b hb h => by
                have hlt := Hjlt.out b h
                rcases hb with hb | hb | hb
                · rcases hown3 b hb with h1 | h1
                  · exact Hdis.out b (.inl h1.1) h
                  · omega
                · exact Hdis.out b (.inr hb) h
                · have := hb.1; omega)
              have hrowr := hrowf.only hom (fun b hb h => by
                rcases hb with hb | hb | hb
                · rcases hown3 b hb with h1 | h1
                  · have := h1.2; omega
                  · omega
                · have := HrowR.out b hb; omega
                · have := hb.1; omega)
              have hjr := Hhj'.out.only hom (fun b hb h => by
                rcases hjall b hb with h1 | h1
                · have := h1.2; omega
                · omega)
              have hbr : Below w.heap.size w wr := (Hbe.out.trans (ho'.below Hhall.out (by omega))).trans (hom.below (fun b hb => by omega) (by omega))
              have hwk2 : wantL A (k + 1) = wantL A k ++ [l.take l.length] := by rw [Hwk.out, Hcut.out]
              refine ⟨⟨k + 1, jk', S', k', _, by rw [Hlen.out]; omega, by omega, by go_num, Hje.out, by rw [hwk2]; exact hjr, fun b hb => ?_, HSn'.out.trans HSn.out, by have := Hk'.out; have := Hkk.out; omega, by rw [hwk2]; exact hrowr, fun b hb h => ?_, hbr⟩, by simp [intOf]; omega⟩
              · rcases hjall b hb with h1 | h1
                · exact Hhall.out b h1.1
                · omega
              · rcases hjall b h with h1 | h1
                · rcases hb with hb | hb | hb
                  · rcases hown3 b hb with h2 | h2
                    · exact Hdis.out b (.inl h2.1) h1.1
                    · have := h1.2; omega
                  · exact Hdis.out b (.inr hb) h1.1
                  · have := hb.1; have := h1.2; omega
                · rcases hb with hb | hb | hb
                  · have := hownlt b hb; omega
                  · have := HrowR.out b hb; omega
                  · have := hb.2.1; omega
        ·
          go_wp2_with fail
          refine Hap.out.mono ?_
          rintro e wf ⟨rfl, jk', S', k', hje, hSn', hk', hj', hall', ho'⟩
          have hp0 : Plain (fun b => wo.heap.size ≤ b ∧ b < wb.heap.size) wf (.slice a7 100 c7) 100 := Hp7.out.keep fun b hb hlt => ho'.block b hlt fun h => by have := Hjlt.out b h; omega
          have Hp0 := Lib.hid hp0; have Hhj' := Lib.hid hj'; have Hall' := Lib.hid hall'; have Hk' := Lib.hid hk'; have HSn' := Lib.hid hSn'; have Hje := Lib.hid hje
          clear hp0 hj' hall' hk' hSn' hje Hap
          go_wp2_with fail
          go_loopw [51] (fun i wr => ∃ m : Nat, m ≤ 100 ∧ i = .int .i64 (m : Int) ∧ Plain (fun b => wo.heap.size ≤ b ∧ b < wb.heap.size) wr (.slice a7 100 c7) 100 ∧ Only (fun b => wo.heap.size ≤ b ∧ b < wb.heap.size) wf wr) (fun i _ => 100 - (intOf i).toNat)
          case atStart => exact ⟨0, by omega, rfl, Hp0.out, Only.refl _ _⟩
          case round =>
            obtain ⟨m, hm, rfl, hpm, hom⟩ := hrel
            by_cases hmn : m < 100
            · have hmnI : (m : Int) < ((100 : Nat) : Int) := by omega
              obtain ⟨bb, ob, rfl, hN, hbl, cc, hcell, hfz⟩ := hpm.at m hmn
              have hset := hpm.set bb (ob + m) (UInt8.ofNat (cc.toNat + 1))
              have hon := hom.setCell (p := ⟨bb, ob + m, none⟩) (.inl hN) (B (UInt8.ofNat (cc.toNat + 1)))
              rw [u8_next] at hset hon
              have Hset := Lib.hid hset; have Hon := Lib.hid hon
              clear hset hon hpm hom hN
              go_wp2_with fail
              go_roundw
              case rel => exact ⟨m + 1, by omega, by go_num, Hset.out, Hon.out⟩
              case measure => simp [intOf]; omega
            · have hmnI : ¬ (m : Int) < ((100 : Nat) : Int) := by omega
              clear hpm Hp0
              go_wp2_with fail
              have hjall : ∀ b, jk'.all b → (jk.all b ∧ b < wo.heap.size) ∨ we.heap.size ≤ b := fun b hb => (Hall'.out b hb).imp (fun h => ⟨h, Hjlt.out b h⟩) id
              have zb := Hzb.out; have zd := Hzd.out; have ze := Hze.out; have zf := ho'.size; have zr := hom.size; have hwz := hbwz
              have hown3 : ∀ b, (Value.slice a' ((wantL A k).length + 1) c').ownBlock = some b → ((Value.slice aw (wantL A k).length cw).ownBlock = some b ∧ b < wo.heap.size) ∨ wd.heap.size ≤ b := fun b hb => (Hown.out b hb).imp (fun h => ⟨h, Hvo.out b h⟩) id
              have hownlt : ∀ b, (Value.slice a' ((wantL A k).length + 1) c').ownBlock = some b → b < we.heap.size := fun b hb => (Hrows.out.own hb).2.1
              have hrowf := Hrows.out.only ho' (fun b hb h => by
                have hlt := Hjlt.out b h
                rcases hb with hb | hb | hb
                · rcases hown3 b hb with h1 | h1
                  · exact Hdis.out b (.inl h1.1) h
                  · omega
                · exact Hdis.out b (.inr hb) h
                · have := hb.1; omega)
              have hrowr := hrowf.only hom (fun b hb h => by
                rcases hb with hb | hb | hb
                · rcases hown3 b hb with h1 | h1
                  · have := h1.2; omega
                  · omega
                · have := HrowR.out b hb; omega
                · have := hb.1; omega)
              have hjr := Hhj'.out.only hom (fun b hb h => by
                rcases hjall b hb with h1 | h1
                · have := h1.2; omega
                · omega)
              have hbr : Below w.heap.size w wr := (Hbe.out.trans (ho'.below Hhall.out (by omega))).trans (hom.below (fun b hb => by omega) (by omega))
              have hwk2 : wantL A (k + 1) = wantL A k ++ [l.take 100] := by rw [Hwk.out, Hcut.out]
              refine ⟨⟨k + 1, jk', S', k', _, by rw [Hlen.out]; omega, by omega, by go_num, Hje.out, by rw [hwk2]; exact hjr, fun b hb => ?_, HSn'.out.trans HSn.out, by have := Hk'.out; have := Hkk.out; omega, by rw [hwk2]; exact hrowr, fun b hb h => ?_, hbr⟩, by simp [intOf]; omega⟩
              · rcases hjall b hb with h1 | h1
                · exact Hhall.out b h1.1
                · omega
              · rcases hjall b h with h1 | h1
                · rcases hb with hb | hb | hb
                  · rcases hown3 b hb with h2 | h2
                    · exact Hdis.out b (.inl h2.1) h1.1
                    · have := h1.2; omega
                  · exact Hdis.out b (.inr hb) h1.1
                  · have := hb.1; have := h1.2; omega
                · rcases hb with hb | hb | hb
                  · have := hownlt b hb; omega
                  · have := HrowR.out b hb; omega
                  · have := hb.2.1; omega
      ·
        have hk1I : ¬ (k : Int) < 100 := by omega
        have hwl : (wantL A k).length = k := wantL_length A k (by rw [Hlen.out]; exact hkA)
        have hws := wantL_short A k
        generalize wantL A k = W at *
        have hbwz := hbw.size
        have HRec := Lib.hid (records_PJ wo jk _ _ hj)
        obtain ⟨aw, cw, rfl, hcw, hmw⟩ := id hrow.shape
        have hjlt : ∀ b, jk.all b → b < wo.heap.size := hj.lt
        have hrlt : ∀ b, (Value.slice aw W.length cw).ownBlock = some b ∨ R b → b < wo.heap.size := fun b hb => hb.elim (fun h => (hrow.own h).2.1) (fun h => by
          obtain ⟨vals, -, -, hR⟩ := hrow
          obtain ⟨L0, fz, h⟩ := hR b h
          exact lt_of_block h)
        have Hj := Lib.hid hj; have Hrow := Lib.hid hrow; have Hjlt := Lib.hid hjlt; have Hrlt := Lib.hid hrlt; have Hwl := Lib.hid hwl; have Hws := Lib.hid hws
        clear hj hrow hjlt hrlt hwl hws hall hdis hSn hkk hcw hmw
        go_wp2_with fail
        refine HRec.out.mono ?_
        rintro e wg ⟨r, R2, rfl, hr2, hR2, hbg⟩
        have hr2 : RowsIn R2 wg wo.heap.size r W := hr2
        have hgot := hr2.got hR2
        obtain ⟨ag, cg, rfl, -, -⟩ := id hr2.shape
        have heq := equal_any wg _ _ _ _ _ _ hr2.at (Hrow.out.kept hbg).at (by have := Hwl.out; omega) (by have := Hwl.out; omega)
        rw [show decide (W = W) = true from by simp] at heq
        have Heq := Lib.hid heq; have Hgot := Lib.hid hgot
        clear heq hgot hr2 hR2 HRec
        go_wp2_with fail
        refine Heq.out.mono ?_
        rintro e wh ⟨rfl, mh, hwh⟩
        have hgh : GotRow wo.heap.size wh (.slice ag W.length cg) (W.map List.length) := by rw [← hwh]; exact Hgot.out
        have hbh : Below wo.heap.size wo wh := by rw [← hwh]; exact Below.drewN' hbg mh
        obtain ⟨nW, hnW⟩ : ∃ nW, W.length = nW := ⟨_, rfl⟩
        rw [hnW] at hgh ⊢
        have HnW := Lib.hid hnW
        have hnk : nW ≤ 100 := by have := Hwl.out; omega
        have Hgh := Lib.hid hgh
        clear hgh hwh Heq Hgot hnW hbg
        go_wp2_with fail
        go_loopw [69] (fun i wr => ∃ p : Nat, p ≤ nW ∧ i = .int .i64 (p : Int) ∧ GotRow wo.heap.size wr (.slice ag nW cg) (W.map List.length) ∧ Only (fun b => wo.heap.size ≤ b) wh wr) (fun i _ => nW - (intOf i).toNat)
        case atStart => exact ⟨0, by omega, rfl, Hgh.out, Only.refl _ _⟩
        case round =>
          rename World => wp
          obtain ⟨p, hp, rfl, hgp, hop⟩ := hrel
          by_cases hpn : p < nW
          · have hpnI : (p : Int) < (nW : Int) := by omega
            obtain ⟨ag', cg', hv, hx⟩ := id hgp
            have hml : (W.map List.length).length = nW := by simp [HnW.out]
            have hpl : p < (W.map List.length).length := by omega
            obtain ⟨g, he, hZg, hgl, hel⟩ := hx.resolve_left (fun e => by rw [e] at hpl; simp at hpl)
            rw [hml] at hv
            simp at hv
            obtain ⟨rfl, rfl⟩ := hv
            subst he
            obtain ⟨x, hcx, hpx⟩ := hel p hpl
            have hnx100 : (W.map List.length)[p] ≤ 100 := by rw [List.getElem_map]; exact Hws.out _ (List.getElem_mem _)
            generalize (W.map List.length)[p] = nx at *
            obtain ⟨ax, cx, rfl, -⟩ := id hpx
            have hnxI : (nx : Int) ≤ 100 := by omega
            have Hgp := Lib.hid hgp; have Hpx := Lib.hid hpx; have Hop := Lib.hid hop; have Hcx := Lib.hid hcx
            clear hgp hpx hop hx hel hml
            go_wp2_with fail
            go_loopw [77] (fun i wr => ∃ m : Nat, m ≤ nx ∧ i = .int .i64 (m : Int) ∧ GotRow wo.heap.size wr (.slice (some ⟨g, 0, none⟩) nW cg) (W.map List.length) ∧ wr.cell? ⟨g, p, none⟩ = some (.slice ax nx cx) ∧ Plain (fun b => wo.heap.size ≤ b ∧ b ≠ g) wr (.slice ax nx cx) nx ∧ Only (fun b => wo.heap.size ≤ b) wh wr) (fun i _ => nx - (intOf i).toNat)
            case atStart => exact ⟨0, by omega, rfl, Hgp.out, Hcx.out, Hpx.out, Hop.out⟩
            case round =>
              clear hcx
              obtain ⟨m, hm, rfl, hgm, hcx, hpm, hom⟩ := hrel
              by_cases hmn : m < nx
              · have hmnI : (m : Int) < (nx : Int) := by omega
                obtain ⟨bb, ob, rfl, hN, hbl, cc, hcell, hfz⟩ := hpm.at m hmn
                have hset := hpm.set bb (ob + m) (UInt8.ofNat (cc.toNat + 1))
                have hgset := hgm.set bb (ob + m) (UInt8.ofNat (cc.toNat + 1)) (fun a cap e g' e' => by
                  simp at e
                  rw [← e.1] at e'
                  simp at e'
                  rw [← e']
                  exact hN.2)
                have hon := hom.setCell (p := ⟨bb, ob + m, none⟩) (.inl hN.1) (B (UInt8.ofNat (cc.toNat + 1)))
                have hcx2 : (wr.setCell ⟨bb, ob + m, none⟩ (B (UInt8.ofNat (cc.toNat + 1)))).cell? ⟨g, p, none⟩ = some (.slice (some ⟨bb, ob, none⟩) nx cx) := by
                  have : (wr.setCell ⟨bb, ob + m, none⟩ (B (UInt8.ofNat (cc.toNat + 1)))).heap[g]? = wr.heap[g]? := Below.heap_setCell _ _ _ _ (fun e => hN.2 e.symm)
                  unfold World.cell? at *
                  rw [show (⟨g, p, none⟩ : Addr).block = g from rfl, this]
                  exact hcx
                rw [u8_next] at hset hon hgset hcx2
                have Hset := Lib.hid hset; have Hon := Lib.hid hon; have Hgset := Lib.hid hgset; have Hcx2 := Lib.hid hcx2
                clear hset hon hpm hom hN hgset hgm hcx2
                go_wp2_with fail
                go_roundw
                case rel => exact ⟨m + 1, by omega, by go_num, Hgset.out, Hcx2.out, Hset.out, Hon.out⟩
                case measure => simp [intOf]; omega
              · have hmnI : ¬ (m : Int) < (nx : Int) := by omega
                have Hgm := Lib.hid hgm; have Hom := Lib.hid hom
                clear hgm hpm hom hcx
                go_wp2_with fail
                exact ⟨⟨p + 1, by omega, by go_num, Hgm.out, Hom.out⟩, by simp [intOf]; omega⟩
          · have hpnI : ¬ (p : Int) < (nW : Int) := by omega
            have hbp : Below wo.heap.size wo wp := hbh.trans (hop.below (fun b hb => hb) hbh.size)
            have hjp := Hj.out.kept hbp
            have hrowp := Hrow.out.kept hbp
            have HRec := Lib.hid (records_J wp jk _ _ hjp)
            have hbp' : Below w.heap.size w wp := hbw.trans (hbp.mono hbwz)
            have Hrowp := Lib.hid hrowp
            clear hgp hop hjp hrowp Hgh
            go_wp2_with fail
            refine HRec.out.mono ?_
            rintro e wq ⟨r3, R3, rfl, hr3, -, hbq⟩
            have hr3 : RowsIn R3 wq wp.heap.size r3 W := hr3
            have heq := equal_any wq _ _ _ _ _ _ hr3.at (Hrowp.out.kept hbq).at (by have := Hwl.out; omega) (by have := Hwl.out; omega)
            rw [show decide (W = W) = true from by simp] at heq
            have Heq := Lib.hid heq
            have hbq' := kept_trans hbp' hbq
            rw [← HnW.out]
            clear heq hr3 HRec Hrowp
            go_wp2_with fail
            refine Heq.out.mono ?_
            rintro e ws ⟨rfl, ms, hws⟩
            have hbs : Below w.heap.size w ws := by rw [← hws]; exact Below.drewN' hbq' ms
            have HW := Lib.hid (works_any ws (hq' hbs))
            clear hws Heq
            go_wp2_with fail
            refine HW.out.mono ?_
            rintro e wt ⟨rfl, hbt⟩
            go_wp2_with fail
            go_ret
            exact ⟨rfl, kept_trans hbs hbt⟩
    ·
      have hklI : ¬ (k : Int) < (len : Int) := by omega
      have hwl : (wantL A k).length = k := wantL_length A k (by rw [Hlen.out]; exact hkA)
      have hws := wantL_short A k
      generalize wantL A k = W at *
      have hbwz := hbw.size
      have HRec := Lib.hid (records_PJ wo jk _ _ hj)
      obtain ⟨aw, cw, rfl, hcw, hmw⟩ := id hrow.shape
      have hjlt : ∀ b, jk.all b → b < wo.heap.size := hj.lt
      have hrlt : ∀ b, (Value.slice aw W.length cw).ownBlock = some b ∨ R b → b < wo.heap.size := fun b hb => hb.elim (fun h => (hrow.own h).2.1) (fun h => by
        obtain ⟨vals, -, -, hR⟩ := hrow
        obtain ⟨L0, fz, h⟩ := hR b h
        exact lt_of_block h)
      have Hj := Lib.hid hj; have Hrow := Lib.hid hrow; have Hjlt := Lib.hid hjlt; have Hrlt := Lib.hid hrlt; have Hwl := Lib.hid hwl; have Hws := Lib.hid hws
      clear hj hrow hjlt hrlt hwl hws hall hdis hSn hkk hcw hmw
      go_wp2_with fail
      refine HRec.out.mono ?_
      rintro e wg ⟨r, R2, rfl, hr2, hR2, hbg⟩
      have hr2 : RowsIn R2 wg wo.heap.size r W := hr2
      have hgot := hr2.got hR2
      obtain ⟨ag, cg, rfl, -, -⟩ := id hr2.shape
      have heq := equal_any wg _ _ _ _ _ _ hr2.at (Hrow.out.kept hbg).at (by have := Hwl.out; omega) (by have := Hwl.out; omega)
      rw [show decide (W = W) = true from by simp] at heq
      have Heq := Lib.hid heq; have Hgot := Lib.hid hgot
      clear heq hgot hr2 hR2 HRec
      go_wp2_with fail
      refine Heq.out.mono ?_
      rintro e wh ⟨rfl, mh, hwh⟩
      have hgh : GotRow wo.heap.size wh (.slice ag W.length cg) (W.map List.length) := by rw [← hwh]; exact Hgot.out
      have hbh : Below wo.heap.size wo wh := by rw [← hwh]; exact Below.drewN' hbg mh
      obtain ⟨nW, hnW⟩ : ∃ nW, W.length = nW := ⟨_, rfl⟩
      rw [hnW] at hgh ⊢
      have HnW := Lib.hid hnW
      have hnk : nW ≤ 100 := by have := Hwl.out; omega
      have Hgh := Lib.hid hgh
      clear hgh hwh Heq Hgot hnW hbg
      go_wp2_with fail
      go_loopw [69] (fun i wr => ∃ p : Nat, p ≤ nW ∧ i = .int .i64 (p : Int) ∧ GotRow wo.heap.size wr (.slice ag nW cg) (W.map List.length) ∧ Only (fun b => wo.heap.size ≤ b) wh wr) (fun i _ => nW - (intOf i).toNat)
      case atStart => exact ⟨0, by omega, rfl, Hgh.out, Only.refl _ _⟩
      case round =>
        rename World => wp
        obtain ⟨p, hp, rfl, hgp, hop⟩ := hrel
        by_cases hpn : p < nW
        · have hpnI : (p : Int) < (nW : Int) := by omega
          obtain ⟨ag', cg', hv, hx⟩ := id hgp
          have hml : (W.map List.length).length = nW := by simp [HnW.out]
          have hpl : p < (W.map List.length).length := by omega
          obtain ⟨g, he, hZg, hgl, hel⟩ := hx.resolve_left (fun e => by rw [e] at hpl; simp at hpl)
          rw [hml] at hv
          simp at hv
          obtain ⟨rfl, rfl⟩ := hv
          subst he
          obtain ⟨x, hcx, hpx⟩ := hel p hpl
          have hnx100 : (W.map List.length)[p] ≤ 100 := by rw [List.getElem_map]; exact Hws.out _ (List.getElem_mem _)
          generalize (W.map List.length)[p] = nx at *
          obtain ⟨ax, cx, rfl, -⟩ := id hpx
          have hnxI : (nx : Int) ≤ 100 := by omega
          have Hgp := Lib.hid hgp; have Hpx := Lib.hid hpx; have Hop := Lib.hid hop; have Hcx := Lib.hid hcx
          clear hgp hpx hop hx hel hml
          go_wp2_with fail
          go_loopw [77] (fun i wr => ∃ m : Nat, m ≤ nx ∧ i = .int .i64 (m : Int) ∧ GotRow wo.heap.size wr (.slice (some ⟨g, 0, none⟩) nW cg) (W.map List.length) ∧ wr.cell? ⟨g, p, none⟩ = some (.slice ax nx cx) ∧ Plain (fun b => wo.heap.size ≤ b ∧ b ≠ g) wr (.slice ax nx cx) nx ∧ Only (fun b => wo.heap.size ≤ b) wh wr) (fun i _ => nx - (intOf i).toNat)
          case atStart => exact ⟨0, by omega, rfl, Hgp.out, Hcx.out, Hpx.out, Hop.out⟩
          case round =>
            clear hcx
            obtain ⟨m, hm, rfl, hgm, hcx, hpm, hom⟩ := hrel
            by_cases hmn : m < nx
            · have hmnI : (m : Int) < (nx : Int) := by omega
              obtain ⟨bb, ob, rfl, hN, hbl, cc, hcell, hfz⟩ := hpm.at m hmn
              have hset := hpm.set bb (ob + m) (UInt8.ofNat (cc.toNat + 1))
              have hgset := hgm.set bb (ob + m) (UInt8.ofNat (cc.toNat + 1)) (fun a cap e g' e' => by
                simp at e
                rw [← e.1] at e'
                simp at e'
                rw [← e']
                exact hN.2)
              have hon := hom.setCell (p := ⟨bb, ob + m, none⟩) (.inl hN.1) (B (UInt8.ofNat (cc.toNat + 1)))
              have hcx2 : (wr.setCell ⟨bb, ob + m, none⟩ (B (UInt8.ofNat (cc.toNat + 1)))).cell? ⟨g, p, none⟩ = some (.slice (some ⟨bb, ob, none⟩) nx cx) := by
                have : (wr.setCell ⟨bb, ob + m, none⟩ (B (UInt8.ofNat (cc.toNat + 1)))).heap[g]? = wr.heap[g]? := Below.heap_setCell _ _ _ _ (fun e => hN.2 e.symm)
                unfold World.cell? at *
                rw [show (⟨g, p, none⟩ : Addr).block = g from rfl, this]
                exact hcx
              rw [u8_next] at hset hon hgset hcx2
              have Hset := Lib.hid hset; have Hon := Lib.hid hon; have Hgset := Lib.hid hgset; have Hcx2 := Lib.hid hcx2
              clear hset hon hpm hom hN hgset hgm hcx2
              go_wp2_with fail
              go_roundw
              case rel => exact ⟨m + 1, by omega, by go_num, Hgset.out, Hcx2.out, Hset.out, Hon.out⟩
              case measure => simp [intOf]; omega
            · have hmnI : ¬ (m : Int) < (nx : Int) := by omega
              have Hgm := Lib.hid hgm; have Hom := Lib.hid hom
              clear hgm hpm hom hcx
              go_wp2_with fail
              exact ⟨⟨p + 1, by omega, by go_num, Hgm.out, Hom.out⟩, by simp [intOf]; omega⟩
        · have hpnI : ¬ (p : Int) < (nW : Int) := by omega
          have hbp : Below wo.heap.size wo wp := hbh.trans (hop.below (fun b hb => hb) hbh.size)
          have hjp := Hj.out.kept hbp
          have hrowp := Hrow.out.kept hbp
          have HRec := Lib.hid (records_J wp jk _ _ hjp)
          have hbp' : Below w.heap.size w wp := hbw.trans (hbp.mono hbwz)
          have Hrowp := Lib.hid hrowp
          clear hgp hop hjp hrowp Hgh
          go_wp2_with fail
          refine HRec.out.mono ?_
          rintro e wq ⟨r3, R3, rfl, hr3, -, hbq⟩
          have hr3 : RowsIn R3 wq wp.heap.size r3 W := hr3
          have heq := equal_any wq _ _ _ _ _ _ hr3.at (Hrowp.out.kept hbq).at (by have := Hwl.out; omega) (by have := Hwl.out; omega)
          rw [show decide (W = W) = true from by simp] at heq
          have Heq := Lib.hid heq
          have hbq' := kept_trans hbp' hbq
          rw [← HnW.out]
          clear heq hr3 HRec Hrowp
          go_wp2_with fail
          refine Heq.out.mono ?_
          rintro e ws ⟨rfl, ms, hws⟩
          have hbs : Below w.heap.size w ws := by rw [← hws]; exact Below.drewN' hbq' ms
          have HW := Lib.hid (works_any ws (hq' hbs))
          clear hws Heq
          go_wp2_with fail
          refine HW.out.mono ?_
          rintro e wt ⟨rfl, hbt⟩
          go_wp2_with fail
          go_ret
          exact ⟨rfl, kept_trans hbs hbt⟩
end Go.Proofs.YtmimplmeccoahaaDoor
