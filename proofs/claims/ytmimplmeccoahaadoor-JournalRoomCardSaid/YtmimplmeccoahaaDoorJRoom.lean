/- The law JournalRoom. No condition. -/
import Derived.Test.YtmimplmeccoahaaDoorJA
namespace Go.Proofs.YtmimplmeccoahaaDoor
open Go.RowKit Go.ChangeShapes Go.WideShapes Go.ChangeAt
set_option linter.unusedVariables false
set_option maxRecDepth 20000
attribute [local go_sem ↓] seal_make_bytes

theorem room_law (n : Nat) (L : List (List UInt8)) (l : List UInt8) (hn : n ≤ 47) (ht : takenL L ≤ halfN n) (hl : l.length ≤ 3000) :
    (-1 ≤ roomV n L ∧ roomV n L ≤ 65536) ∧ (roomV n L < (l.length : Int) → ¬ takenL L + takes l.length ≤ halfN n) ∧
    (¬ roomV n L < (l.length : Int) → takenL L + takes l.length ≤ halfN n ∧ roomV n (L ++ [l]) ≤ roomV n L - 48 ∧ -1 ≤ roomV n (L ++ [l])) := by
  unfold roomV
  rw [takenL_snoc]
  have hh : halfN n ≤ 22 := by unfold halfN; omega
  have htk : takes l.length = max 1 ((l.length + 47) / 48) := rfl
  generalize takes l.length = k at *
  generalize l.length = m at *
  generalize takenL L = t at *
  generalize halfN n = h at *
  refine ⟨?_, ?_, ?_⟩
  · split <;> omega
  · split <;> omega
  · split
    · omega
    · intro h1
      have h2 : t + k ≤ h := by omega
      refine ⟨h2, ?_, ?_⟩
      · split <;> omega
      · split <;> omega

def UseRel (w0 : World) (lo lo0 j d n len : Nat) (i : Value) (wr : World) : Prop :=
  ∃ (k g c : Nat) (L : List (List UInt8)), k ≤ len ∧ i = .int .i64 (k : Int) ∧ UpW wr lo j d n g L c ∧ c ≤ 70000 * (k + 1) ∧ g ≤ k ∧ Below lo0 w0 wr

set_option maxRecDepth 100000 in
set_option maxHeartbeats 1500000 in
theorem JournalRoom_walk (a0 : Int) (v1 : Value) (a2 : Int) (w : World) (w0 : (Lit.int .u8 a0).wf = true) (w1 : IsActs w v1) (w2 : (Lit.int .u16 a2).wf = true) (hq : Quarter w) :
    Calls Tryd.prog 3 #[.int .u8 a0, v1, .int .u16 a2] w fun e w' => e = .returned (.bool true) ∧ Below w.heap.size w w' := by
  have g0 := bounds_u8 w0
  have g2 := bounds_u16 w2
  clear w0 w2
  have h0 : 0 < w.heap.size := by obtain ⟨t, fz, hh⟩ := hq; exact lt_of_block hh
  have hq' : ∀ {w' : World}, Below w.heap.size w w' → Quarter w' := fun hb => hq.keep (hb.block 0 h0)
  obtain ⟨A, hA⟩ := acts_of w1
  clear w1
  have hlight := light_any w w.heap.size v1 A hA (Nat.le_refl _)
  have HA0 := Lib.hid hA
  obtain ⟨va, vc, rfl, hA9, hx⟩ := hA
  obtain ⟨len, hlen⟩ : ∃ len, A.length = len := ⟨_, rfl⟩
  rw [hlen] at hA9 HA0 hlight ⊢
  have Hlen := Lib.hid hlen
  have Hx := Lib.hid hx
  have Hlight := Lib.hid hlight
  clear hx hlen hlight
  obtain ⟨N, hN⟩ : ∃ N : Nat, 8 + a0 % 40 = (N : Int) := Int.eq_ofNat_of_zero_le (by omega)
  obtain ⟨m, hm⟩ : ∃ m : Nat, a2 % 3000 = (m : Int) := Int.eq_ofNat_of_zero_le (by omega)
  have hN8 : 8 ≤ (N : Int) := by omega
  have hN47 : (N : Int) ≤ 47 := by omega
  have hm3 : (m : Int) ≤ 2999 := by omega
  have HN := Lib.hid hN; have Hm := Lib.hid hm
  clear hN hm
  go_enter Tryd.func3, Tryd.ntmps3
  go_wp2_with fail
  refine Hlight.out.mono ?_
  rintro e wl ⟨r, rfl, hr, hbl⟩
  cases r with
  | false =>
    have W := Lib.hid (works_any wl (hq' hbl))
    go_wp2_with fail
    refine W.out.mono ?_
    rintro e w' ⟨rfl, hb⟩
    go_wp2_with fail
    go_ret
    exact ⟨rfl, kept_trans hbl hb⟩
  | true =>
  obtain ⟨hlen60, hsh⟩ := hr rfl
  clear hr
  have hl60 : len ≤ 60 := by rw [← Hlen.out]; exact hlen60
  have Hsh := Lib.hid hsh
  clear hsh hlen60
  have F := Lib.hid (fresh_W wl N (by omega) (by omega) (hq' hbl))
  go_wp2_with fail
  rw [HN.out]
  refine F.out.mono ?_
  rintro e w1 ⟨j, d, rfl, hU1, hb1⟩
  have hb1 := kept_trans hbl hb1
  have hbls := hbl.size
  clear F
  go_wp2_with fail
  go_loopw [30] (fun i wr => UseRel w wl.heap.size w.heap.size j d N len i wr) (fun i _ => len - (intOf i).toNat)
  case atStart => exact ⟨0, 0, 70000, [], by omega, rfl, hU1, by omega, by omega, hb1⟩
  case round =>
    clear hU1 hb1
    obtain ⟨k, g, c, L, hk, rfl, hU, hc, hg, hbw⟩ := hrel
    by_cases hkl : k < len
    · have hklI : (k : Int) < (len : Int) := by omega
      have hkA : k < A.length := by rw [Hlen.out]; exact hkl
      obtain ⟨b, off, rfl, hblt, hcc⟩ := Hx.out.resolve_left (by intro e; rw [e] at hkA; simp at hkA)
      obtain ⟨hkd, -, -, x, cc, c0, c1, c2, c3, hB⟩ := hcc k hkA
      have hl3 := Hsh.out A[k] (List.getElem_mem hkA)
      rw [← hbw.cell (p := ⟨b, off + k * 4, none⟩) hblt] at c0
      rw [← hbw.cell (p := ⟨b, off + k * 4 + 1, none⟩) hblt] at c1
      rw [← hbw.cell (p := ⟨b, off + k * 4 + 2, none⟩) hblt] at c2
      rw [← hbw.cell (p := ⟨b, off + k * 4 + 3, none⟩) hblt] at c3
      have hsz := hbw.size
      generalize A[k] = ak at *
      obtain ⟨kind, an, am, l⟩ := ak
      dsimp only at *
      obtain ⟨wa, hwa⟩ : ∃ wa, wa = wr.alloc (.cells #[.int .u8 kind, .int .u16 an, .int .u16 am, .slice x l.length cc] 32) := ⟨_, rfl⟩
      have ka : Below wr.heap.size wr wa := by rw [hwa]; exact kept_alloc _ _
      have hbwa : Below w.heap.size w wa := hbw.trans (ka.mono hsz)
      have hBa : Bytes (fun b => b < w.heap.size) wa (.slice x l.length cc) l := hB.keep fun b hb _ => hbwa.block b hb
      have hszl : wl.heap.size ≤ wr.heap.size := Nat.le_of_lt hU.lo_lt
      have hFF : ∀ b, b < w.heap.size → (b < wl.heap.size ∨ wr.heap.size ≤ b) ∧ b < wa.heap.size := fun b hb => ⟨.inl (by omega), by have := ka.size; omega⟩
      rw [hwa] at hBa hFF
      have hqa : Quarter wa := hq' hbwa
      rw [hwa] at ka hqa
      have R1 := Lib.hid (replace_W wr _ wl.heap.size j d N g L c hU ka hqa _ _ l hBa hFF (by omega) (by omega) (by omega))
      have R2 := Lib.hid (append_W wr _ wl.heap.size j d N g L c hU ka hqa _ _ l hBa hFF (by omega) (by omega))
      rw [← hwa] at R1 R2
      have Hbwa := Lib.hid hbwa
      clear hbwa hBa hFF ka hqa hB hbw hU
      have hwa' := hwa
      by_cases h3 : kind % 4 = 3
      · have hd : (kind % 4 == 3) = true := by simp [h3]
        rw [hwa] at R1
        go_wp2_with fail
        refine R1.out.mono ?_
        rintro e w2 ⟨rfl, hU2, hb2⟩
        have hb2' : Below w.heap.size w w2 := Hbwa.out.trans (by rw [hwa]; exact hb2.mono hbls)
        have HU2 := Lib.hid hU2; have Hb2 := Lib.hid hb2'
        clear R1 R2 hU2 hb2 hb2' hwa hwa' Hbwa
        go_wp2_with fail
        go_roundw
        case rel => exact ⟨k + 1, _, _, _, by omega, by go_num, HU2.out, by omega, by split <;> omega, Hb2.out⟩
        case measure => simp [intOf]; omega
      · have hd : (kind % 4 == 3) = false := by simp [h3]
        rw [hwa] at R2
        go_wp2_with fail
        refine R2.out.mono ?_
        rintro e w2 ⟨rfl, hU2, hb2⟩
        have hb2' : Below w.heap.size w w2 := Hbwa.out.trans (by rw [hwa]; exact hb2.mono hbls)
        have HU2 := Lib.hid hU2; have Hb2 := Lib.hid hb2'
        clear R1 R2 hU2 hb2 hb2' hwa hwa' Hbwa
        go_wp2_with fail
        go_roundw
        case rel => exact ⟨k + 1, _, _, _, by omega, by go_num, HU2.out, by omega, by omega, Hb2.out⟩
        case measure => simp [intOf]; omega
    · have hklI : ¬ (k : Int) < (len : Int) := by omega
      clear hklI
      have hklI : ¬ (k : Int) < (len : Int) := by omega
      have hc2 : c ≤ 70000 * 61 := by have : k + 1 ≤ 61 := by omega
                                      omega
      have hszl : wl.heap.size ≤ wr.heap.size := Nat.le_of_lt hU.lo_lt
      have hlaw := room_law N L (List.replicate m 0) (by omega) hU.taken.1 (by simp; omega)
      obtain ⟨⟨hrm1, hrm2⟩, hlaw1, hlaw2⟩ := hlaw
      rw [List.length_replicate] at hlaw1 hlaw2
      have R := Lib.hid (room_W wr _ _ _ _ _ _ _ hU)
      have Hlaw1 := Lib.hid hlaw1; have Hlaw2 := Lib.hid hlaw2
      clear hlaw1 hlaw2 hU
      obtain ⟨rm, hrm⟩ : ∃ rm, roomV N L = rm := ⟨_, rfl⟩
      rw [hrm] at R hrm1 hrm2 Hlaw1 Hlaw2
      have Hrm := Lib.hid hrm
      clear hrm
      go_wp2_with fail
      refine R.out.mono ?_
      rintro e w2 ⟨rfl, hU2, hb2⟩
      have hs2 := hb2.size
      have hb2 : Below w.heap.size w w2 := hbw.trans (hb2.mono (by omega))
      obtain ⟨w3, hmk, hblk, hb3⟩ := run_make_bytes w2 m (by omega)
      have v3 : Bytes (fun b => b = w2.heap.size) w3 (.slice (some ⟨w2.heap.size, 0, none⟩) m m) (List.replicate m 0) := by
        have := bytes_of_blk (l := List.replicate m 0) (t := 5) (F := fun b => b = w2.heap.size) (by simpa using hblk) (by unfold maxLen; simp; omega) rfl
        simpa using this
      have hb3' := hb2.trans (hb3.mono (by omega))
      have R3 := Lib.hid (append_W w2 w3 _ _ _ _ _ _ _ hU2 hb3 (hq' hb3') _ _ _ v3 (fun b e => by rw [e]; exact ⟨.inr (Nat.le_refl _), hblk.lt⟩) (by omega) (by simp; omega))
      rw [List.length_replicate] at R3
      have hmm := Hm.out
      clear R v3 hblk
      by_cases hgt : rm < (m : Int)
      · have hgtI : rm < (m : Int) := hgt
        have hnf := Hlaw1.out hgt
        rw [if_neg hnf, if_neg hnf] at R3
        go_wp2_with fail
        refine R3.out.mono ?_
        rintro e w4 ⟨rfl, hU4, hb4⟩
        have hb4 : Below w.heap.size w w4 := hb3'.trans (hb4.mono hbls)
        have Rb := room_W w4 _ _ _ _ _ _ _ hU4
        rw [Hrm.out] at Rb
        have Rb := Lib.hid Rb
        clear R3
        go_wp2_with fail
        refine Rb.out.mono ?_
        rintro e w5 ⟨rfl, hU5, hb5⟩
        have hb5 := kept_trans hb4 hb5
        have W := Lib.hid (works_any w5 (hq' hb5))
        go_wp2_with fail
        refine W.out.mono ?_
        rintro e w6 ⟨rfl, hb6⟩
        go_wp2_with fail
        go_ret
        exact ⟨rfl, kept_trans hb5 hb6⟩
      · have hgtI : ¬ rm < (m : Int) := hgt
        obtain ⟨hf, hle, hge⟩ := Hlaw2.out (by omega)
        rw [if_pos hf, if_pos hf] at R3
        go_wp2_with fail
        refine R3.out.mono ?_
        rintro e w4 ⟨rfl, hU4, hb4⟩
        have hb4 : Below w.heap.size w w4 := hb3'.trans (hb4.mono hbls)
        have Rb := room_W w4 _ _ _ _ _ _ _ hU4
        generalize roomV N (L ++ [List.replicate m 0]) = rm2 at *
        have Rb := Lib.hid Rb
        clear R3
        go_wp2_with fail
        refine Rb.out.mono ?_
        rintro e w5 ⟨rfl, hU5, hb5⟩
        have hb5 := kept_trans hb4 hb5
        have W := Lib.hid (works_any w5 (hq' hb5))
        go_wp2_with fail
        refine W.out.mono ?_
        rintro e w6 ⟨rfl, hb6⟩
        go_wp2_with fail
        go_ret
        exact ⟨rfl, kept_trans hb5 hb6⟩
end Go.Proofs.YtmimplmeccoahaaDoor
