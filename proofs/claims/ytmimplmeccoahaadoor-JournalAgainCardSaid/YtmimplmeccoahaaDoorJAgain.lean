/- The law JournalAgain. No condition. -/
import Derived.Test.YtmimplmeccoahaaDoorJV
namespace Go.Proofs.YtmimplmeccoahaaDoor
open Go.RowKit Go.ChangeShapes Go.WideShapes Go.ChangeAt
set_option linter.unusedVariables false
set_option maxRecDepth 20000

def UseRelV (w0 : World) (lo lo0 j d n len : Nat) (i : Value) (wr : World) : Prop :=
  ∃ (k g c : Nat) (L : List (List UInt8)), k ≤ len ∧ i = .int .i64 (k : Int) ∧ UpV wr lo j d n g L c ∧ c ≤ 70000 * (k + 1) ∧ g ≤ k ∧ Below lo0 w0 wr

set_option maxRecDepth 100000 in
set_option maxHeartbeats 1500000 in
theorem JournalAgain_walk (a0 : Int) (v1 : Value) (w : World) (w0 : (Lit.int .u8 a0).wf = true) (w1 : IsActs w v1) (hq : Quarter w) :
    Calls Tryd.prog 6 #[.int .u8 a0, v1] w fun e w' => e = .returned (.bool true) ∧ Below w.heap.size w w' := by
  have g0 := bounds_u8 w0
  clear w0
  have h0 : 0 < w.heap.size := by obtain ⟨t, fz, hh⟩ := hq; exact lt_of_block hh
  have hq' : ∀ {w' : World}, Below w.heap.size w w' → Quarter w' := fun hb => hq.keep (hb.block 0 h0)
  obtain ⟨A, hA⟩ := acts_of w1
  clear w1
  have hlight := light_any w w.heap.size v1 A hA (Nat.le_refl _)
  have HA0 := Lib.hid hA
  obtain ⟨va, vc, rfl, hA9, hx⟩ := hA
  obtain ⟨len, hlen⟩ : ∃ len, A.length = len := ⟨_, rfl⟩
  rw [hlen] at hA9 HA0 hlight ⊢
  have Hlen := Lib.hid hlen
  have Hx := Lib.hid hx
  have Hlight := Lib.hid hlight
  clear hx hlen hlight
  obtain ⟨N, hN⟩ : ∃ N : Nat, 8 + a0 % 40 = (N : Int) := Int.eq_ofNat_of_zero_le (by omega)
  have hN8 : 8 ≤ (N : Int) := by omega
  have hN47 : (N : Int) ≤ 47 := by omega
  have HN := Lib.hid hN
  clear hN
  go_enter Tryd.func6, Tryd.ntmps6
  go_wp2_with fail
  refine Hlight.out.mono ?_
  rintro e wl ⟨r, rfl, hr, hbl⟩
  cases r with
  | false =>
    have W := Lib.hid (works_any wl (hq' hbl))
    go_wp2_with fail
    refine W.out.mono ?_
    rintro e w' ⟨rfl, hb⟩
    go_wp2_with fail
    go_ret
    exact ⟨rfl, kept_trans hbl hb⟩
  | true =>
  obtain ⟨hlen60, hsh⟩ := hr rfl
  clear hr
  have hl60 : len ≤ 60 := by rw [← Hlen.out]; exact hlen60
  have Hsh := Lib.hid hsh
  clear hsh hlen60
  have F := Lib.hid (fresh_V wl N (by omega) (by omega) (hq' hbl))
  go_wp2_with fail
  rw [HN.out]
  refine F.out.mono ?_
  rintro e w1 ⟨j, d, rfl, hU1, hb1⟩
  have hb1 := kept_trans hbl hb1
  have hbls := hbl.size
  clear F
  go_wp2_with fail
  go_loopw [32] (fun i wr => UseRelV w wl.heap.size w.heap.size j d N len i wr) (fun i _ => len - (intOf i).toNat)
  case atStart => exact ⟨0, 0, 70000, [], by omega, rfl, hU1, by omega, by omega, hb1⟩
  case round =>
    clear hU1 hb1
    obtain ⟨k, g, c, L, hk, rfl, hU, hc, hg, hbw⟩ := hrel
    by_cases hkl : k < len
    · have hklI : (k : Int) < (len : Int) := by omega
      have hkA : k < A.length := by rw [Hlen.out]; exact hkl
      obtain ⟨b, off, rfl, hblt, hcc⟩ := Hx.out.resolve_left (by intro e; rw [e] at hkA; simp at hkA)
      obtain ⟨hkd, -, -, x, cc, c0, c1, c2, c3, hB⟩ := hcc k hkA
      have hl3 := Hsh.out A[k] (List.getElem_mem hkA)
      rw [← hbw.cell (p := ⟨b, off + k * 4, none⟩) hblt] at c0
      rw [← hbw.cell (p := ⟨b, off + k * 4 + 1, none⟩) hblt] at c1
      rw [← hbw.cell (p := ⟨b, off + k * 4 + 2, none⟩) hblt] at c2
      rw [← hbw.cell (p := ⟨b, off + k * 4 + 3, none⟩) hblt] at c3
      have hsz := hbw.size
      generalize A[k] = ak at *
      obtain ⟨kind, an, am, l⟩ := ak
      dsimp only at *
      obtain ⟨wa, hwa⟩ : ∃ wa, wa = wr.alloc (.cells #[.int .u8 kind, .int .u16 an, .int .u16 am, .slice x l.length cc] 32) := ⟨_, rfl⟩
      have ka : Below wr.heap.size wr wa := by rw [hwa]; exact kept_alloc _ _
      have hbwa : Below w.heap.size w wa := hbw.trans (ka.mono hsz)
      have hBa : Bytes (fun b => b < w.heap.size) wa (.slice x l.length cc) l := hB.keep fun b hb _ => hbwa.block b hb
      have hszl : wl.heap.size ≤ wr.heap.size := Nat.le_of_lt hU.lo_lt
      have hFF : ∀ b, b < w.heap.size → (b < wl.heap.size ∨ wr.heap.size ≤ b) ∧ b < wa.heap.size := fun b hb => ⟨.inl (by omega), by have := ka.size; omega⟩
      rw [hwa] at hBa hFF
      have hqa : Quarter wa := hq' hbwa
      rw [hwa] at ka hqa
      have R1 := Lib.hid (replace_V wr _ wl.heap.size j d N g L c hU ka hqa _ _ l hBa hFF (by omega) (by omega) (by omega))
      have R2 := Lib.hid (append_V wr _ wl.heap.size j d N g L c hU ka hqa _ _ l hBa hFF (by omega) (by omega))
      rw [← hwa] at R1 R2
      have Hbwa := Lib.hid hbwa
      clear hbwa hBa hFF ka hqa hB hbw hU
      have hwa' := hwa
      by_cases h3 : kind % 4 = 3
      · have hd : (kind % 4 == 3) = true := by simp [h3]
        rw [hwa] at R1
        go_wp2_with fail
        refine R1.out.mono ?_
        rintro e w2 ⟨⟨r, rfl⟩, ⟨g', L', hg', hU2⟩, hb2⟩
        have hb2' : Below w.heap.size w w2 := Hbwa.out.trans (by rw [hwa]; exact hb2.mono hbls)
        have HU2 := Lib.hid hU2; have Hb2 := Lib.hid hb2'
        clear R1 R2 hU2 hb2 hb2' hwa hwa' Hbwa
        go_wp2_with fail
        go_roundw
        case rel => exact ⟨k + 1, _, _, _, by omega, by go_num, HU2.out, by omega, by omega, Hb2.out⟩
        case measure => simp [intOf]; omega
      · have hd : (kind % 4 == 3) = false := by simp [h3]
        rw [hwa] at R2
        go_wp2_with fail
        refine R2.out.mono ?_
        rintro e w2 ⟨⟨r, rfl⟩, ⟨L', hU2⟩, hb2⟩
        have hb2' : Below w.heap.size w w2 := Hbwa.out.trans (by rw [hwa]; exact hb2.mono hbls)
        have HU2 := Lib.hid hU2; have Hb2 := Lib.hid hb2'
        clear R1 R2 hU2 hb2 hb2' hwa hwa' Hbwa
        go_wp2_with fail
        go_roundw
        case rel => exact ⟨k + 1, _, _, _, by omega, by go_num, HU2.out, by omega, by omega, Hb2.out⟩
        case measure => simp [intOf]; omega
    · have hklI : ¬ (k : Int) < (len : Int) := by omega
      have hlo := hU.lo_lt
      obtain ⟨jk, S, kk, rfl, rfl, hz, hall, hSn, hkc, hj, hI⟩ := hU
      have hwr := writes_any wr jk.K (upM S kk) hj.disk
      have hop := open_any wr jk.K (upM S kk) hj.disk (hq' hbw)
      rw [Inv.opened (M := upM S kk) hI rfl] at hop
      have hU1 : UpJ wr wl.heap.size jk N g L kk := ⟨hz, hall, S, kk, hSn, Nat.le_refl _, hj⟩
      have Hwr := Lib.hid hwr; have Hop := Lib.hid hop; have HU1 := Lib.hid hU1; have Hj := Lib.hid hj; have Hall := Lib.hid hall
      have hlenL : L.length ≤ 65536 := by
        have h1 : takenL L ≤ halfN S.length := hj.room
        have h2 := length_le_taken L
        unfold halfN at h1
        omega
      clear hwr hop hU1 hj hI hall
      obtain ⟨x, hx⟩ : ∃ x : Int, x = ((upM S kk).writes : Int) := ⟨_, rfl⟩
      have Hwr2 := Hwr.out
      rw [← hx] at Hwr2
      have Hwr3 := Lib.hid Hwr2
      have Hxx := Lib.hid hx
      clear Hwr2 hx
      go_wp2_with fail
      refine Hwr3.out.mono ?_
      rintro e w' ⟨rfl, rfl⟩
      go_wp2_with fail
      refine Hop.out.mono ?_
      rintro e w2 ⟨⟨jk2, rfl, hK2, hj2, hall2⟩, hb2⟩
      have hbw2 : Below w.heap.size w w2 := hbw.trans (hb2.mono hbw.size)
      have hA2 := HU1.out.kept hb2
      have hB2 : UpJ w2 wl.heap.size jk2 N g L kk := ⟨hz, fun b hb => by
        rcases hall2 b hb with h | h
        · exact Hall.out b (.inr (.inl h))
        · omega, S, kk, hSn, Nat.le_refl _, hj2⟩
      clear hj2 hall2
      go_wp2_with fail
      refine (records_up w2 _ _ _ _ _ _ hA2).mono ?_
      rintro e w3 ⟨r3, R3, rfl, hr3, -, hb3⟩
      go_wp2_with fail
      refine (records_up w3 _ _ _ _ _ _ (hB2.kept hb3)).mono ?_
      rintro e w4 ⟨r4, R4, rfl, hr4, -, hb4⟩
      go_wp2_with fail
      refine (equal_any w4 _ _ _ _ _ _ (hr3.kept hb4).at hr4.at (by omega) (by omega)).mono ?_
      rintro e w5 ⟨rfl, q5, hw5⟩
      have hb5 : Below w2.heap.size w2 w5 := by rw [← hw5]; exact Below.drewN' (kept_trans hb3 hb4) q5
      rw [show decide (L = L) = true from by simp]
      clear hw5 hr3 hr4 hb3 hb4
      have hA5 := hA2.kept hb5
      have hB5 := hB2.kept hb5
      have hbw5 : Below w.heap.size w w5 := hbw2.trans (hb5.mono hbw2.size)
      clear hA2 hB2
      go_wp2_with fail
      refine (room_up w5 _ _ _ _ _ _ hA5).mono ?_
      rintro e w6 ⟨rfl, q6, hw6⟩
      have hb6 : Below w5.heap.size w5 w6 := by rw [← hw6]; exact Below.drewN' (Below.refl _ _) q6
      clear hw6
      go_wp2_with fail
      refine (room_up w6 _ _ _ _ _ _ (hB5.kept hb6)).mono ?_
      rintro e w7 ⟨rfl, q7, hw7⟩
      have hb7 : Below w5.heap.size w5 w7 := by rw [← hw7]; exact Below.drewN' hb6 q7
      clear hw7
      have hA7 := hA5.kept hb7
      have hB7 := hB5.kept hb7
      have hbw7 : Below w.heap.size w w7 := hbw5.trans (hb7.mono hbw5.size)
      clear hA5 hB5
      go_wp2_with fail
      refine (dead_up w7 _ _ _ _ _ _ hA7).mono ?_
      rintro e w' ⟨rfl, rfl⟩
      go_wp2_with fail
      refine (dead_up w7 _ _ _ _ _ _ hB7).mono ?_
      rintro e w' ⟨rfl, rfl⟩
      have hd7 : DiskAt w7 jk.K (upM S kk) := Hj.out.disk.kept (hb2.trans ((hb5.trans (hb7.mono hb5.size)).mono hb2.size))
      have hwr7 := writes_any w7 jk.K (upM S kk) hd7
      rw [← Hxx.out] at hwr7
      have W := Lib.hid (works_any w7 (hq' hbw7))
      go_wp2_with fail
      refine hwr7.mono ?_
      rintro e w' ⟨rfl, rfl⟩
      clear hwr7
      go_wp2_with fail
      refine W.out.mono ?_
      rintro e w8 ⟨rfl, hb8⟩
      go_wp2_with fail
      go_ret
      exact ⟨rfl, kept_trans hbw7 hb8⟩
end Go.Proofs.YtmimplmeccoahaaDoor
