/- Records, Room, Dead; the calls of a nil journal. -/
import Derived.Test.YtmimplmeccoahaaDoorJ7
namespace Go.Proofs.YtmimplmeccoahaaDoor
open Go.RowKit
set_option linter.unusedVariables false
set_option maxRecDepth 20000
attribute [local go_sem ↓] seal_append
attribute [local go_sem] opC upC

theorem RowsIn.elem {R : Blks} {w : World} {lo : Nat} {v : Value} {S : List (List UInt8)} (h : RowsIn R w lo v S) (i : Nat) (hi : i < S.length) :
    ∃ g cap x, v = .slice (some ⟨g, 0, none⟩) S.length cap ∧ Bytes R w x S[i] ∧ w.cell? ⟨g, i, none⟩ = some x := by
  obtain ⟨vals, hown, hv, hR⟩ := h
  obtain ⟨x, hx, hb⟩ := hv i hi
  rcases hown.2 with ⟨rfl, h0⟩ | ⟨g, cap, cur, rfl, hlo, hg, hc, hm, hs, ht⟩
  · omega
  · refine ⟨g, cap, x, rfl, hb, ?_⟩
    have : (cur.toList.take (S.length * 1))[i]? = vals[i]? := by rw [ht]
    rw [List.getElem?_take, if_pos (by omega), hx] at this
    unfold World.cell?
    simpa [hg] using this

set_option maxHeartbeats 1000000 in
theorem records_any (w : World) (jb kd g taken : Nat) (rv : Value) (dead : Bool) (hj : JBlk w jb kd g rv taken dead) (R : Blks) (L : List (List UInt8)) (hr : RowsIn R w 0 rv L) (hL : L.length ≤ 65536) (hlens : ∀ b ∈ L, b.length ≤ 65536) :
    Calls Tryd.prog 18 #[.pointer (some ⟨jb, 0, none⟩)] w fun e w' => ∃ r R', e = .returned r ∧ RowsIn R' w' w.heap.size r L ∧ (∀ b, R' b → w.heap.size ≤ b ∧ b < w'.heap.size) ∧ Below w.heap.size w w' := by
  have c2 := hj.cell 2
  simp at c2
  obtain ⟨aR, cR, rfl, hcR, hmR⟩ := hr.shape
  have hLI : (L.length : Int) ≤ 65536 := by omega
  go_enter Tryd.func18, Tryd.ntmps18
  go_wp2_with fail
  go_loopw [3, 13] (fun v i wr => ∃ k R', k ≤ L.length ∧ i = .int .i64 (k : Int) ∧ RowsIn R' wr w.heap.size v (L.take k) ∧ (∀ b, R' b → w.heap.size ≤ b ∧ b < wr.heap.size) ∧ Below w.heap.size w wr) (fun _ i _ => L.length - (intOf i).toNat)
  case atStart => exact ⟨0, none_, by omega, rfl, by simpa using RowsIn.nil w w.heap.size, fun b hb => hb.elim, Below.refl _ _⟩
  case round =>
    obtain ⟨k, R', hk, rfl, hrow, hR', hbw⟩ := hrel
    by_cases hkl : k < L.length
    · have hklI : (k : Int) < (L.length : Int) := by omega
      have hrw := hr.kept hbw
      obtain ⟨gg, cap, x, hv, hbx, hcell⟩ := hrw.elem k hkl
      simp at hv
      obtain ⟨rfl, rfl⟩ := hv
      have hlk : (L.take k).length = k := by simp; omega
      obtain ⟨a1, c1, rfl, hc1, hm1⟩ := hrow.shape
      rw [hlk] at hc1 hrow
      have hll := hlens L[k] (List.getElem_mem hkl)
      rw [hlk]
      go_wp2_with fail
      refine (clone_any wr R x L[k] hbx (by omega)).mono ?_
      rintro e w1 ⟨r, rfl, hr1, hb1⟩
      have hby := owns_bytes hr1
      obtain ⟨a2, c2', rfl, -, -⟩ : ∃ a cap, r = .slice a L[k].length cap ∧ L[k].length ≤ cap ∧ cap ≤ maxLen := by
        obtain ⟨a, cap, h, h1, h2, -⟩ := hby
        exact ⟨a, cap, h, h1, h2⟩
      have hrow1 := hrow.kept hb1
      obtain ⟨a', c', w2, hap, hrows2, hg2⟩ := hrow1.append hby (fun b hb => hb.2.2) (by simp; omega) (by have := hb1.size; have := hbw.size; omega)
      rw [hlk] at hap hrows2
      have hb2 : Below w.heap.size w w2 := (Below.alloc (hbw.trans (hb1.mono hbw.size)) (by have := hb1.size; have := hbw.size; omega) _).grown hg2 (by have := hb1.size; have := hbw.size; simp; omega) (fun q hq => ((hrow1.own hq).1))
      have hs2 := hg2.size
      simp at hs2
      have htk : L.take k ++ [L[k]] = L.take (k + 1) := by rw [List.take_succ_eq_append_getElem hkl]
      rw [htk] at hrows2
      have Hrows2 := Lib.hid hrows2; have Hb2 := Lib.hid hb2
      have hbs := hbw.size
      have hb1s := hb1.size
      clear hrows2 hb2 hrow1 hrow hrw hby hr1 hg2 hcell hbx
      go_wp2_with fail
      go_roundw
      case rel => exact ⟨k + 1, _, by omega, by go_num, Hrows2.out, fun b hb => by
          rcases hb with hb | hb
          · have := hR' b hb; omega
          · have := hb.1; have := hb.2.1; omega, Hb2.out⟩
      case measure => simp [intOf]; omega
    · have hklI : ¬ (k : Int) < (L.length : Int) := by omega
      have hkl' : k = L.length := by omega
      subst hkl'
      rw [List.take_length] at hrow
      go_wp2_with fail
      go_ret
      exact ⟨_, rfl, R', hrow, hR', hbw⟩

theorem records_nil (w : World) :
    Calls Tryd.prog 18 #[.pointer none] w fun e w' => e = .returned (.slice none 0 0) ∧ w = w' := by
  go_enter Tryd.func18, Tryd.ntmps18
  go_wp2_with fail
  go_ret
  exact ⟨rfl, rfl⟩

theorem room_any (w : World) (jb kd g taken : Nat) (rv : Value) (dead : Bool) (K : DK) (M : MD) (hj : JBlk w jb kd g rv taken dead) (hd : DiskAt w K M) (hK : K.d = kd) (h2 : 2 ≤ M.S.length) (ht : taken ≤ halfN M.S.length) :
    Calls Tryd.prog 17 #[.pointer (some ⟨jb, 0, none⟩)] w fun e w' => e = .returned (.int .i64 (if halfN M.S.length - taken < 1 then -1 else min (48 * ((halfN M.S.length - taken : Nat) : Int)) 65536)) ∧ ∃ n, w.drewN n = w' := by
  have hle := hd.le
  have hh : halfN M.S.length - taken ≤ 65536 := by unfold halfN; omega
  have hfree : ∀ n, Calls Tryd.prog 50 #[.pointer (some ⟨jb, 0, none⟩)] (w.drewN n) fun e w' => e = .returned (.int .i64 ((halfN M.S.length - taken : Nat) : Int)) ∧ ∃ m, (w.drewN n).drewN m = w' := fun n =>
    free_any (w.drewN n) jb kd g rv taken dead K M (hj.keep rfl) (hd.keep fun _ _ => rfl) hK h2 ht
  have hfree0 : Calls Tryd.prog 50 #[.pointer (some ⟨jb, 0, none⟩)] w fun e w' => e = .returned (.int .i64 ((halfN M.S.length - taken : Nat) : Int)) ∧ ∃ m, w.drewN m = w' := free_any w jb kd g rv taken dead K M hj hd hK h2 ht
  generalize halfN M.S.length - taken = f at *
  have Hf := Lib.hid hfree; have Hf0 := Lib.hid hfree0
  clear hfree hfree0
  have hfI : (f : Int) ≤ 65536 := by omega
  by_cases h1 : f < 1
  · have h1I : (f : Int) < 1 := by omega
    rw [if_pos h1]
    go_enter Tryd.func17, Tryd.ntmps17
    go_wp2_with fail
    refine Hf0.out.mono ?_
    rintro e w1 ⟨rfl, n, rfl⟩
    go_wp2_with fail
    go_ret
    exact ⟨rfl, n, rfl⟩
  · have h1I : ¬ (f : Int) < 1 := by omega
    rw [if_neg h1]
    go_enter Tryd.func17, Tryd.ntmps17
    go_wp2_with fail
    refine Hf0.out.mono ?_
    rintro e w1 ⟨rfl, n, rfl⟩
    go_wp2_with fail
    refine (Hf.out n).mono ?_
    rintro e w1 ⟨rfl, m, rfl⟩
    go_wp2_with fail
    all_goals
      go_ret
      exact ⟨ret_int (by omega), n + m, by first | rfl | (simp [World.drewN]; done) | (simp [World.drewN]; omega)⟩

theorem room_nil (w : World) :
    Calls Tryd.prog 17 #[.pointer none] w fun e w' => e = .returned (.int .i64 0) ∧ w = w' := by
  go_enter Tryd.func17, Tryd.ntmps17
  go_wp2_with fail
  go_ret
  exact ⟨rfl, rfl⟩

theorem dead_any (w : World) (jb kd g taken : Nat) (rv : Value) (dead : Bool) (hj : JBlk w jb kd g rv taken dead) :
    Calls Tryd.prog 20 #[.pointer (some ⟨jb, 0, none⟩)] w fun e w' => e = .returned (.bool dead) ∧ w = w' := by
  have c4 := hj.cell 4
  simp at c4
  go_enter Tryd.func20, Tryd.ntmps20
  go_wp2_with fail
  go_ret
  exact ⟨rfl, rfl⟩

theorem dead_nil (w : World) :
    Calls Tryd.prog 20 #[.pointer none] w fun e w' => e = .returned (.bool false) ∧ w = w' := by
  go_enter Tryd.func20, Tryd.ntmps20
  go_wp2_with fail
  go_ret
  exact ⟨rfl, rfl⟩

theorem jcan_nil (w : World) (v : Value) (n : Int) :
    Calls Tryd.prog 45 #[.pointer none, v, .int .i64 n] w fun e w' => e = .returned (.int .i64 9) ∧ w = w' := by
  go_enter Tryd.func45, Tryd.ntmps45
  go_wp2_with fail
  go_ret
  exact ⟨rfl, rfl⟩

theorem append_nil (w : World) (v : Value) :
    Calls Tryd.prog 16 #[.pointer none, v] w fun e w' => e = .returned (.int .i64 9) ∧ w = w' := by
  have hf := Lib.hid (free_nil w)
  have hc := Lib.hid (jcan_nil w v 0)
  go_enter Tryd.func16, Tryd.ntmps16
  go_wp2_with fail
  refine hf.out.mono ?_
  rintro e w' ⟨rfl, rfl⟩
  go_wp2_with fail
  refine hc.out.mono ?_
  rintro e w' ⟨rfl, rfl⟩
  go_wp2_with fail
  go_ret
  exact ⟨rfl, rfl⟩

theorem replace_nil (w : World) (v : Value) :
    Calls Tryd.prog 15 #[.pointer none, v] w fun e w' => e = .returned (.int .i64 9) ∧ w = w' := by
  have hc := Lib.hid (jcan_nil w v 0)
  go_enter Tryd.func15, Tryd.ntmps15
  go_wp2_with fail
  refine hc.out.mono ?_
  rintro e w' ⟨rfl, rfl⟩
  go_wp2_with fail
  go_ret
  exact ⟨rfl, rfl⟩
end Go.Proofs.YtmimplmeccoahaaDoor
