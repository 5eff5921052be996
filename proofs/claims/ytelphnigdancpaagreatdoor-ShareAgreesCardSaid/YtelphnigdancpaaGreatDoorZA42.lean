/-
  SPlay SVars
-/
import Derived.Test.YtelphnigdancpaaGreatDoorZA41
import Derived.Test.YtelphnigdancpaaGreatDoorZA35
namespace Go.Proofs.YtelphnigdancpaaGreatDoor
open Go.RowKit Go.Lib
set_option linter.unusedVariables false
set_option maxRecDepth 20000
attribute [local go_sem] opC upC

theorem ActsAt.get {W : World} {lo : Nat} {v : Value} {A : List SAct} (h : ActsAt W lo v A) {i : Nat} (hi : i < A.length) : ∃ b off cap x c, v = .slice (some ⟨b, off, none⟩) A.length cap ∧ ActOk A[i] ∧
    W.cell? ⟨b, off + i * 5, none⟩ = some (.int .u8 A[i].kind) ∧ W.cell? ⟨b, off + i * 5 + 1, none⟩ = some (.int .u8 A[i].one) ∧ W.cell? ⟨b, off + i * 5 + 2, none⟩ = some (.int .u8 A[i].two) ∧ W.cell? ⟨b, off + i * 5 + 3, none⟩ = some (.int .u16 A[i].which) ∧ W.cell? ⟨b, off + i * 5 + 4, none⟩ = some (.slice x A[i].keys.length c) ∧ Bytes (fun b => b < lo) W (.slice x A[i].keys.length c) A[i].keys := by
  obtain ⟨a, cap, rfl, h9, h⟩ := h
  obtain ⟨b, off, rfl, hlt, hc⟩ := h.resolve_left (by intro e; rw [e] at hi; simp at hi)
  obtain ⟨h1, x, c, c0, c1, c2, c3, c4, hB⟩ := hc i hi
  exact ⟨b, off, cap, x, c, rfl, h1, c0, c1, c2, c3, c4, hB⟩
theorem ActsAt.ok {W : World} {lo : Nat} {v : Value} {A : List SAct} (h : ActsAt W lo v A) : ∀ x ∈ A, ActOk x := fun x hx => by
  obtain ⟨i, hi, rfl⟩ := List.getElem_of_mem hx
  obtain ⟨_, _, _, _, _, -, h1, -⟩ := h.get hi
  exact h1
theorem stepS_lets (s : SW) (A : SAct) : (stepS s A).lets.length ≤ s.lets.length + 1 := by
  unfold stepS
  split
  · exact Nat.le_succ _
  · split
    · exact Nat.le_succ _
    · split
      · show (s.lets ++ [_]).length ≤ _
        simp
      · split
        · exact Nat.le_succ _
        · exact Nat.le_succ _
theorem runS_lets (A : List SAct) : ∀ k : Nat, k ≤ A.length → (runS A k).lets.length ≤ k
  | 0, _ => Nat.le_refl _
  | k + 1, h => by
    rw [runS_succ A k (by omega)]
    have := stepS_lets (runS A k) A[k]
    have := runS_lets A k (by omega)
    omega
def PlayPost (w : World) (A : List SAct) (e : Ending) (w' : World) : Prop := ∃ p g hb lv, e = .returned (.pointer (some ⟨p, 0, none⟩)) ∧ WAt w' w.heap.size p g hb lv (runS A A.length) ∧ Below w.heap.size w w'
set_option maxRecDepth 100000 in
set_option maxHeartbeats 8000000 in
theorem play_any (w : World) (hT : Tabs w) (h3 : 3 ≤ w.heap.size) (v : Value) (A : List SAct) (hA : ActsAt w w.heap.size v A) (hlen : A.length ≤ 60) :
    Calls Tryz.prog 27 #[v] w (PlayPost w A) := by
  have HTb := Lib.hid (show ∀ w', Below w.heap.size w w' → Tabs w' ∧ 3 ≤ w'.heap.size from fun w' hb => ⟨tabs_below hT h3 hb, Nat.le_trans h3 hb.size⟩)
  have HAk := Lib.hid (show ∀ w', Below w.heap.size w w' → ActsAt w' w.heap.size v A from fun w' hb => hA.kept hb)
  have HOk := Lib.hid hA.ok
  have HB0 := Lib.hid (begin_any w)
  obtain ⟨aa, ca, rfl, h9, -⟩ := hA
  obtain ⟨n, hn⟩ : ∃ n, A.length = n := ⟨_, rfl⟩
  have Hn := Lib.hid hn; have Hlen := Lib.hid hlen
  rw [hn] at h9 ⊢
  have h9I : (n : Int) ≤ 9223372036854775807 := by omega
  clear hT hlen hn
  go_enter Tryz.func27, Tryz.ntmps27
  go_wp2_with fail
  refine HB0.out.mono ?_
  rintro e w1 ⟨p, g, hb, lv, rfl, hW1, hb1⟩
  have HW1 := Lib.hid hW1; have HB1 := Lib.hid hb1
  clear HB0 hW1 hb1
  go_wp2_with fail
  go_loopw [4] (fun i wr => ∃ k : Nat, k ≤ n ∧ i = .int .i64 (k : Int) ∧ (∃ lv', WAt wr w.heap.size p g hb lv' (runS A k)) ∧ Below w.heap.size w wr) (fun i _ => n - (intOf i).toNat)
  case atStart => exact ⟨0, by omega, rfl, ⟨lv, HW1.out⟩, HB1.out⟩
  case round =>
    obtain ⟨k, hk, rfl, ⟨lv', hW⟩, hbw⟩ := hrel
    by_cases hkn : k < n
    · have hkI : (k : Int) < (n : Int) := by omega
      have hkA : k < A.length := by rw [Hn.out]; exact hkn
      obtain ⟨bA, oA, cA, x, c, ea, hax, c0, c1, c2, c3, c4, hB⟩ := (HAk.out wr hbw).get hkA
      rw [Hn.out] at ea
      simp at ea
      obtain ⟨rfl, rfl⟩ := ea
      have hinv := run_inv HOk.out k (by omega) (by have := Hlen.out; omega)
      have hl := runS_lets A k (by omega)
      have HC := Lib.hid (act_any wr (HTb.out _ hbw).1 (HTb.out _ hbw).2 w.heap.size p g hb lv' (runS A k) k [] hW hbw.size hinv (by have := Hlen.out; omega) (by have := Hlen.out; omega) A[k] hax x c hB)
      obtain ⟨B, hBk⟩ : ∃ B, A[k] = B := ⟨_, rfl⟩
      rw [hBk] at HC c0 c1 c2 c3 c4
      have HBk := Lib.hid (show stepS (runS A k) B = runS A (k + 1) by rw [← hBk]; exact (runS_succ A k hkA).symm)
      have Hbw := Lib.hid hbw
      clear hW hbw hax hB hinv hl hBk hkA
      go_wp2_with fail
      refine HC.out.mono ?_
      rintro e w2 ⟨rfl, lv2, hW2, hb2⟩
      rw [HBk.out] at hW2
      have HW2 := Lib.hid hW2; have HB2 := Lib.hid (Hbw.out.trans hb2.bel)
      clear HC hW2 hb2 c0 c1 c2 c3 c4
      go_wp2_with fail
      go_roundw
      case rel => exact ⟨k + 1, by omega, by go_num, ⟨lv2, HW2.out⟩, HB2.out⟩
      case measure => first | (simp [intOf]; done) | (simp [intOf]; omega)
    · have hkI : ¬ (k : Int) < (n : Int) := by omega
      obtain rfl : k = n := by omega
      have HW := Lib.hid hW; have HB := Lib.hid hbw
      clear hW hbw
      go_wp2_with fail
      go_ret
      exact ⟨p, g, hb, lv', rfl, by have h := HW.out; rw [Hn.out]; exact h, HB.out⟩
end Go.Proofs.YtelphnigdancpaaGreatDoor

namespace Go.Proofs.YtelphnigdancpaaGreatDoor
open Go.RowKit Go.Lib
set_option linter.unusedVariables false
set_option maxRecDepth 20000

theorem mod3 {n : Int} (h : 0 ≤ n ∧ n ≤ 255) : ∃ i : Nat, n.tmod 3 = (i : Int) ∧ i < 3 := by
  refine ⟨(n.tmod 3).toNat, ?_, ?_⟩
  · rw [Int.tmod_eq_emod_of_nonneg h.1]; omega
  · rw [Int.tmod_eq_emod_of_nonneg h.1]; omega
theorem lenOk {m : RMap} (h : validR m = true) : m.seen.length ≤ 1000000 ∧ m.items.length ≤ 1000000 ∧ m.gone.length ≤ 1000000 := by
  have := valid_lens h
  exact ⟨by omega, by omega, by omega⟩
def MsgVar (F : Blks) (W : World) (O : Nat) (x : SMsg) : Prop := F O ∧ ∃ s0 e0 s1 e1 s2 e2 s3 e3, Blk W O [.int .i64 x.frm, .slice s0 x.seen.length e0, .slice s1 x.tell.seen.length e1, .slice s2 x.tell.items.length e2, .slice s3 x.tell.gone.length e3] 39 ∧
  MsgIn F W (.slice s0 x.seen.length e0) (.slice s1 x.tell.seen.length e1) (.slice s2 x.tell.items.length e2) (.slice s3 x.tell.gone.length e3) x
def MapVar (F : Blks) (W : World) (O : Nat) (x : RMap) : Prop := F O ∧ ∃ s1 e1 s2 e2 s3 e3, Blk W O [.slice s1 x.seen.length e1, .slice s2 x.items.length e2, .slice s3 x.gone.length e3] 31 ∧
  MapIn F W (.slice s1 x.seen.length e1) (.slice s2 x.items.length e2) (.slice s3 x.gone.length e3) x
section
variable {W W' : World} {lo p g : Nat} {hb : Nat → Nat → Nat} {lv lv' : Value}
theorem MsgVar.bf {O : Nat} {x : SMsg} (h : MsgVar (Free p g hb lv W) W O x) (b : BF lo p g hb lv W lv' W') : MsgVar (Free p g hb lv' W') W' O x := by
  obtain ⟨h0, s0, e0, s1, e1, s2, e2, s3, e3, h1, h2⟩ := h
  exact ⟨(b.fr O h0).2, s0, e0, s1, e1, s2, e2, s3, e3, h1.keep (b.fr O h0).1, (h2.keep fun q hq _ => (b.fr q hq).1).mono fun q hq _ => (b.fr q hq).2⟩
theorem MapVar.bf {O : Nat} {x : RMap} (h : MapVar (Free p g hb lv W) W O x) (b : BF lo p g hb lv W lv' W') : MapVar (Free p g hb lv' W') W' O x := by
  obtain ⟨h0, s1, e1, s2, e2, s3, e3, h1, h2⟩ := h
  exact ⟨(b.fr O h0).2, s1, e1, s2, e2, s3, e3, h1.keep (b.fr O h0).1, (h2.keep fun q hq _ => (b.fr q hq).1).mono fun q hq _ => (b.fr q hq).2⟩
theorem MsgVar.keep {O : Nat} {x : SMsg} (h : MsgVar (Free p g hb lv W) W O x) (hw : Below W.heap.size W W') : MsgVar (Free p g hb lv W') W' O x := h.bf (lo := 0) (BF.of_below hw (Nat.zero_le _))
theorem MapVar.keep {O : Nat} {x : RMap} (h : MapVar (Free p g hb lv W) W O x) (hw : Below W.heap.size W W') : MapVar (Free p g hb lv W') W' O x := h.bf (lo := 0) (BF.of_below hw (Nat.zero_le _))
end
end Go.Proofs.YtelphnigdancpaaGreatDoor
