/- The reference disk: Write, Fail, Up. -/
import Derived.Test.YtgbcpcbcikadlaaRefDisk
namespace Go.Proofs.Ytgbcpcbcikadlaa
open Go.RowKit
set_option linter.unusedVariables false
attribute [local go_sem ↓] seal_append
attribute [local go_sem] opC upC

theorem refUp_any (w : World) (K : RK) (M : MD) (h : RefAt w K M) :
    Calls Try.prog 32 #[.pointer (some ⟨K.d, 0, none⟩)] w fun e w' => e = .returned (.tuple #[]) ∧ RefAt w' K { M with down := false } ∧ Only K.foot w w' ∧ w'.heap.size = w.heap.size := by
  obtain ⟨h1, h2, h3, ⟨cap, after, tv, hc, hm, hb, ⟨L, hL, hLl, hs⟩, ⟨ct, hct, hcl, hf⟩, ha⟩, h5, h6⟩ := h
  have c0 := hb.cell 1
  have f0 := hb.free 1
  simp at c0
  have hset := hb.set 1 (.bool false)
  have hset2 : Blk (w.setCell ⟨K.d, 1, none⟩ (.bool false)) K.d [.slice (some ⟨K.bs, 0, none⟩) M.S.length cap, .bool false, .bool M.fault.isSome, .int .i64 after, tv, .int .i64 (M.writes : Int)] 52 := by simpa using hset
  have hL2 := hL.set_other (a := ⟨K.d, 1, none⟩) (.bool false) h1.symm
  have hk : ∀ b, K.R b → b < w.heap.size → (w.setCell ⟨K.d, 1, none⟩ (.bool false)).heap[b]? = w.heap[b]? := fun b hb _ => Below.heap_setCell _ _ _ _ (h2 b hb).1
  have hres : RefAt (w.setCell ⟨K.d, 1, none⟩ (.bool false)) K { M with down := false } :=
    ⟨h1, fun b hR => ⟨(h2 b hR).1, (h2 b hR).2.1, by simpa [World.setCell] using (h2 b hR).2.2⟩, h3, ⟨cap, after, tv, hc, hm, hset2, ⟨L, hL2, hLl, fun i hi => by
      obtain ⟨v, hv, hbv⟩ := hs i hi
      exact ⟨v, hv, hbv.keep hk⟩⟩, ⟨ct, hct.keep hk, hcl, hf⟩, ha⟩, h5, h6⟩
  have HR := Lib.hid hres
  clear hres hset hset2 hL2 hk hb hL hct hs hf ha h5 h6 h2 h3
  go_enter Try.func32, Try.ntmps32
  go_wp2_with fail
  go_end0
  exact ⟨rfl, HR.out, (Only.refl _ _).setCell (.inl (.inl rfl)) _, by simp [World.setCell]⟩

theorem refWrite_chk (w : World) (K : RK) (M : MD) (i : Int) (v : Value) (h : RefAt w K M) (hc : M.chk i ≠ 0) :
    Calls Try.prog 29 #[.pointer (some ⟨K.d, 0, none⟩), .int .i64 i, v] w fun e w' => e = .returned (.int .i64 (M.chk i)) ∧ w = w' := by
  obtain ⟨cap, after, tv, hcp, hm, hb, -⟩ := h.main
  have c0 := hb.cell 0
  have c1 := hb.cell 1
  simp at c0 c1
  have hn : M.S.length ≤ 9223372036854775807 := by have := h.len; omega
  unfold MD.chk at *
  clear h hb
  generalize M.down = dn at *
  generalize M.S.length = n at *
  cases dn
  · simp only [Bool.false_eq_true, if_false] at hc ⊢
    have hr : ¬ (0 ≤ i ∧ i < (n : Int)) := fun hx => hc (by rw [if_pos hx])
    rw [if_neg hr]
    by_cases hi : i < 0
    all_goals
      go_enter Try.func29, Try.ntmps29
      try (have hi2 : (n : Int) ≤ i := by omega)
      go_wp2_with fail
      go_ret
      exact ⟨rfl, rfl⟩
  · go_enter Try.func29, Try.ntmps29
    go_wp2_with fail
    go_ret
    exact ⟨rfl, rfl⟩

theorem refWrite_len (w : World) (K : RK) (M : MD) (i : Int) (a : Option Addr) (len cap' : Nat) (hlen : len ≤ 9223372036854775807) (h : RefAt w K M) (hc : M.chk i = 0) (hl : len ≠ 64) :
    Calls Try.prog 29 #[.pointer (some ⟨K.d, 0, none⟩), .int .i64 i, .slice a len cap'] w fun e w' => e = .returned (.int .i64 1) ∧ w = w' := by
  obtain ⟨hdn, hi0, hi1⟩ := MD.chk_ok hc
  obtain ⟨cap, after, tv, hcp, hm, hb, -⟩ := h.main
  have c0 := hb.cell 0
  have c1 := hb.cell 1
  simp at c0 c1
  rw [hdn] at c1
  have hn : M.S.length ≤ 9223372036854775807 := by have := h.len; omega
  have hb2 : (len != 64) = true := bne_iff_ne.2 (by omega)
  have hb3 : ((len : Int) != 64) = true := bne_iff_ne.2 (by omega)
  clear h hb hc hdn
  go_enter Try.func29, Try.ntmps29
  go_wp2_with fail
  go_ret
  exact ⟨rfl, rfl⟩
end Go.Proofs.Ytgbcpcbcikadlaa
