/- The reference disk: Write with a fault. -/
import Derived.Test.YtgbcpcbcikadlaaRefDisk3
namespace Go.Proofs.Ytgbcpcbcikadlaa
open Go.RowKit
set_option linter.unusedVariables false
attribute [local go_sem ↓] seal_append
attribute [local go_sem] opC upC

theorem refWrite_zero (w : World) (K : RK) (M : MD) (h : RefAt w K M) (t : List UInt8) (hft : M.fault = some (0, t)) (i : Nat) (hi : i < M.S.length) (hdn : M.down = false) (a : Option Addr) (cap' : Nat) :
    Calls Try.prog 29 #[.pointer (some ⟨K.d, 0, none⟩), .int .i64 (i : Int), .slice a 64 cap'] w fun e w' => e = .returned (.int .i64 341) ∧
      RefAt w' K { M with S := M.S.set i t, fault := none, down := true } ∧ Only K.foot w w' ∧ w'.heap.size = w.heap.size := by
  obtain ⟨h1, h2, h3, ⟨cap, after, tv, hc, hm, hb, ⟨L, hL, hLl, hs⟩, ⟨ct, hct, hcl, hf⟩, ha⟩, h5, h6⟩ := h
  rw [hdn, hft] at hb
  obtain ⟨rfl, rfl⟩ := hf 0 t hft
  have hct0 := hct
  obtain ⟨ta, tc, rfl, htc, htm, -, -⟩ := hct
  have hlt := hb.lt
  have hltb := hL.lt
  have c0 := hb.cell 0
  have c1 := hb.cell 1
  have c2 := hb.cell 2
  have c3 := hb.cell 3
  have c4 := hb.cell 4
  simp at c0 c1 c2 c3 c4
  have hiL : i < L.length := by omega
  have cL := hL.cell i
  have fL := hL.free i
  rw [List.getElem?_eq_getElem hiL] at cL
  have hn0 : (i : Int) < (M.S.length : Int) := by omega
  have hn2 : M.S.length ≤ 9223372036854775807 := by omega
  have H2 := Lib.hid h2; have Hs := Lib.hid hs; have Hf := Lib.hid hf; have H5 := Lib.hid h5; have H6 := Lib.hid h6; have Hft := Lib.hid hft; have Hdn := Lib.hid hdn
  clear h2 hs hf h5 h6 hft hdn
  have hb3 := hb.set_other (a := ⟨K.bs, i, none⟩) (.slice ta ct.length tc) h1
  have hL3 := hL.set i (.slice ta ct.length tc)
  have f2 := hb3.free 2
  have f1 := (hb3.set 2 (.bool false)).free 1
  have hb4 := (hb3.set 2 (.bool false)).set 1 (.bool true)
  have hL4 := (hL3.set_other (a := ⟨K.d, 2, none⟩) (.bool false) (Ne.symm h1)).set_other (a := ⟨K.d, 1, none⟩) (.bool true) (Ne.symm h1)
  go_enter Try.func29, Try.ntmps29
  go_wp2_with fail
  go_still_tail 10, (by kernel_rfl)
  change wpList _ _ _ _ _ w.drew
  go_wp2_with fail
  go_ret
  have h2 := H2.out
  have ho : Only K.foot w (((w.setCell ⟨K.bs, i, none⟩ (.slice ta ct.length tc)).setCell ⟨K.d, 2, none⟩ (.bool false)).setCell ⟨K.d, 1, none⟩ (.bool true)) := (((Only.refl _ _).setCell (.inl (.inr rfl)) _).setCell (.inl (.inl rfl)) _).setCell (.inl (.inl rfl)) _
  have hsz : (((w.setCell ⟨K.bs, i, none⟩ (.slice ta ct.length tc)).setCell ⟨K.d, 2, none⟩ (.bool false)).setCell ⟨K.d, 1, none⟩ (.bool true)).heap.size = w.heap.size := by simp [World.setCell]
  refine ⟨rfl, ⟨h1, ?_, by simpa using h3, ⟨cap, 0, _, by simpa using hc, hm, by simpa using hb4.drew, ⟨_, hL4.drew, by simpa using hLl, ?_⟩, ⟨ct, ?_, hcl, nofun⟩, by omega⟩, ?_, nofun⟩, ho.drew, hsz⟩
  · intro b hR
    exact ⟨(h2 b hR).1, (h2 b hR).2.1, Nat.lt_of_lt_of_le (h2 b hR).2.2 ho.size⟩
  · intro j hj
    simp at hj
    by_cases hji : i = j
    · subst hji
      refine ⟨_, by rw [List.getElem?_set_self (by omega)], ?_⟩
      simp only [List.getElem_set_self]
      exact hct0.keep fun b hR hlt' => ho.block b hlt' (by have := h2 b hR; rintro (e | e) <;> simp_all)
    · obtain ⟨v, hv, hbv⟩ := Hs.out j (by omega)
      refine ⟨v, by rw [List.getElem?_set_ne hji]; exact hv, ?_⟩
      simp only [List.getElem_set_ne hji]
      exact hbv.keep fun b hR hlt' => ho.block b hlt' (by have := h2 b hR; rintro (e | e) <;> simp_all)
  · exact hct0.keep fun b hR hlt' => ho.block b hlt' (by have := h2 b hR; rintro (e | e) <;> simp_all)
  · intro s hs'
    rcases List.mem_or_eq_of_mem_set hs' with hs' | rfl
    · exact H5.out s hs'
    · exact (H6.out 0 _ Hft.out).1
end Go.Proofs.Ytgbcpcbcikadlaa
