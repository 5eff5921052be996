/- The reference disk (henkanref34), by contracts: it reads as the same sectors, power, fault and count. -/
import Derived.Test.YtgbcpcbcikadlaaDiskLaws5
namespace Go.Proofs.Ytgbcpcbcikadlaa
open Go.RowKit
set_option linter.unusedVariables false
attribute [local go_sem ↓] seal_append

/-- the blocks of a reference disk: itself; the row of its sectors; the bytes (which are never written) -/
structure RK where
  d : Nat
  bs : Nat
  R : Blks

def RK.foot (K : RK) : Blks := fun k => k = K.d ∨ k = K.bs
def RK.all (K : RK) : Blks := fun k => k = K.d ∨ k = K.bs ∨ K.R k

structure RefAt (w : World) (K : RK) (M : MD) : Prop where
  ne : K.d ≠ K.bs
  apart : ∀ b, K.R b → b ≠ K.d ∧ b ≠ K.bs ∧ b < w.heap.size
  len : M.S.length ≤ 65536
  main : ∃ (cap : Nat) (after : Int) (tv : Value), M.S.length ≤ cap ∧ cap ≤ maxLen ∧
    Blk w K.d [.slice (some ⟨K.bs, 0, none⟩) M.S.length cap, .bool M.down, .bool M.fault.isSome, .int .i64 after, tv, .int .i64 (M.writes : Int)] 52 ∧
    (∃ L, Blk w K.bs L 28 ∧ L.length = cap ∧ ∀ i (h : i < M.S.length), ∃ v, L[i]? = some v ∧ Bytes K.R w v M.S[i]) ∧
    (∃ ct, Bytes K.R w tv ct ∧ ct.length ≤ 140737488355328 ∧ ∀ k t, M.fault = some (k, t) → after = (k : Int) ∧ ct = t) ∧ (-9223372036854775808 ≤ after ∧ after ≤ 9223372036854775807)
  s64 : ∀ s ∈ M.S, s.length = 64
  f64 : ∀ k t, M.fault = some (k, t) → t.length = 64 ∧ k ≤ 9223372036854775807

theorem RefAt.lt {w : World} {K : RK} {M : MD} (h : RefAt w K M) : ∀ b, K.all b → b < w.heap.size := by
  obtain ⟨cap, after, tv, hc, hm, hb, ⟨L, hL, _⟩, _⟩ := h.main
  rintro b (rfl | rfl | hR)
  · exact hb.lt
  · exact hL.lt
  · exact (h.apart b hR).2.2

theorem RefAt.keep {w w' : World} {K : RK} {M : MD} (h : RefAt w K M) (hk : ∀ b, K.all b → w'.heap[b]? = w.heap[b]?) (hsz : w.heap.size ≤ w'.heap.size) : RefAt w' K M := by
  obtain ⟨h1, h2, h3, ⟨cap, after, tv, hc, hm, hb, ⟨L, hL, hLl, hs⟩, ⟨ct, hct, hcl, hf⟩, ha⟩, h5, h6⟩ := h
  refine ⟨h1, fun b hR => ⟨(h2 b hR).1, (h2 b hR).2.1, Nat.lt_of_lt_of_le (h2 b hR).2.2 hsz⟩, h3, ⟨cap, after, tv, hc, hm, hb.keep (hk _ (.inl rfl)), ⟨L, hL.keep (hk _ (.inr (.inl rfl))), hLl, fun i hi => ?_⟩, ⟨ct, hct.keep (fun b hR _ => hk b (.inr (.inr hR))), hcl, hf⟩, ha⟩, h5, h6⟩
  obtain ⟨v, hv, hbv⟩ := hs i hi
  exact ⟨v, hv, hbv.keep fun b hR _ => hk b (.inr (.inr hR))⟩
theorem RefAt.kept {w w' : World} {K : RK} {M : MD} (h : RefAt w K M) (hb : Below w.heap.size w w') : RefAt w' K M :=
  h.keep (fun b hf => hb.block b (h.lt b hf)) hb.size
theorem RefAt.only {w w' : World} {K : RK} {M : MD} {F : Blks} (h : RefAt w K M) (ho : Only F w w') (hd : ∀ b, K.all b → ¬ F b) : RefAt w' K M :=
  h.keep (fun b hb => ho.block b (h.lt b hb) (hd b hb)) ho.size

theorem refRead_err (w : World) (K : RK) (M : MD) (i : Int) (h : RefAt w K M) (hc : M.chk i ≠ 0) :
    Calls Try.prog 30 #[.pointer (some ⟨K.d, 0, none⟩), .int .i64 i] w fun e w' => e = .returned (.tuple #[.slice none 0 0, .int .i64 (M.chk i)]) ∧ w = w' := by
  obtain ⟨cap, after, tv, hcp, hm, hb, -⟩ := h.main
  have c0 := hb.cell 0
  have c1 := hb.cell 1
  simp at c0 c1
  have hn : M.S.length ≤ 9223372036854775807 := by have := h.len; omega
  unfold MD.chk at *
  clear h hb
  generalize M.down = dn at *
  generalize M.S.length = n at *
  cases dn
  · simp only [Bool.false_eq_true, if_false] at hc ⊢
    have hr : ¬ (0 ≤ i ∧ i < (n : Int)) := fun hx => hc (by rw [if_pos hx])
    rw [if_neg hr]
    by_cases hi : i < 0
    all_goals
      go_enter Try.func30, Try.ntmps30
      try (have hi2 : (n : Int) ≤ i := by omega)
      go_wp2_with fail
      go_ret2
      exact ⟨rfl, rfl⟩
  · go_enter Try.func30, Try.ntmps30
    go_wp2_with fail
    go_ret2
    exact ⟨rfl, rfl⟩

theorem refRead_ok (w : World) (K : RK) (M : MD) (i : Nat) (h : RefAt w K M) (hi : i < M.S.length) (hdn : M.down = false) :
    Calls Try.prog 30 #[.pointer (some ⟨K.d, 0, none⟩), .int .i64 (i : Int)] w fun e w' => ∃ r, e = .returned (.tuple #[r, .int .i64 0]) ∧
      w'.ownsRow w.heap.size 5 1 r 64 (M.S[i].map B) ∧ Below w.heap.size w w' := by
  have h64 : (M.S[i]).length = 64 := h.s64 _ (List.getElem_mem hi)
  have hle := h.len
  have hap := h.apart
  have hltR := h.lt
  obtain ⟨cap, after, tv, hcp, hm, hb, ⟨L, hL, hLl, hs⟩, -⟩ := h.main
  obtain ⟨v, hv, hbv⟩ := hs i hi
  clear hs
  have c0 := hb.cell 0
  have c1 := hb.cell 1
  simp at c0 c1
  rw [hdn] at c1
  have ci := hL.cell i
  rw [hv] at ci
  have hW : Bytes K.R (w.alloc (.cells #[] 5)) v M.S[i] := hbv.keep fun b _ hb => Below.heap_alloc _ _ _ hb
  obtain ⟨v', w', hr, hown, hgb⟩ := run_append_bytes (w.alloc (.cells #[] 5)) w.heap.size (.slice (some ⟨w.heap.size, 0, none⟩) 0 0) []
    ⟨rfl, .inr ⟨w.heap.size, 0, #[], rfl, Nat.le_refl _, by unfold World.alloc; simp, Nat.le_refl _, by unfold maxLen; omega, rfl, rfl⟩⟩ K.R v M.S[i] hW (by simp [h64]) (by simp)
  have Hown := Lib.hid hown; clear hown
  have Hgb := Lib.hid hgb; clear hgb
  have H64 := Lib.hid h64; clear h64
  have hn : (i : Int) < (M.S.length : Int) := by omega
  have hn2 : M.S.length ≤ 9223372036854775807 := by omega
  have hl1 := hb.lt
  have hl2 := hL.lt
  clear h hap hltR hb hdn hW hbv
  go_enter Try.func30, Try.ntmps30
  go_wp2_with fail
  go_ret2
  exact ⟨_, rfl, by have := Hown.out; rw [List.nil_append, H64.out] at this; exact this, (kept_alloc _ _).grown Hgb.out (by simp) (fun k hk => by simp [Value.ownBlock] at hk; omega)⟩
end Go.Proofs.Ytgbcpcbcikadlaa
