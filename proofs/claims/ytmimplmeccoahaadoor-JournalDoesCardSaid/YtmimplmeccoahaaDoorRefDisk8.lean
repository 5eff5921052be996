/- The reference disk (henkanref34), by contracts: it reads as the same sectors, power, fault and count. -/
import Derived.Test.YtmimplmeccoahaaDoorUse
import Derived.Test.YtmimplmeccoahaaDoorRegion2
import Derived.Test.YtmimplmeccoahaaDoorBRows
namespace Go.Proofs.YtmimplmeccoahaaDoor
open Go.RowKit
set_option linter.unusedVariables false
set_option maxRecDepth 20000
attribute [local go_sem ↓] seal_append

/-- the blocks of a reference disk: itself; the row of its sectors; the bytes (which are never written) -/
structure RK where
  d : Nat
  bs : Nat
  R : Blks

def RK.foot (K : RK) : Blks := fun k => k = K.d ∨ k = K.bs
def RK.all (K : RK) : Blks := fun k => k = K.d ∨ k = K.bs ∨ K.R k

structure RefAt (w : World) (K : RK) (M : MD) : Prop where
  ne : K.d ≠ K.bs
  apart : ∀ b, K.R b → b ≠ K.d ∧ b ≠ K.bs ∧ b < w.heap.size
  len : M.S.length ≤ 65536
  main : ∃ (cap : Nat) (after : Int) (tv : Value), M.S.length ≤ cap ∧ cap ≤ maxLen ∧
    Blk w K.d [.slice (some ⟨K.bs, 0, none⟩) M.S.length cap, .bool M.down, .bool M.fault.isSome, .int .i64 after, tv, .int .i64 (M.writes : Int)] 95 ∧
    (∃ L, Blk w K.bs L 30 ∧ L.length = cap ∧ ∀ i (h : i < M.S.length), ∃ v, L[i]? = some v ∧ Bytes K.R w v M.S[i]) ∧
    (∃ ct, Bytes K.R w tv ct ∧ ct.length ≤ 140737488355328 ∧ ∀ k t, M.fault = some (k, t) → after = (k : Int) ∧ ct = t) ∧ (-9223372036854775808 ≤ after ∧ after ≤ 9223372036854775807)
  s64 : ∀ s ∈ M.S, s.length = 64
  f64 : ∀ k t, M.fault = some (k, t) → t.length = 64 ∧ k ≤ 9223372036854775807

theorem RefAt.lt {w : World} {K : RK} {M : MD} (h : RefAt w K M) : ∀ b, K.all b → b < w.heap.size := by
  obtain ⟨cap, after, tv, hc, hm, hb, ⟨L, hL, _⟩, _⟩ := h.main
  rintro b (rfl | rfl | hR)
  · exact hb.lt
  · exact hL.lt
  · exact (h.apart b hR).2.2

theorem RefAt.keep {w w' : World} {K : RK} {M : MD} (h : RefAt w K M) (hk : ∀ b, K.all b → w'.heap[b]? = w.heap[b]?) (hsz : w.heap.size ≤ w'.heap.size) : RefAt w' K M := by
  obtain ⟨h1, h2, h3, ⟨cap, after, tv, hc, hm, hb, ⟨L, hL, hLl, hs⟩, ⟨ct, hct, hcl, hf⟩, ha⟩, h5, h6⟩ := h
  refine ⟨h1, fun b hR => ⟨(h2 b hR).1, (h2 b hR).2.1, Nat.lt_of_lt_of_le (h2 b hR).2.2 hsz⟩, h3, ⟨cap, after, tv, hc, hm, hb.keep (hk _ (.inl rfl)), ⟨L, hL.keep (hk _ (.inr (.inl rfl))), hLl, fun i hi => ?_⟩, ⟨ct, hct.keep (fun b hR _ => hk b (.inr (.inr hR))), hcl, hf⟩, ha⟩, h5, h6⟩
  obtain ⟨v, hv, hbv⟩ := hs i hi
  exact ⟨v, hv, hbv.keep fun b hR _ => hk b (.inr (.inr hR))⟩
theorem RefAt.kept {w w' : World} {K : RK} {M : MD} (h : RefAt w K M) (hb : Below w.heap.size w w') : RefAt w' K M :=
  h.keep (fun b hf => hb.block b (h.lt b hf)) hb.size
theorem RefAt.only {w w' : World} {K : RK} {M : MD} {F : Blks} (h : RefAt w K M) (ho : Only F w w') (hd : ∀ b, K.all b → ¬ F b) : RefAt w' K M :=
  h.keep (fun b hb => ho.block b (h.lt b hb) (hd b hb)) ho.size

end Go.Proofs.YtmimplmeccoahaaDoor
/- The reference disk: Write, Fail, Up. -/
namespace Go.Proofs.YtmimplmeccoahaaDoor
open Go.RowKit
set_option linter.unusedVariables false
set_option maxRecDepth 20000
attribute [local go_sem ↓] seal_append
attribute [local go_sem] opC upC

theorem refUp_any (w : World) (K : RK) (M : MD) (h : RefAt w K M) :
    Calls Tryd.prog 43 #[.pointer (some ⟨K.d, 0, none⟩)] w fun e w' => e = .returned (.tuple #[]) ∧ RefAt w' K { M with down := false } ∧ Only K.foot w w' ∧ w'.heap.size = w.heap.size := by
  obtain ⟨h1, h2, h3, ⟨cap, after, tv, hc, hm, hb, ⟨L, hL, hLl, hs⟩, ⟨ct, hct, hcl, hf⟩, ha⟩, h5, h6⟩ := h
  have c0 := hb.cell 1
  have f0 := hb.free 1
  simp at c0
  have hset := hb.set 1 (.bool false)
  have hset2 : Blk (w.setCell ⟨K.d, 1, none⟩ (.bool false)) K.d [.slice (some ⟨K.bs, 0, none⟩) M.S.length cap, .bool false, .bool M.fault.isSome, .int .i64 after, tv, .int .i64 (M.writes : Int)] 95 := by simpa using hset
  have hL2 := hL.set_other (a := ⟨K.d, 1, none⟩) (.bool false) h1.symm
  have hk : ∀ b, K.R b → b < w.heap.size → (w.setCell ⟨K.d, 1, none⟩ (.bool false)).heap[b]? = w.heap[b]? := fun b hb _ => Below.heap_setCell _ _ _ _ (h2 b hb).1
  have hres : RefAt (w.setCell ⟨K.d, 1, none⟩ (.bool false)) K { M with down := false } :=
    ⟨h1, fun b hR => ⟨(h2 b hR).1, (h2 b hR).2.1, by simpa [World.setCell] using (h2 b hR).2.2⟩, h3, ⟨cap, after, tv, hc, hm, hset2, ⟨L, hL2, hLl, fun i hi => by
      obtain ⟨v, hv, hbv⟩ := hs i hi
      exact ⟨v, hv, hbv.keep hk⟩⟩, ⟨ct, hct.keep hk, hcl, hf⟩, ha⟩, h5, h6⟩
  have HR := Lib.hid hres
  clear hres hset hset2 hL2 hk hb hL hct hs hf ha h5 h6 h2 h3
  go_enter Tryd.func43, Tryd.ntmps43
  go_wp2_with fail
  go_end0
  exact ⟨rfl, HR.out, (Only.refl _ _).setCell (.inl (.inl rfl)) _, by simp [World.setCell]⟩

theorem refWrite_chk (w : World) (K : RK) (M : MD) (i : Int) (v : Value) (h : RefAt w K M) (hc : M.chk i ≠ 0) :
    Calls Tryd.prog 35 #[.pointer (some ⟨K.d, 0, none⟩), .int .i64 i, v] w fun e w' => e = .returned (.int .i64 (M.chk i)) ∧ w = w' := by
  obtain ⟨cap, after, tv, hcp, hm, hb, -⟩ := h.main
  have c0 := hb.cell 0
  have c1 := hb.cell 1
  simp at c0 c1
  have hn : M.S.length ≤ 9223372036854775807 := by have := h.len; omega
  unfold MD.chk at *
  clear h hb
  generalize M.down = dn at *
  generalize M.S.length = n at *
  cases dn
  · simp only [Bool.false_eq_true, if_false] at hc ⊢
    have hr : ¬ (0 ≤ i ∧ i < (n : Int)) := fun hx => hc (by rw [if_pos hx])
    rw [if_neg hr]
    by_cases hi : i < 0
    all_goals
      go_enter Tryd.func35, Tryd.ntmps35
      try (have hi2 : (n : Int) ≤ i := by omega)
      go_wp2_with fail
      go_ret
      exact ⟨rfl, rfl⟩
  · go_enter Tryd.func35, Tryd.ntmps35
    go_wp2_with fail
    go_ret
    exact ⟨rfl, rfl⟩

theorem refWrite_len (w : World) (K : RK) (M : MD) (i : Int) (a : Option Addr) (len cap' : Nat) (hlen : len ≤ 9223372036854775807) (h : RefAt w K M) (hc : M.chk i = 0) (hl : len ≠ 64) :
    Calls Tryd.prog 35 #[.pointer (some ⟨K.d, 0, none⟩), .int .i64 i, .slice a len cap'] w fun e w' => e = .returned (.int .i64 1) ∧ w = w' := by
  obtain ⟨hdn, hi0, hi1⟩ := MD.chk_ok hc
  obtain ⟨cap, after, tv, hcp, hm, hb, -⟩ := h.main
  have c0 := hb.cell 0
  have c1 := hb.cell 1
  simp at c0 c1
  rw [hdn] at c1
  have hn : M.S.length ≤ 9223372036854775807 := by have := h.len; omega
  have hb2 : (len != 64) = true := bne_iff_ne.2 (by omega)
  have hb3 : ((len : Int) != 64) = true := bne_iff_ne.2 (by omega)
  clear h hb hc hdn
  go_enter Tryd.func35, Tryd.ntmps35
  go_wp2_with fail
  go_ret
  exact ⟨rfl, rfl⟩
end Go.Proofs.YtmimplmeccoahaaDoor
/- The reference disk: Write with no fault. -/
namespace Go.Proofs.YtmimplmeccoahaaDoor
open Go.RowKit
set_option linter.unusedVariables false
set_option maxRecDepth 20000
attribute [local go_sem ↓] seal_append
attribute [local go_sem] opC upC

/-- the blocks behind a write: the new bytes are the disk's too -/
def RK.grow (K : RK) (lo hi : Nat) : RK := { K with R := fun b => K.R b ∨ (lo ≤ b ∧ b < hi) }

set_option maxHeartbeats 1000000 in
theorem refWrite_none (w : World) (K : RK) (M : MD) (h : RefAt w K M) (hft : M.fault = none) (i : Nat) (hi : i < M.S.length) (hdn : M.down = false) (hw : M.writes < 4611686018427387904) (F : Blks) (v : Value) (l : List UInt8) (hv : Bytes F w v l) (hl : l.length = 64) :
    Calls Tryd.prog 35 #[.pointer (some ⟨K.d, 0, none⟩), .int .i64 (i : Int), v] w fun e w' => e = .returned (.int .i64 0) ∧
      RefAt w' (K.grow w.heap.size w'.heap.size) { M with S := M.S.set i l, writes := M.writes + 1 } ∧ Only K.foot w w' := by
  have hltA := h.lt
  obtain ⟨h1, h2, h3, ⟨cap, after, tv, hc, hm, hb, ⟨L, hL, hLl, hs⟩, ⟨ct, hct, hcl, hf⟩, ha⟩, h5, h6⟩ := h
  rw [hdn, hft] at hb
  have hv0 := hv
  obtain ⟨a, capv, rfl, hcv, hmv, -, -⟩ := hv
  have hlt := hb.lt
  have hltb := hL.lt
  have c0 := hb.cell 0
  have c1 := hb.cell 1
  have c2 := hb.cell 2
  simp at c0 c1 c2
  have hW : Bytes F (w.alloc (.cells #[] 5)).drew (.slice a l.length capv) l := hv0.keep fun b _ hb => Below.heap_alloc w _ _ hb
  obtain ⟨v', w2, hr, hown, hgb⟩ := run_append_bytes (w.alloc (.cells #[] 5)).drew w.heap.size (.slice (some ⟨w.heap.size, 0, none⟩) 0 0) []
    ⟨rfl, .inr ⟨w.heap.size, 0, #[], rfl, Nat.le_refl _, by unfold World.alloc World.drew; simp, Nat.le_refl _, by unfold maxLen; omega, rfl, rfl⟩⟩ F (.slice a l.length capv) l hW (by simp; omega) (by simp)
  rw [List.nil_append] at hown
  have hby : Bytes (fun b => w.heap.size ≤ b ∧ b < w2.heap.size) w2 v' l := Bytes.of_owns hown _ (fun k h1 h2 => ⟨h1, h2⟩)
  obtain ⟨g, cp, rfl, -⟩ := ownsRow_cells hown (by omega)
  have hk2 : Below w.heap.size w w2 := ((Below.refl _ _).alloc (Nat.le_refl _) _).drew.grown hgb (by simp) (fun k hk => by have hsz : w.drew.heap.size = w.heap.size := rfl; simp [Value.ownBlock] at hk; omega)
  have hb2 := hb.keep (hk2.block K.d hlt)
  have hL2 := hL.keep (hk2.block K.bs hltb)
  have cL := hL2.cell i
  have fL := hL2.free i
  have hiL : i < L.length := by omega
  rw [List.getElem?_eq_getElem hiL] at cL
  have hb3 := hb2.set_other (a := ⟨K.bs, i, none⟩) (.slice (some ⟨g, 0, none⟩) l.length cp) h1
  have hL3 := hL2.set i (.slice (some ⟨g, 0, none⟩) l.length cp)
  have c5 := hb3.cell 5
  have f5 := hb3.free 5
  simp at c5
  generalize hl2 : l.length = ln at *
  obtain rfl : ln = 64 := hl
  have HL := Lib.hid hl2; clear hl2
  have hn0 : (i : Int) < (M.S.length : Int) := by omega
  have hn2 : M.S.length ≤ 9223372036854775807 := by omega
  have H2 := Lib.hid h2; have Hs := Lib.hid hs; have Hf := Lib.hid hf; have H5 := Lib.hid h5; have H6 := Lib.hid h6; have Hft := Lib.hid hft; have Hdn := Lib.hid hdn; have HltA := Lib.hid hltA
  have k1 : LaterF (fun b => b = K.bs ∨ w.heap.size ≤ b) (w.alloc (.cells #[] 5)).drew w2 := ⟨hgb.os, hgb.tape, hgb.output, hgb.size, fun k hk hn => hgb.block k hk (fun e => hn (.inr (by simp [Value.ownBlock] at e; omega)))⟩
  have Hby := Lib.hid hby; clear hby
  have k2 : LaterF (fun b => b = K.bs ∨ w.heap.size ≤ b) w2 (w2.setCell ⟨K.bs, i, none⟩ (.slice (some ⟨g, 0, none⟩) 64 cp)) := (Only.refl _ _).setCell (.inl (.inl rfl)) _
  clear h2 hs hf h5 h6 hft hdn hltA hgb hW
  have Hown := Lib.hid hown; clear hown
  have k0 : LaterF (fun b => b = K.bs ∨ w.heap.size ≤ b) w.drew (w.alloc (.cells #[] 5)).drew := LaterF.of_below (kept_alloc w.drew (.cells #[] 5))
  go_enter Tryd.func35, Tryd.ntmps35
  go_wp2_with fail
  have q0 : ∀ w', LaterF (fun b => b = K.bs ∨ w.heap.size ≤ b) w.drew w' → w'.cell? ⟨K.d, 0, none⟩ = some (.slice (some ⟨K.bs, 0, none⟩) M.S.length cap) := fun w' hh => by
    rw [World.cell?_of_block (w := w) (a := ⟨K.d, 0, none⟩) (hh.block K.d hlt (fun e => e.elim h1 (fun e => absurd hlt (by omega))))]; exact c0
  refine wp_region_can (LaterF (fun b => b = K.bs ∨ w.heap.size ≤ b)) [(0, true), (1, true), (2, true), (3, true), (4, true), (6, true), (5, false), (7, false), (8, true), (9, false)] (by kernel_rfl) (by kernel_rfl) (laterF_refl _) (laterF_trans _) ?_
  repeat (first
    | (refine can_yes (v := ?_) rfl (wanted_none rfl) (fun w' hC => ?_) (fun K hK => ?_); rotate_left; (focus (go_simp; first | done | exact rfl)); go_simp; refine hK _ ?_; clear hK K)
    | (refine can_guard rfl (fun A B hA hB => ?_); go_simp; first | (refine hA ⟨?_, fun w' hC => ?_, fun K hK => ?_⟩; rotate_left; (focus (go_simp; first | done | exact rfl)); go_simp; refine hK _ ?_; clear hK K hA hB A B) | (refine hB (fun K hK => ?_); go_simp; refine hK _ ?_; clear hK K hA hB A B))
    | (refine can_guard_go rfl (fun A B hA hB => ?_); go_simp; refine hB (fun K hK => ?_); go_simp; refine hK _ ?_; clear hK K hA hB A B))
  refine can_go rfl rfl (fun KK hK => ?_)
  go_simp
  refine hK _ _ ?_
  clear hK KK
  go_simp
  repeat (first
    | (refine can_yes (v := ?_) rfl (wanted_none rfl) (fun w' hC => ?_) (fun K hK => ?_); rotate_left; (focus (go_simp; first | done | exact rfl)); go_simp; refine hK _ ?_; clear hK K)
    | (refine can_guard rfl (fun A B hA hB => ?_); go_simp; first | (refine hA ⟨?_, fun w' hC => ?_, fun K hK => ?_⟩; rotate_left; (focus (go_simp; first | done | exact rfl)); go_simp; refine hK _ ?_; clear hK K hA hB A B) | (refine hB (fun K hK => ?_); go_simp; refine hK _ ?_; clear hK K hA hB A B))
    | (refine can_guard_go rfl (fun A B hA hB => ?_); go_simp; refine hB (fun K hK => ?_); go_simp; refine hK _ ?_; clear hK K hA hB A B))
  refine can_go rfl rfl (fun KK hK => ?_)
  go_simp
  refine hK _ _ ?_
  clear hK KK
  go_simp
  repeat (first
    | (refine can_yes (v := ?_) rfl (wanted_none rfl) (fun w' hC => ?_) (fun K hK => ?_); rotate_left; (focus (go_simp; first | done | exact rfl)); go_simp; refine hK _ ?_; clear hK K)
    | (refine can_guard rfl (fun A B hA hB => ?_); go_simp; first | (refine hA ⟨?_, fun w' hC => ?_, fun K hK => ?_⟩; rotate_left; (focus (go_simp; first | done | exact rfl)); go_simp; refine hK _ ?_; clear hK K hA hB A B) | (refine hB (fun K hK => ?_); go_simp; refine hK _ ?_; clear hK K hA hB A B))
    | (refine can_guard_go rfl (fun A B hA hB => ?_); go_simp; refine hB (fun K hK => ?_); go_simp; refine hK _ ?_; clear hK K hA hB A B))
  refine can_go rfl rfl (fun KK hK => ?_)
  go_simp
  refine hK _ _ ?_
  clear hK KK
  go_simp
  repeat (first
    | (refine can_yes (v := ?_) rfl (wanted_none rfl) (fun w' hC => ?_) (fun K hK => ?_); rotate_left; (focus (go_simp; first | done | exact rfl)); go_simp; refine hK _ ?_; clear hK K)
    | (refine can_guard rfl (fun A B hA hB => ?_); go_simp; first | (refine hA ⟨?_, fun w' hC => ?_, fun K hK => ?_⟩; rotate_left; (focus (go_simp; first | done | exact rfl)); go_simp; refine hK _ ?_; clear hK K hA hB A B) | (refine hB (fun K hK => ?_); go_simp; refine hK _ ?_; clear hK K hA hB A B))
    | (refine can_guard_go rfl (fun A B hA hB => ?_); go_simp; refine hB (fun K hK => ?_); go_simp; refine hK _ ?_; clear hK K hA hB A B))
  refine can_nil ?_
  go_simp
  go_wp2_with fail
  go_ret
  have hL := HL.out
  have h2 := H2.out
  have ho : Only K.foot w ((w2.setCell ⟨K.bs, i, none⟩ (.slice (some ⟨g, 0, none⟩) 64 cp)).setCell ⟨K.d, 5, none⟩ (.int .i64 (M.writes + 1))) := ((Only.of_below hk2).setCell (.inl (.inr rfl)) _).setCell (.inl (.inl rfl)) _
  have ho2 : Only K.foot w2 ((w2.setCell ⟨K.bs, i, none⟩ (.slice (some ⟨g, 0, none⟩) 64 cp)).setCell ⟨K.d, 5, none⟩ (.int .i64 (M.writes + 1))) := ((Only.refl _ _).setCell (.inl (.inr rfl)) _).setCell (.inl (.inl rfl)) _
  have hb4 := hb3.set 5 (.int .i64 (M.writes + 1))
  have hL4 := hL3.set_other (a := ⟨K.d, 5, none⟩) (.int .i64 (M.writes + 1)) (Ne.symm h1)
  generalize ((w2.setCell ⟨K.bs, i, none⟩ (.slice (some ⟨g, 0, none⟩) 64 cp)).setCell ⟨K.d, 5, none⟩ (.int .i64 (M.writes + 1))) = wF at *
  refine ⟨rfl, ⟨h1, ?_, by simpa using h3, ⟨cap, after, tv, by simpa using hc, hm, by simpa [RK.grow, Hdn.out, Hft.out] using hb4, ⟨_, hL4, by simpa using hLl, ?_⟩, ⟨ct, ?_, hcl, fun k t hh => Hf.out k t hh⟩, ha⟩, ?_, H6.out⟩, ho⟩
  · rintro b (hR | ⟨hR, hR2⟩)
    · exact ⟨(h2 b hR).1, (h2 b hR).2.1, Nat.lt_of_lt_of_le (h2 b hR).2.2 ho.size⟩
    · exact ⟨fun e => by simp [RK.grow] at e; omega, fun e => by simp [RK.grow] at e; omega, hR2⟩
  · intro j hj
    simp at hj
    by_cases hji : i = j
    · subst hji
      refine ⟨_, by rw [List.getElem?_set_self (by omega)], ?_⟩
      simp only [List.getElem_set_self]
      refine (Hby.out.keep (w' := wF) fun b hb' hlt' => ho2.block b hlt' (by rintro (e | e) <;> omega)).mono fun b hb' => .inr ⟨hb'.1, Nat.lt_of_lt_of_le hb'.2 ho2.size⟩
    · obtain ⟨v, hv, hbv⟩ := Hs.out j (by omega)
      refine ⟨v, by rw [List.getElem?_set_ne hji]; exact hv, ?_⟩
      simp only [List.getElem_set_ne hji]
      exact (hbv.keep (w' := wF) fun b hR hlt' => ho.block b hlt' (by have := h2 b hR; rintro (e | e) <;> simp_all)).mono fun b hR => .inl hR
  · exact (hct.keep (w' := wF) fun b hR hlt' => ho.block b hlt' (by have := h2 b hR; rintro (e | e) <;> simp_all)).mono fun b hR => .inl hR
  · intro s hs'
    rcases List.mem_or_eq_of_mem_set hs' with hs' | rfl
    · exact H5.out s hs'
    · exact hL
end Go.Proofs.YtmimplmeccoahaaDoor
/- The reference disk: Write with a fault. -/
namespace Go.Proofs.YtmimplmeccoahaaDoor
open Go.RowKit
set_option linter.unusedVariables false
set_option maxRecDepth 20000
attribute [local go_sem ↓] seal_append
attribute [local go_sem] opC upC

theorem refWrite_zero (w : World) (K : RK) (M : MD) (h : RefAt w K M) (t : List UInt8) (hft : M.fault = some (0, t)) (i : Nat) (hi : i < M.S.length) (hdn : M.down = false) (a : Option Addr) (cap' : Nat) :
    Calls Tryd.prog 35 #[.pointer (some ⟨K.d, 0, none⟩), .int .i64 (i : Int), .slice a 64 cap'] w fun e w' => e = .returned (.int .i64 341) ∧
      RefAt w' K { M with S := M.S.set i t, fault := none, down := true } ∧ Only K.foot w w' ∧ w'.heap.size = w.heap.size := by
  obtain ⟨h1, h2, h3, ⟨cap, after, tv, hc, hm, hb, ⟨L, hL, hLl, hs⟩, ⟨ct, hct, hcl, hf⟩, ha⟩, h5, h6⟩ := h
  rw [hdn, hft] at hb
  obtain ⟨rfl, rfl⟩ := hf 0 t hft
  have hct0 := hct
  obtain ⟨ta, tc, rfl, htc, htm, -, -⟩ := hct
  have hlt := hb.lt
  have hltb := hL.lt
  have c0 := hb.cell 0
  have c1 := hb.cell 1
  have c2 := hb.cell 2
  have c3 := hb.cell 3
  have c4 := hb.cell 4
  simp at c0 c1 c2 c3 c4
  have hiL : i < L.length := by omega
  have cL := hL.cell i
  have fL := hL.free i
  rw [List.getElem?_eq_getElem hiL] at cL
  have hn0 : (i : Int) < (M.S.length : Int) := by omega
  have hn2 : M.S.length ≤ 9223372036854775807 := by omega
  have H2 := Lib.hid h2; have Hs := Lib.hid hs; have Hf := Lib.hid hf; have H5 := Lib.hid h5; have H6 := Lib.hid h6; have Hft := Lib.hid hft; have Hdn := Lib.hid hdn
  clear h2 hs hf h5 h6 hft hdn
  have hb3 := hb.set_other (a := ⟨K.bs, i, none⟩) (.slice ta ct.length tc) h1
  have hL3 := hL.set i (.slice ta ct.length tc)
  have f2 := hb3.free 2
  have f1 := (hb3.set 2 (.bool false)).free 1
  have hb4 := (hb3.set 2 (.bool false)).set 1 (.bool true)
  have hL4 := (hL3.set_other (a := ⟨K.d, 2, none⟩) (.bool false) (Ne.symm h1)).set_other (a := ⟨K.d, 1, none⟩) (.bool true) (Ne.symm h1)
  go_enter Tryd.func35, Tryd.ntmps35
  go_wp2_with fail
  go_still_tail 10, (by kernel_rfl)
  change wpList _ _ _ _ _ w.drew
  go_wp2_with fail
  go_ret
  have h2 := H2.out
  have ho : Only K.foot w (((w.setCell ⟨K.bs, i, none⟩ (.slice ta ct.length tc)).setCell ⟨K.d, 2, none⟩ (.bool false)).setCell ⟨K.d, 1, none⟩ (.bool true)) := (((Only.refl _ _).setCell (.inl (.inr rfl)) _).setCell (.inl (.inl rfl)) _).setCell (.inl (.inl rfl)) _
  have hsz : (((w.setCell ⟨K.bs, i, none⟩ (.slice ta ct.length tc)).setCell ⟨K.d, 2, none⟩ (.bool false)).setCell ⟨K.d, 1, none⟩ (.bool true)).heap.size = w.heap.size := by simp [World.setCell]
  refine ⟨rfl, ⟨h1, ?_, by simpa using h3, ⟨cap, 0, _, by simpa using hc, hm, by simpa using hb4.drew, ⟨_, hL4.drew, by simpa using hLl, ?_⟩, ⟨ct, ?_, hcl, nofun⟩, by omega⟩, ?_, nofun⟩, ho.drew, hsz⟩
  · intro b hR
    exact ⟨(h2 b hR).1, (h2 b hR).2.1, Nat.lt_of_lt_of_le (h2 b hR).2.2 ho.size⟩
  · intro j hj
    simp at hj
    by_cases hji : i = j
    · subst hji
      refine ⟨_, by rw [List.getElem?_set_self (by omega)], ?_⟩
      simp only [List.getElem_set_self]
      exact hct0.keep fun b hR hlt' => ho.block b hlt' (by have := h2 b hR; rintro (e | e) <;> simp_all)
    · obtain ⟨v, hv, hbv⟩ := Hs.out j (by omega)
      refine ⟨v, by rw [List.getElem?_set_ne hji]; exact hv, ?_⟩
      simp only [List.getElem_set_ne hji]
      exact hbv.keep fun b hR hlt' => ho.block b hlt' (by have := h2 b hR; rintro (e | e) <;> simp_all)
  · exact hct0.keep fun b hR hlt' => ho.block b hlt' (by have := h2 b hR; rintro (e | e) <;> simp_all)
  · intro s hs'
    rcases List.mem_or_eq_of_mem_set hs' with hs' | rfl
    · exact H5.out s hs'
    · exact (H6.out 0 _ Hft.out).1
end Go.Proofs.YtmimplmeccoahaaDoor
/- The reference disk: Write with a fault that strikes later. -/
namespace Go.Proofs.YtmimplmeccoahaaDoor
open Go.RowKit
set_option linter.unusedVariables false
set_option maxRecDepth 20000
attribute [local go_sem ↓] seal_append
attribute [local go_sem] opC upC

theorem RefAt.tick {w : World} {K : RK} {M : MD} (h : RefAt w K M) {n : Nat} {t : List UInt8} (hft : M.fault = some (n + 1, t)) :
    RefAt (w.setCell ⟨K.d, 3, none⟩ (.int .i64 (n : Int))) K { M with fault := some (n, t) } := by
  obtain ⟨h1, h2, h3, ⟨cap, after, tv, hc, hm, hb, ⟨L, hL, hLl, hs⟩, ⟨ct, hct, hcl, hf⟩, ha⟩, h5, h6⟩ := h
  rw [hft] at hb
  obtain ⟨rfl, rfl⟩ := hf _ t hft
  have ho : ∀ b, K.R b → (w.setCell ⟨K.d, 3, none⟩ (.int .i64 (n : Int))).heap[b]? = w.heap[b]? := fun b hb => Below.heap_setCell w ⟨K.d, 3, none⟩ _ b (h2 b hb).1
  refine ⟨h1, fun b hR => ⟨(h2 b hR).1, (h2 b hR).2.1, by simpa [World.setCell] using (h2 b hR).2.2⟩, h3, ⟨cap, n, tv, hc, hm, by simpa using hb.set 3 (.int .i64 (n : Int)), ⟨L, hL.set_other (a := ⟨K.d, 3, none⟩) _ (Ne.symm h1), hLl, fun i hi => ?_⟩, ⟨ct, hct.keep fun b hR _ => ho b hR, hcl, ?_⟩, by have := (h6 _ _ hft).2; omega⟩, h5, ?_⟩
  · obtain ⟨v, hv, hbv⟩ := hs i hi
    exact ⟨v, hv, hbv.keep fun b hR _ => ho b hR⟩
  · rintro k t' hh
    simp at hh
    obtain ⟨rfl, rfl⟩ := hh
    exact ⟨rfl, rfl⟩
  · rintro k t' hh
    simp at hh
    obtain ⟨rfl, rfl⟩ := hh
    have := h6 _ _ hft
    exact ⟨this.1, by omega⟩

theorem RefAt.cells {w : World} {K : RK} {M : MD} (h : RefAt w K M) {n : Nat} {t : List UInt8} (hft : M.fault = some (n, t)) (hdn : M.down = false) :
    ∃ cap, M.S.length ≤ cap ∧ w.cell? ⟨K.d, 0, none⟩ = some (.slice (some ⟨K.bs, 0, none⟩) M.S.length cap) ∧ w.cell? ⟨K.d, 1, none⟩ = some (.bool false) ∧ w.cell? ⟨K.d, 2, none⟩ = some (.bool true) ∧ w.cell? ⟨K.d, 3, none⟩ = some (.int .i64 (n : Int)) ∧ w.frozen? ⟨K.d, 3, none⟩ = false := by
  obtain ⟨cap, after, tv, hc, hm, hb, -, ⟨ct, -, -, hf⟩, -⟩ := h.main
  rw [hdn, hft] at hb
  obtain ⟨rfl, rfl⟩ := hf _ t hft
  exact ⟨cap, hc, by simpa using hb.cell 0, by simpa using hb.cell 1, by simpa using hb.cell 2, by simpa using hb.cell 3, by simpa using hb.free 3⟩

set_option maxRecDepth 100000 in
set_option maxHeartbeats 1000000 in
theorem refWrite_succ (w0 : World) (K : RK) (M0 : MD) (h0 : RefAt w0 K M0) (n : Nat) (t : List UInt8) (hft0 : M0.fault = some (n + 1, t)) (i : Nat) (hi : i < M0.S.length) (hdn0 : M0.down = false) (hw00 : M0.writes < 4611686018427387904) (F : Blks) (v : Value) (l : List UInt8) (hv00 : Bytes F w0 v l) (hl : l.length = 64) (hF : ∀ b, F b → b ≠ K.d) :
    Calls Tryd.prog 35 #[.pointer (some ⟨K.d, 0, none⟩), .int .i64 (i : Int), v] w0 fun e w' => e = .returned (.int .i64 0) ∧
      RefAt w' (K.grow w0.heap.size w'.heap.size) { M0 with S := M0.S.set i l, fault := some (n, t), writes := M0.writes + 1 } ∧ Only K.foot w0 w' := by
  obtain ⟨cap0, hcap0, e0, e1, e2, e3, e4⟩ := h0.cells hft0 hdn0
  simp at e3
  have h := h0.tick hft0
  have hnmax : n + 1 ≤ 9223372036854775807 := (h0.f64 _ _ hft0).2
  have hv : Bytes F (w0.setCell ⟨K.d, 3, none⟩ (.int .i64 (n : Int))) v l := hv00.keep fun b hb _ => Below.heap_setCell w0 ⟨K.d, 3, none⟩ _ b (hF b hb)
  have hsz0 : (w0.setCell ⟨K.d, 3, none⟩ (.int .i64 (n : Int))).heap.size = w0.heap.size := by simp [World.setCell]
  have ho0 : Only K.foot w0 (w0.setCell ⟨K.d, 3, none⟩ (.int .i64 (n : Int))) := (Only.refl _ _).setCell (.inl (.inl rfl)) _
  obtain ⟨w, hw0⟩ : ∃ w, w = w0.setCell ⟨K.d, 3, none⟩ (.int .i64 (n : Int)) := ⟨_, rfl⟩
  rw [← hw0] at h hv hsz0 ho0
  have Hw0 := Lib.hid hw0; have Ho0 := Lib.hid ho0; have Hsz0 := Lib.hid hsz0
  clear hw0 ho0 hsz0 hv00 h0
  have hltA := h.lt
  obtain ⟨h1, h2, h3, ⟨cap, after, tv, hc, hm, hb, ⟨L, hL, hLl, hs⟩, ⟨ct, hct, hcl, hf⟩, ha⟩, h5, h6⟩ := h
  dsimp only at h3 hc hb hs hf h5 h6
  rw [hdn0] at hb
  have hv0 := hv
  obtain ⟨a, capv, rfl, hcv, hmv, -, -⟩ := hv
  have hlt := hb.lt
  have hltb := hL.lt
  have c0 := hb.cell 0
  have c1 := hb.cell 1
  have c2 := hb.cell 2
  simp at c0 c1 c2
  have hW : Bytes F (w.alloc (.cells #[] 5)).drew (.slice a l.length capv) l := hv0.keep fun b _ hb => Below.heap_alloc w _ _ hb
  obtain ⟨v', w2, hr, hown, hgb⟩ := run_append_bytes (w.alloc (.cells #[] 5)).drew w.heap.size (.slice (some ⟨w.heap.size, 0, none⟩) 0 0) []
    ⟨rfl, .inr ⟨w.heap.size, 0, #[], rfl, Nat.le_refl _, by unfold World.alloc World.drew; simp, Nat.le_refl _, by unfold maxLen; omega, rfl, rfl⟩⟩ F (.slice a l.length capv) l hW (by simp; omega) (by simp)
  rw [List.nil_append] at hown
  have hby : Bytes (fun b => w.heap.size ≤ b ∧ b < w2.heap.size) w2 v' l := Bytes.of_owns hown _ (fun k h1 h2 => ⟨h1, h2⟩)
  obtain ⟨g, cp, rfl, -⟩ := ownsRow_cells hown (by omega)
  have hk2 : Below w.heap.size w w2 := ((Below.refl _ _).alloc (Nat.le_refl _) _).drew.grown hgb (by simp) (fun k hk => by have hsz : w.drew.heap.size = w.heap.size := rfl; simp [Value.ownBlock] at hk; omega)
  have hb2 := hb.keep (hk2.block K.d hlt)
  have hL2 := hL.keep (hk2.block K.bs hltb)
  have cL := hL2.cell i
  have fL := hL2.free i
  have hiL : i < L.length := by omega
  rw [List.getElem?_eq_getElem hiL] at cL
  have hb3 := hb2.set_other (a := ⟨K.bs, i, none⟩) (.slice (some ⟨g, 0, none⟩) l.length cp) h1
  have hL3 := hL2.set i (.slice (some ⟨g, 0, none⟩) l.length cp)
  have c5 := hb3.cell 5
  have f5 := hb3.free 5
  simp at c5
  generalize hl2 : l.length = ln at *
  obtain rfl : ln = 64 := hl
  have HL := Lib.hid hl2; clear hl2
  have hn0 : (i : Int) < (M0.S.length : Int) := by omega
  have hn2 : M0.S.length ≤ 9223372036854775807 := by omega
  have H2 := Lib.hid h2; have Hs := Lib.hid hs; have Hf := Lib.hid hf; have H5 := Lib.hid h5; have H6 := Lib.hid h6; have Hft := Lib.hid hft0; have Hdn := Lib.hid hdn0; have HltA := Lib.hid hltA
  have k1 : LaterF (fun b => b = K.bs ∨ w.heap.size ≤ b) (w.alloc (.cells #[] 5)).drew w2 := ⟨hgb.os, hgb.tape, hgb.output, hgb.size, fun k hk hn => hgb.block k hk (fun e => hn (.inr (by simp [Value.ownBlock] at e; omega)))⟩
  have Hby := Lib.hid hby; clear hby
  have k2 : LaterF (fun b => b = K.bs ∨ w.heap.size ≤ b) w2 (w2.setCell ⟨K.bs, i, none⟩ (.slice (some ⟨g, 0, none⟩) 64 cp)) := (Only.refl _ _).setCell (.inl (.inl rfl)) _
  clear h2 hs hf h5 h6 hft0 hdn0 hltA hgb hW
  have Hown := Lib.hid hown; clear hown
  have k0 : LaterF (fun b => b = K.bs ∨ w.heap.size ≤ b) w.drew (w.alloc (.cells #[] 5)).drew := LaterF.of_below (kept_alloc w.drew (.cells #[] 5))
  go_enter Tryd.func35, Tryd.ntmps35
  have hbn : ((n : Int) + 1 == 0) = false := beq_eq_false_iff_ne.2 (by omega)
  go_wp2_with fail
  rw [Hw0.out.symm]
  have q0 : ∀ w', LaterF (fun b => b = K.bs ∨ w.heap.size ≤ b) w.drew w' → w'.cell? ⟨K.d, 0, none⟩ = some (.slice (some ⟨K.bs, 0, none⟩) M0.S.length cap) := fun w' hh => by
    rw [World.cell?_of_block (w := w) (a := ⟨K.d, 0, none⟩) (hh.block K.d hlt (fun e => e.elim h1 (fun e => absurd hlt (by omega))))]; exact c0
  refine wp_region_can (LaterF (fun b => b = K.bs ∨ w.heap.size ≤ b)) [(0, true), (1, true), (2, true), (3, true), (4, true), (6, true), (5, false), (7, false), (8, true), (9, false)] (by kernel_rfl) (by kernel_rfl) (laterF_refl _) (laterF_trans _) ?_
  repeat (first
    | (refine can_yes (v := ?_) rfl (wanted_none rfl) (fun w' hC => ?_) (fun K hK => ?_); rotate_left; (focus (go_simp; first | done | exact rfl)); go_simp; refine hK _ ?_; clear hK K)
    | (refine can_guard rfl (fun A B hA hB => ?_); go_simp; first | (refine hA ⟨?_, fun w' hC => ?_, fun K hK => ?_⟩; rotate_left; (focus (go_simp; first | done | exact rfl)); go_simp; refine hK _ ?_; clear hK K hA hB A B) | (refine hB (fun K hK => ?_); go_simp; refine hK _ ?_; clear hK K hA hB A B))
    | (refine can_guard_go rfl (fun A B hA hB => ?_); go_simp; refine hB (fun K hK => ?_); go_simp; refine hK _ ?_; clear hK K hA hB A B))
  refine can_go rfl rfl (fun KK hK => ?_)
  go_simp
  refine hK _ _ ?_
  clear hK KK
  go_simp
  repeat (first
    | (refine can_yes (v := ?_) rfl (wanted_none rfl) (fun w' hC => ?_) (fun K hK => ?_); rotate_left; (focus (go_simp; first | done | exact rfl)); go_simp; refine hK _ ?_; clear hK K)
    | (refine can_guard rfl (fun A B hA hB => ?_); go_simp; first | (refine hA ⟨?_, fun w' hC => ?_, fun K hK => ?_⟩; rotate_left; (focus (go_simp; first | done | exact rfl)); go_simp; refine hK _ ?_; clear hK K hA hB A B) | (refine hB (fun K hK => ?_); go_simp; refine hK _ ?_; clear hK K hA hB A B))
    | (refine can_guard_go rfl (fun A B hA hB => ?_); go_simp; refine hB (fun K hK => ?_); go_simp; refine hK _ ?_; clear hK K hA hB A B))
  refine can_go rfl rfl (fun KK hK => ?_)
  go_simp
  refine hK _ _ ?_
  clear hK KK
  go_simp
  repeat (first
    | (refine can_yes (v := ?_) rfl (wanted_none rfl) (fun w' hC => ?_) (fun K hK => ?_); rotate_left; (focus (go_simp; first | done | exact rfl)); go_simp; refine hK _ ?_; clear hK K)
    | (refine can_guard rfl (fun A B hA hB => ?_); go_simp; first | (refine hA ⟨?_, fun w' hC => ?_, fun K hK => ?_⟩; rotate_left; (focus (go_simp; first | done | exact rfl)); go_simp; refine hK _ ?_; clear hK K hA hB A B) | (refine hB (fun K hK => ?_); go_simp; refine hK _ ?_; clear hK K hA hB A B))
    | (refine can_guard_go rfl (fun A B hA hB => ?_); go_simp; refine hB (fun K hK => ?_); go_simp; refine hK _ ?_; clear hK K hA hB A B))
  refine can_go rfl rfl (fun KK hK => ?_)
  go_simp
  refine hK _ _ ?_
  clear hK KK
  go_simp
  repeat (first
    | (refine can_yes (v := ?_) rfl (wanted_none rfl) (fun w' hC => ?_) (fun K hK => ?_); rotate_left; (focus (go_simp; first | done | exact rfl)); go_simp; refine hK _ ?_; clear hK K)
    | (refine can_guard rfl (fun A B hA hB => ?_); go_simp; first | (refine hA ⟨?_, fun w' hC => ?_, fun K hK => ?_⟩; rotate_left; (focus (go_simp; first | done | exact rfl)); go_simp; refine hK _ ?_; clear hK K hA hB A B) | (refine hB (fun K hK => ?_); go_simp; refine hK _ ?_; clear hK K hA hB A B))
    | (refine can_guard_go rfl (fun A B hA hB => ?_); go_simp; refine hB (fun K hK => ?_); go_simp; refine hK _ ?_; clear hK K hA hB A B))
  refine can_nil ?_
  go_simp
  go_wp2_with fail
  go_ret
  have hL := HL.out
  have h2 := H2.out
  have ho : Only K.foot w ((w2.setCell ⟨K.bs, i, none⟩ (.slice (some ⟨g, 0, none⟩) 64 cp)).setCell ⟨K.d, 5, none⟩ (.int .i64 (M0.writes + 1))) := ((Only.of_below hk2).setCell (.inl (.inr rfl)) _).setCell (.inl (.inl rfl)) _
  have ho2 : Only K.foot w2 ((w2.setCell ⟨K.bs, i, none⟩ (.slice (some ⟨g, 0, none⟩) 64 cp)).setCell ⟨K.d, 5, none⟩ (.int .i64 (M0.writes + 1))) := ((Only.refl _ _).setCell (.inl (.inr rfl)) _).setCell (.inl (.inl rfl)) _
  have hb4 := hb3.set 5 (.int .i64 (M0.writes + 1))
  have hL4 := hL3.set_other (a := ⟨K.d, 5, none⟩) (.int .i64 (M0.writes + 1)) (Ne.symm h1)
  generalize ((w2.setCell ⟨K.bs, i, none⟩ (.slice (some ⟨g, 0, none⟩) 64 cp)).setCell ⟨K.d, 5, none⟩ (.int .i64 (M0.writes + 1))) = wF at *
  rw [← Hsz0.out]
  refine ⟨rfl, ⟨h1, ?_, by simpa using h3, ⟨cap, after, tv, by simpa using hc, hm, by simpa [RK.grow, Hdn.out, Hft.out] using hb4, ⟨_, hL4, by simpa using hLl, ?_⟩, ⟨ct, ?_, hcl, fun k t hh => Hf.out k t hh⟩, ha⟩, ?_, H6.out⟩, Ho0.out.trans ho (fun _ hi => .inl hi)⟩
  · rintro b (hR | ⟨hR, hR2⟩)
    · exact ⟨(h2 b hR).1, (h2 b hR).2.1, Nat.lt_of_lt_of_le (h2 b hR).2.2 ho.size⟩
    · exact ⟨fun e => by simp [RK.grow] at e; omega, fun e => by simp [RK.grow] at e; omega, hR2⟩
  · intro j hj
    simp at hj
    by_cases hji : i = j
    · subst hji
      refine ⟨_, by rw [List.getElem?_set_self (by omega)], ?_⟩
      simp only [List.getElem_set_self]
      refine (Hby.out.keep (w' := wF) fun b hb' hlt' => ho2.block b hlt' (by rintro (e | e) <;> omega)).mono fun b hb' => .inr ⟨hb'.1, Nat.lt_of_lt_of_le hb'.2 ho2.size⟩
    · obtain ⟨v, hv, hbv⟩ := Hs.out j (by omega)
      refine ⟨v, by rw [List.getElem?_set_ne hji]; exact hv, ?_⟩
      simp only [List.getElem_set_ne hji]
      exact (hbv.keep (w' := wF) fun b hR hlt' => ho.block b hlt' (by have := h2 b hR; rintro (e | e) <;> simp_all)).mono fun b hR => .inl hR
  · exact (hct.keep (w' := wF) fun b hR hlt' => ho.block b hlt' (by have := h2 b hR; rintro (e | e) <;> simp_all)).mono fun b hR => .inl hR
  · intro s hs'
    rcases List.mem_or_eq_of_mem_set hs' with hs' | rfl
    · exact H5.out s hs'
    · exact hL
end Go.Proofs.YtmimplmeccoahaaDoor
/- The reference disk: Write whole, Fail. -/
namespace Go.Proofs.YtmimplmeccoahaaDoor
open Go.RowKit
set_option linter.unusedVariables false
set_option maxRecDepth 20000
attribute [local go_sem ↓] seal_append
attribute [local go_sem] opC upC

/-- a reference disk somewhere above a block, which may have new bytes -/
def RefIn (w : World) (base d : Nat) (M : MD) : Prop := ∃ K : RK, K.d = d ∧ (∀ b, K.all b → base ≤ b) ∧ RefAt w K M

theorem RefAt.foot_all {K : RK} {b : Nat} (h : K.foot b) : K.all b := by
  rcases h with h | h
  · exact .inl h
  · exact .inr (.inl h)

theorem RK.grow_all {K : RK} {lo hi b : Nat} (h : (K.grow lo hi).all b) : K.all b ∨ (lo ≤ b ∧ b < hi) := by
  rcases h with h | h | h | h
  · exact .inl (.inl h)
  · exact .inl (.inr (.inl h))
  · exact .inl (.inr (.inr h))
  · exact .inr h

/-- Write of 64 bytes to a sector that is there, the power being on -/
theorem refWrite_ok (w : World) (K : RK) (M : MD) (h : RefAt w K M) (i : Nat) (hi : i < M.S.length) (hdn : M.down = false) (hw : M.writes < 4611686018427387904) (F : Blks) (v : Value) (l : List UInt8) (hv : Bytes F w v l) (hl : l.length = 64) (hF : ∀ b, F b → b ≠ K.d) :
    Calls Tryd.prog 35 #[.pointer (some ⟨K.d, 0, none⟩), .int .i64 (i : Int), v] w fun e w' => e = .returned (.int .i64 (M.write i l).2) ∧
      (∃ K', K'.d = K.d ∧ (∀ b, K'.all b → K.all b ∨ w.heap.size ≤ b) ∧ RefAt w' K' (M.write i l).1) ∧ Only K.foot w w' := by
  cases hft : M.fault with
  | none =>
    refine (refWrite_none w K M h hft i hi hdn hw F v l hv hl).mono ?_
    rintro e w' ⟨rfl, hd, ho⟩
    have e1 : M.write i l = ({ M with S := M.S.set i l, writes := M.writes + 1 }, 0) := by simp [MD.write, hft]
    rw [e1]
    exact ⟨rfl, ⟨K.grow w.heap.size w'.heap.size, rfl, fun b hb => (RK.grow_all hb).imp id (·.1), hd⟩, ho⟩
  | some p =>
    obtain ⟨n, t⟩ := p
    cases n with
    | zero =>
      obtain ⟨a, cap, rfl, -⟩ := hv
      rw [hl]
      refine (refWrite_zero w K M h t hft i hi hdn a cap).mono ?_
      rintro e w' ⟨rfl, hd, ho, hs⟩
      have e1 : M.write i l = ({ M with S := M.S.set i t, fault := none, down := true }, 341) := by simp [MD.write, hft]
      rw [e1]
      exact ⟨rfl, ⟨K, rfl, fun _ hb => .inl hb, hd⟩, ho⟩
    | succ n =>
      refine (refWrite_succ w K M h n t hft i hi hdn hw F v l hv hl hF).mono ?_
      rintro e w' ⟨rfl, hd, ho⟩
      have e1 : M.write i l = ({ M with S := M.S.set i l, fault := some (n, t), writes := M.writes + 1 }, 0) := by simp [MD.write, hft]
      rw [e1]
      exact ⟨rfl, ⟨K.grow w.heap.size w'.heap.size, rfl, fun b hb => (RK.grow_all hb).imp id (·.1), hd⟩, ho⟩

theorem refFail_err (w : World) (d : Nat) (n : Int) (a : Option Addr) (len cap : Nat) (hlen : len ≤ 9223372036854775807) (hc : n < 0 ∨ len ≠ 64) :
    Calls Tryd.prog 41 #[.pointer (some ⟨d, 0, none⟩), .int .i64 n, .slice a len cap] w fun e w' => e = .returned (.int .i64 (if n < 0 then 6 else 1)) ∧ w = w' := by
  by_cases hn : n < 0
  · go_enter Tryd.func41, Tryd.ntmps41
    go_wp2_with fail
    go_ret
    exact ⟨rfl, rfl⟩
  · have hc' : len ≠ 64 := by omega
    have hb : ((len : Int) != 64) = true := bne_iff_ne.2 (by omega)
    have hb2 : (len != 64) = true := bne_iff_ne.2 (by omega)
    go_enter Tryd.func41, Tryd.ntmps41
    go_wp2_with fail
    go_ret
    exact ⟨rfl, rfl⟩

theorem refFail_ok (w : World) (K : RK) (M : MD) (h : RefAt w K M) (n : Nat) (hn : n ≤ 9223372036854775807) (F : Blks) (v : Value) (l : List UInt8) (hv : Bytes F w v l) (hl : l.length = 64) (hF : ∀ b, F b → b ≠ K.d) :
    Calls Tryd.prog 41 #[.pointer (some ⟨K.d, 0, none⟩), .int .i64 (n : Int), v] w fun e w' => e = .returned (.int .i64 0) ∧
      (∃ K', K'.d = K.d ∧ (∀ b, K'.all b → K.all b ∨ w.heap.size ≤ b) ∧ RefAt w' K' { M with fault := some (n, l) }) ∧ Only K.foot w w' := by
  obtain ⟨h1, h2, h3, ⟨cap, after, tv, hc, hm, hb, ⟨L, hL, hLl, hs⟩, ⟨ct, hct, hcl, hf⟩, ha⟩, h5, h6⟩ := h
  have hv0 := hv
  obtain ⟨a, capv, rfl, hcv, hmv, -, -⟩ := hv
  have hlt := hb.lt
  have hltb := hL.lt
  have c2 := hb.cell 2
  have f2 := hb.free 2
  have hb2 := hb.set 2 (.bool true)
  have c3 := hb2.cell 3
  have f3 := hb2.free 3
  have hb3 := hb2.set 3 (.int .i64 (n : Int))
  have hL3 := (hL.set_other (a := ⟨K.d, 2, none⟩) (.bool true) (Ne.symm h1)).set_other (a := ⟨K.d, 3, none⟩) (.int .i64 (n : Int)) (Ne.symm h1)
  simp at c2 c3
  have hF0 : Bytes F ((w.setCell ⟨K.d, 2, none⟩ (.bool true)).setCell ⟨K.d, 3, none⟩ (.int .i64 (n : Int))) (.slice a l.length capv) l := hv0.keep fun b hb _ => by
    rw [Below.heap_setCell _ ⟨K.d, 3, none⟩ _ b (hF b hb), Below.heap_setCell _ ⟨K.d, 2, none⟩ _ b (hF b hb)]
  have ho3 : Only K.foot w ((w.setCell ⟨K.d, 2, none⟩ (.bool true)).setCell ⟨K.d, 3, none⟩ (.int .i64 (n : Int))) := ((Only.refl _ _).setCell (.inl (.inl rfl)) _).setCell (.inl (.inl rfl)) _
  have hs3 : ((w.setCell ⟨K.d, 2, none⟩ (.bool true)).setCell ⟨K.d, 3, none⟩ (.int .i64 (n : Int))).heap.size = w.heap.size := by simp [World.setCell]
  generalize hw3 : (w.setCell ⟨K.d, 2, none⟩ (.bool true)).setCell ⟨K.d, 3, none⟩ (.int .i64 (n : Int)) = w3 at *
  have Hw3 := Lib.hid hw3; clear hw3
  obtain ⟨v', w4, hr, hown, hgb⟩ := run_append_bytes (w3.alloc (.cells #[] 5)) w3.heap.size (.slice (some ⟨w3.heap.size, 0, none⟩) 0 0) []
    ⟨rfl, .inr ⟨w3.heap.size, 0, #[], rfl, Nat.le_refl _, by unfold World.alloc; simp, Nat.le_refl _, by unfold maxLen; omega, rfl, rfl⟩⟩ F (.slice a l.length capv) l (hF0.keep fun b _ hb => Below.heap_alloc _ _ _ hb) (by simp; omega) (by simp)
  rw [List.nil_append] at hown
  obtain ⟨g, cp, rfl, -⟩ := ownsRow_cells hown (by omega)
  have hby : Bytes (fun b => w3.heap.size ≤ b ∧ b < w4.heap.size) w4 (.slice (some ⟨g, 0, none⟩) l.length cp) l := Bytes.of_owns hown _ (fun k h1 h2 => ⟨h1, h2⟩)
  have hk4 : Below w3.heap.size w3 w4 := (kept_alloc _ _).grown hgb (by simp) (fun k hk => by simp [Value.ownBlock] at hk; omega)
  have hb4 := hb3.keep (hk4.block K.d (by omega))
  have hL4 := hL3.keep (hk4.block K.bs (by omega))
  have c4 := hb4.cell 4
  have f4 := hb4.free 4
  simp at c4
  have ho4 : Only K.foot w w4 := ho3.trans (Only.of_below hk4) (fun _ hi => .inl hi)
  have hb5 := hb4.set 4 (.slice (some ⟨g, 0, none⟩) l.length cp)
  have hL5 := hL4.set_other (a := ⟨K.d, 4, none⟩) (.slice (some ⟨g, 0, none⟩) l.length cp) (Ne.symm h1)
  have ho5 : Only K.foot w (w4.setCell ⟨K.d, 4, none⟩ (.slice (some ⟨g, 0, none⟩) l.length cp)) := ho4.setCell (.inl (.inl rfl)) _
  have hby5 : Bytes (fun b => w3.heap.size ≤ b ∧ b < w4.heap.size) (w4.setCell ⟨K.d, 4, none⟩ (.slice (some ⟨g, 0, none⟩) l.length cp)) (.slice (some ⟨g, 0, none⟩) l.length cp) l := hby.keep fun b hb' _ => Below.heap_setCell _ ⟨K.d, 4, none⟩ _ b (by simp; omega)
  have hs5 : (w4.setCell ⟨K.d, 4, none⟩ (.slice (some ⟨g, 0, none⟩) l.length cp)).heap.size = w4.heap.size := by simp [World.setCell]
  have hres : RefAt (w4.setCell ⟨K.d, 4, none⟩ (.slice (some ⟨g, 0, none⟩) l.length cp)) (K.grow w.heap.size w4.heap.size) { M with fault := some (n, l) } := by
    have hRR : ∀ b, K.R b → b < w.heap.size → (w4.setCell ⟨K.d, 4, none⟩ (.slice (some ⟨g, 0, none⟩) l.length cp)).heap[b]? = w.heap[b]? := fun b hR hlt' => ho5.block b hlt' (by have := h2 b hR; rintro (e | e) <;> simp_all)
    refine ⟨h1, ?_, h3, ⟨cap, (n : Int), (.slice (some ⟨g, 0, none⟩) l.length cp), hc, hm, by simpa [RK.grow] using hb5, ⟨L, hL5, hLl, fun i hi => ?_⟩, ⟨l, hby5.mono fun b hb => .inr ⟨by omega, hb.2⟩, by omega, fun k t hh => ?_⟩, by omega⟩, h5, fun k t hh => ?_⟩
    · rintro b (hR | ⟨hR, hR2⟩)
      · exact ⟨(h2 b hR).1, (h2 b hR).2.1, by have := (h2 b hR).2.2; have := hk4.size; omega⟩
      · exact ⟨fun e => by simp [RK.grow] at e; omega, fun e => by simp [RK.grow] at e; omega, by omega⟩
    · obtain ⟨v, hv, hbv⟩ := hs i hi
      exact ⟨v, hv, (hbv.keep hRR).mono fun b hR => .inl hR⟩
    · simp at hh
      obtain ⟨rfl, rfl⟩ := hh
      exact ⟨rfl, rfl⟩
    · simp at hh
      obtain ⟨rfl, rfl⟩ := hh
      exact ⟨hl, hn⟩
  have Hres := Lib.hid hres; have Ho5 := Lib.hid ho5
  clear hres ho5 hby5 hb5 hL5 ho4 hL4 hb4 hk4 hby hown hgb hF0 ho3 hs hct h5 h6 hf h2 hL3 hb3 hb2 hL hb
  rw [hs3] at hr
  rw [← Hw3.out] at hr
  generalize hl2 : l.length = ln at *
  obtain rfl : ln = 64 := hl
  have HL := Lib.hid hl2; clear hl2
  have Hs3 := Lib.hid hs3; have Hs5 := Lib.hid hs5; clear hs3 hs5
  go_enter Tryd.func41, Tryd.ntmps41
  go_wp2_with fail
  go_ret
  exact ⟨rfl, ⟨K.grow w.heap.size w4.heap.size, rfl, fun b hb => (RK.grow_all hb).imp id (·.1), Hres.out⟩, Ho5.out⟩
end Go.Proofs.YtmimplmeccoahaaDoor
/- The reference disk: New. -/
namespace Go.Proofs.YtmimplmeccoahaaDoor
open Go.RowKit
set_option linter.unusedVariables false
set_option maxRecDepth 20000
attribute [local go_sem ↓] seal_append seal_make_bytes
attribute [local go_sem] opC upC

theorem BytesOfOwn {R : Blks} {w : World} {lo : Nat} {v : Value} {S : List (List UInt8)} (h : RowsIn R w lo v S) (h0 : 0 < S.length) :
    ∃ g cap L, v = .slice (some ⟨g, 0, none⟩) S.length cap ∧ lo ≤ g ∧ ¬ R g ∧ S.length ≤ cap ∧ cap ≤ maxLen ∧ Blk w g L 30 ∧ L.length = cap ∧ ∀ i (h : i < S.length), ∃ v, L[i]? = some v ∧ Bytes R w v S[i] := by
  have hno := fun g hg => (h.own (g := g) hg)
  obtain ⟨vals, hown, hv, hR⟩ := h
  rcases hown.2 with ⟨rfl, h1⟩ | ⟨g, cap, cur, rfl, hlo, hb, hc, hm, hs, ht⟩
  · omega
  · refine ⟨g, cap, cur.toList, rfl, hlo, (hno g rfl).2.2, hc, hm, by unfold Blk; simpa using hb, by simpa using hs, fun i hi => ?_⟩
    obtain ⟨x, hx, hbx⟩ := hv i hi
    refine ⟨x, ?_, hbx⟩
    rw [← ht, List.getElem?_take] at hx
    split at hx
    · exact hx
    · cases hx

theorem ref_of_rows {w : World} {R Rt : Blks} {base lo d cap : Nat} {a : Option Addr} {S : List (List UInt8)} {M : MD} {after : Int} {tv : Value} {ct : List UInt8} (hS : M.S = S) (h : RowsIn R w lo (.slice a S.length cap) S) (h0 : 0 < S.length) (hn : S.length ≤ 65536) (h64 : ∀ s ∈ S, s.length = 64)
    (hd : Blk w d [.slice a S.length cap, .bool M.down, .bool M.fault.isSome, .int .i64 after, tv, .int .i64 (M.writes : Int)] 95) (hlo : d < lo) (hbd : base ≤ d) (hR : ∀ b, R b → lo ≤ b) (hRt : ∀ b, Rt b → base ≤ b ∧ b < d)
    (hct : Bytes Rt w tv ct) (hcl : ct.length ≤ 140737488355328) (hf : ∀ k t, M.fault = some (k, t) → after = (k : Int) ∧ ct = t) (ha : -9223372036854775808 ≤ after ∧ after ≤ 9223372036854775807) (h6 : ∀ k t, M.fault = some (k, t) → t.length = 64 ∧ k ≤ 9223372036854775807) :
    ∃ K : RK, K.d = d ∧ (∀ b, K.all b → base ≤ b) ∧ RefAt w K M := by
  obtain ⟨g, cap', L, hv, hlg, hRg, hc, hm, hL, hLl, hel⟩ := BytesOfOwn h h0
  simp at hv
  obtain ⟨rfl, rfl⟩ := hv
  have hRlt : ∀ b, R b → b < w.heap.size := fun b hb => by
    obtain ⟨_, _, _, hR'⟩ := h
    obtain ⟨L, fz, hL⟩ := hR' b hb
    exact lt_of_block hL
  have hdlt := hd.lt
  subst hS
  refine ⟨RK.mk d g (fun b => R b ∨ Rt b), rfl, ?_, ⟨by show d ≠ g; omega, ?_, hn, ⟨cap, after, tv, hc, hm, hd, ⟨L, hL, hLl, fun i hi => ?_⟩, ⟨ct, hct.mono fun b hb => .inr hb, hcl, hf⟩, ha⟩, h64, h6⟩⟩
  · intro b hb
    have hb : b = d ∨ b = g ∨ (R b ∨ Rt b) := hb
    rcases hb with rfl | rfl | hb | hb
    · exact hbd
    · omega
    · have := hR b hb; omega
    · exact (hRt b hb).1
  · rintro b (hb | hb)
    · exact ⟨by show b ≠ d; have := hR b hb; omega, fun e => hRg (show R g from (show b = g from e) ▸ hb), hRlt b hb⟩
    · have := hRt b hb
      exact ⟨by show b ≠ d; omega, by show b ≠ g; omega, by omega⟩
  · obtain ⟨v, hv, hbv⟩ := hel i hi
    exact ⟨v, hv, hbv.mono fun b hb => .inl hb⟩

theorem z64_replicate_succ (k : Nat) : List.replicate k (List.replicate 64 (0 : UInt8)) ++ [List.replicate 64 0] = List.replicate (k + 1) (List.replicate 64 0) := by rw [← List.replicate_succ']

theorem refNew_err (w : World) (n : Int) (h : n < 1 ∨ 65536 < n) :
    Calls Tryd.prog 32 #[.int .i64 n] w fun e w' => e = .returned (.tuple #[.pointer none, .int .i64 6]) ∧ w = w' := by
  by_cases h1 : n < 1
  · go_enter Tryd.func32, Tryd.ntmps32
    go_wp2_with fail
    go_ret2
    exact ⟨rfl, rfl⟩
  · have h2 : 65536 < n := by omega
    go_enter Tryd.func32, Tryd.ntmps32
    go_wp2_with fail
    go_ret2
    exact ⟨rfl, rfl⟩

set_option maxHeartbeats 1000000 in
theorem refNew_ok (w : World) (n : Nat) (h1 : 0 < n) (h2 : n ≤ 65536) :
    Calls Tryd.prog 32 #[.int .i64 (n : Int)] w fun e w' => ∃ K : RK, e = .returned (.tuple #[.pointer (some ⟨K.d, 0, none⟩), .int .i64 0]) ∧ RefAt w' K (MD.fresh n) ∧ Below w.heap.size w w' ∧ (∀ b, K.all b → w.heap.size ≤ b) := by
  have hn1 : 1 ≤ (n : Int) := by omega
  have hn2 : (n : Int) ≤ 65536 := by omega
  have hD := Blk.new w #[.slice none 0 0, .bool false, .bool false, .int .i64 0, .slice none 0 0, .int .i64 0] 95
  have hk1 := kept_alloc w (.cells #[.slice none 0 0, .bool false, .bool false, .int .i64 0, .slice none 0 0, .int .i64 0] 95)
  have HD := Lib.hid hD; clear hD
  go_enter Tryd.func32, Tryd.ntmps32
  go_wp2_with fail
  go_loopw [5] (fun i wr => ∃ (k : Nat) (a : Option Addr) (cap : Nat) (R : Blks), k ≤ n ∧ i = .int .i64 (k : Int) ∧ Blk wr w.heap.size [.slice a k cap, .bool false, .bool false, .int .i64 0, .slice none 0 0, .int .i64 0] 95 ∧
      RowsIn R wr (w.heap.size + 1) (.slice a k cap) (List.replicate k (List.replicate 64 0)) ∧ (∀ b, R b → w.heap.size + 1 ≤ b) ∧ Below w.heap.size w wr) (fun i _ => n - (intOf i).toNat)
  case atStart => exact ⟨0, none, 0, none_, by omega, rfl, HD.out, RowsIn.nil _ _, fun b h => h.elim, hk1⟩
  case round =>
    obtain ⟨k, a, cap, R, hk, rfl, hblk, hrows, hRlo, hbw⟩ := hrel
    clear hk1
    have hszw : w.heap.size < wr.heap.size := hblk.lt
    by_cases hkn : k < n
    · have hknI : (k : Int) < (n : Int) := by omega
      obtain ⟨w1, hmk, hz, hkz⟩ : ∃ w1, (MK 30 (.int .i64 64) (.int .i64 64)).run Tryd.prog wr.drew = .ok (.slice (some ⟨wr.heap.size, 0, none⟩) 64 64) w1 ∧ Blk w1 wr.heap.size (List.replicate 64 (B 0)) 5 ∧ Below wr.heap.size wr.drew w1 := run_make_bytes wr.drew 64 (by omega)
      have hsz1 := hz.lt
      have hx : Bytes (fun b => b = wr.heap.size) w1 (.slice (some ⟨wr.heap.size, 0, none⟩) 64 64) (List.replicate 64 0) := bytes_of_sector hz _ rfl
      have hrows1 : RowsIn R w1 (w.heap.size + 1) (.slice a k cap) (List.replicate k (List.replicate 64 0)) := (hrows.kept (w' := wr.drew) (Below.refl _ _).drew).kept hkz
      obtain ⟨a', cap', w2, hap, hrows2, hg2⟩ := hrows1.append hx (by rintro b rfl; exact ⟨_, _, hz⟩) (by simp; omega) (by have := hkz.size; omega)
      simp only [List.length_replicate, z64_replicate_succ] at hap hrows2
      have hblk1 : Blk w1 w.heap.size _ _ := (hblk.keep (w' := wr.drew) rfl).keep (hkz.block w.heap.size hszw)
      have hob : ∀ q, Value.ownBlock (.slice a k cap) = some q → w.heap.size + 1 ≤ q ∧ q < wr.heap.size ∧ ¬ R q := fun q hq => hrows.own hq
      have hblk2 : Blk w2 w.heap.size [.slice a k cap, .bool false, .bool false, .int .i64 0, .slice none 0 0, .int .i64 0] 95 := (hblk1.alloc _).keep (hg2.block _ (by have := hblk1.lt; simp; omega) (fun e => by have := hob _ e.symm; omega))
      have k0 : LaterF (fun b => w.heap.size < b) wr.drew w1 := LaterF.of_below hkz
      have k1 : LaterF (fun b => w.heap.size < b) w1 (w1.alloc (.cells #[.slice (some ⟨wr.heap.size, 0, none⟩) 64 64] 30)) := LaterF.of_below (kept_alloc _ _)
      have k2 : LaterF (fun b => w.heap.size < b) (w1.alloc (.cells #[.slice (some ⟨wr.heap.size, 0, none⟩) 64 64] 30)) w2 := ⟨hg2.os, hg2.tape, hg2.output, hg2.size, fun q hq hn => hg2.block q hq (fun e => hn (by have := hob _ e.symm; omega))⟩
      have hbw2 : Below w.heap.size w w2 := ((hbw.drew.trans (hkz.mono (show w.heap.size ≤ wr.heap.size from hbw.size))).alloc (by have := hblk1.lt; omega) _).grown hg2 (by simp; have := hblk1.lt; omega) (fun q hq => by have := hob q hq; omega)
      have c0 := hblk2.cell 0
      have f0 := hblk2.free 0
      simp at c0
      have hblk3 := hblk2.set 0 (.slice a' (k + 1) cap')
      have hrows3 : RowsIn _ (w2.setCell ⟨w.heap.size, 0, none⟩ (.slice a' (k + 1) cap')) (w.heap.size + 1) (.slice a' (k + 1) cap') (List.replicate (k + 1) (List.replicate 64 0)) := hrows2.keep fun b hb _ => Below.heap_setCell _ ⟨w.heap.size, 0, none⟩ _ b (by
        rcases hb with hb | hb | hb
        · have := (hrows2.own hb).1; show b ≠ w.heap.size; omega
        · have := hRlo b hb; show b ≠ w.heap.size; omega
        · show b ≠ w.heap.size; omega)
      have Hblk3 := Lib.hid hblk3; have Hrows3 := Lib.hid hrows3; have Hbw2 := Lib.hid hbw2
      clear hblk3 hrows3 hbw2 hrows2 hblk2 hrows1 hx hz hg2 hkz hblk1 hrows
      go_wp2_with fail
      have q0 : ∀ w', LaterF (fun b => w.heap.size < b) wr.drew w' → w'.cell? ⟨w.heap.size, 0, none⟩ = some (.slice a k cap) := fun w' hh => by
        rw [World.cell?_of_block (w := wr.drew) (a := ⟨w.heap.size, 0, none⟩) (hh.block w.heap.size hszw (by omega))]; simpa using (hblk.keep (w' := wr.drew) rfl).cell 0
      refine wp_region_canL (LaterF (fun b => w.heap.size < b)) 10 [(0, true), (1, true), (2, true), (3, true), (4, true), (5, false), (6, false), (7, false), (8, true), (9, true), (10, false)] (by kernel_rfl) (by kernel_rfl) (by kernel_rfl) (laterF_refl _) (laterF_trans _) ?_
      repeat (first
        | (refine canL_yes (v := ?_) rfl (wanted_none rfl) (fun w' hC => ?_) (fun K hK => ?_); rotate_left; (focus (go_simp; first | done | exact rfl)); go_simp; refine hK _ ?_; clear hK K)
        | (refine canL_guard rfl (fun A B hA hB => ?_); go_simp; first | (refine hA ⟨?_, fun w' hC => ?_, fun K hK => ?_⟩; rotate_left; (focus (go_simp; first | done | exact rfl)); go_simp; refine hK _ ?_; clear hK K hA hB A B) | (refine hB (fun K hK => ?_); go_simp; refine hK _ ?_; clear hK K hA hB A B))
        | (refine canL_guard_go rfl (fun A B hA hB => ?_); go_simp; refine hB (fun K hK => ?_); go_simp; refine hK _ ?_; clear hK K hA hB A B))
      refine canL_go rfl rfl (fun KK hK => ?_)
      go_simp
      refine hK _ _ ?_
      clear hK KK
      go_simp
      refine canL_go rfl rfl (fun KK hK => ?_)
      go_simp
      refine hK _ _ ?_
      clear hK KK
      go_simp
      refine canL_go rfl rfl (fun KK hK => ?_)
      go_simp
      refine hK _ _ ?_
      clear hK KK
      go_simp
      repeat (first
        | (refine canL_yes (v := ?_) rfl (wanted_none rfl) (fun w' hC => ?_) (fun K hK => ?_); rotate_left; (focus (go_simp; first | done | exact rfl)); go_simp; refine hK _ ?_; clear hK K)
        | (refine canL_guard rfl (fun A B hA hB => ?_); go_simp; first | (refine hA ⟨?_, fun w' hC => ?_, fun K hK => ?_⟩; rotate_left; (focus (go_simp; first | done | exact rfl)); go_simp; refine hK _ ?_; clear hK K hA hB A B) | (refine hB (fun K hK => ?_); go_simp; refine hK _ ?_; clear hK K hA hB A B))
        | (refine canL_guard_go rfl (fun A B hA hB => ?_); go_simp; refine hB (fun K hK => ?_); go_simp; refine hK _ ?_; clear hK K hA hB A B))
      refine canL_last rfl rfl rfl (fun KK hK => ?_)
      go_simp
      refine hK _ _ ?_
      clear hK KK
      go_simp
      refine canL_nil ?_
      go_wp2_with fail
      go_roundw
      case rel => exact ⟨k + 1, a', cap', _, by omega, by go_num, by simpa using Hblk3.out, Hrows3.out, (by
        rintro b (hb | hb)
        · exact hRlo b hb
        · omega), Hbw2.out.setCell (Nat.le_refl _) _⟩
      case measure => simp [intOf]; omega
    · have hknI : ¬ (k : Int) < (n : Int) := by omega
      obtain rfl : k = n := by omega
      go_wp2_with fail
      go_ret2
      have hl : (List.replicate k (List.replicate 64 (0 : UInt8))).length = k := by simp
      obtain ⟨K, hKd, hKa, hK⟩ := ref_of_rows (M := MD.fresh k) (w := wr) (Rt := none_) (base := w.heap.size) (lo := w.heap.size + 1) (d := w.heap.size) (S := List.replicate k (List.replicate 64 0)) (after := 0) (tv := .slice none 0 0) (ct := []) (cap := cap) (a := a) rfl (by rw [hl]; exact hrows) (by rw [hl]; exact h1) (by rw [hl]; exact h2) (fun s hs => by rw [List.eq_of_mem_replicate hs]; simp)
        (by rw [hl]; exact hblk) (by omega) (by omega) hRlo (fun b h => h.elim) ⟨none, 0, rfl, by simp, by unfold maxLen; omega, fun _ => rfl, .inl rfl⟩ (by simp) (fun k t h => by simp [MD.fresh] at h) (by omega) (fun k t h => by simp [MD.fresh] at h)
      exact ⟨K, by rw [hKd]; rfl, hK, hbw, hKa⟩
end Go.Proofs.YtmimplmeccoahaaDoor
/- The reference disk: Copy. -/
namespace Go.Proofs.YtmimplmeccoahaaDoor
open Go.RowKit
set_option linter.unusedVariables false
set_option maxRecDepth 20000
attribute [local go_sem ↓] seal_append seal_make_bytes
attribute [local go_sem] opC upC

theorem owns_shape {w : World} {lo : Nat} {e : TypeId} {v : Value} {l : List UInt8} (h : w.ownsRow lo e 1 v l.length (l.map B)) : ∃ a cap, v = .slice a l.length cap := by
  rcases h.2 with ⟨rfl, h0⟩ | ⟨g, cap, cur, rfl, _⟩
  · exact ⟨none, 0, by rw [h0]⟩
  · exact ⟨_, cap, rfl⟩

/-- append([]byte{}, x...) in a world: the empty literal's block, then the append -/
theorem run_clone (w : World) (F : Blks) (v : Value) (l : List UInt8) (hv : Bytes F w v l) (hl : l.length ≤ 140737488355328) :
    ∃ a cap w2, (AP #[30, 30] 30 #[.slice (some ⟨w.heap.size, 0, none⟩) 0 0, v]).run Tryd.prog (w.alloc (.cells #[] 5)) = .ok (.slice a l.length cap) w2 ∧
      w2.ownsRow w.heap.size 5 1 (.slice a l.length cap) l.length (l.map B) ∧ Below w.heap.size w w2 ∧ (w.alloc (.cells #[] 5)).grownBy w2 (some w.heap.size) ∧
      Bytes (fun b => w.heap.size ≤ b ∧ b < w2.heap.size ∧ ∃ L fz, w2.heap[b]? = some (.cells L 5 fz)) w2 (.slice a l.length cap) l := by
  obtain ⟨v', w2, hr, hown, hgb⟩ := run_append_bytes (w.alloc (.cells #[] 5)) w.heap.size (.slice (some ⟨w.heap.size, 0, none⟩) 0 0) []
    ⟨rfl, .inr ⟨w.heap.size, 0, #[], rfl, Nat.le_refl _, by unfold World.alloc; simp, Nat.le_refl _, by unfold maxLen; omega, rfl, rfl⟩⟩ F v l (hv.keep fun b _ hb => Below.heap_alloc _ _ _ hb) (by simpa using hl) (by simp)
  rw [List.nil_append] at hown
  obtain ⟨a, cap, rfl⟩ := owns_shape hown
  refine ⟨a, cap, w2, hr, hown, (kept_alloc _ _).grown hgb (by simp) (fun k hk => by simp [Value.ownBlock] at hk; omega), hgb, ?_⟩
  have h2 := hown.2
  rcases h2 with ⟨h, h0⟩ | ⟨g, cap', cur, h, hb, hg, hc, hm, hs, ht⟩
  · simp at h
    obtain ⟨rfl, _, rfl⟩ := h
    exact ⟨none, 0, rfl, by omega, by unfold maxLen; omega, fun _ => rfl, .inl (List.length_eq_zero_iff.1 h0)⟩
  · simp at h
    obtain ⟨rfl, rfl⟩ := h
    refine ⟨_, cap, rfl, hc, hm, nofun, .inr ⟨g, 0, cur, 5, (0, 0), rfl, ⟨hb, lt_of_block hg, _, _, hg⟩, hg, by omega, fun i hi => ?_⟩⟩
    have : (cur.toList.take (l.length * 1))[i]? = (l.map B)[i]? := by rw [ht]
    rw [List.getElem?_take, if_pos (by omega)] at this
    simpa [List.getElem?_eq_getElem hi] using this

set_option maxRecDepth 100000 in
set_option maxHeartbeats 1000000 in
theorem refCopy_any (w : World) (KR : RK) (M : MD) (h : RefAt w KR M) (h0 : 0 < M.S.length) :
    Calls Tryd.prog 67 #[.pointer (some ⟨KR.d, 0, none⟩)] w fun e w' => ∃ K : RK, e = .returned (.pointer (some ⟨K.d, 0, none⟩)) ∧ RefAt w' K M ∧ Below w.heap.size w w' ∧ (∀ b, K.all b → w.heap.size ≤ b) := by
  have hltA := h.lt
  obtain ⟨h1, h2, h3, ⟨cap, after, tv, hc, hm, hb, ⟨L, hL, hLl, hs⟩, ⟨ct, hct, hcl, hf⟩, ha⟩, h5, h6⟩ := h
  have hct0 := hct
  obtain ⟨ta, tc, rfl, htc, htm, -, -⟩ := hct
  have hlt := hb.lt
  have hltb := hL.lt
  obtain ⟨na, nc, w2, hr, hown, hk2, hg2, hby⟩ := run_clone w.drew KR.R _ ct (hct0.keep fun b _ _ => rfl) hcl
  change (AP _ _ #[.slice (some ⟨w.heap.size, 0, none⟩) 0 0, _]).run _ (w.alloc _).drew = _ at hr
  clear hown
  have k0 : Later w.drew (w.alloc (.cells #[] 5)).drew := kept_alloc w.drew _
  have k0F : LaterF (fun b => w.heap.size ≤ b) w.drew (w.alloc (.cells #[] 5)).drew := LaterF.of_below k0
  have k1 : LaterF (fun b => w.heap.size ≤ b) (w.alloc (.cells #[] 5)).drew w2 := ⟨hg2.os, hg2.tape, hg2.output, hg2.size, fun q hq hn => hg2.block q hq (fun e => hn (by simp at e; have : w.drew.heap.size = w.heap.size := rfl; omega))⟩
  have H2 := Lib.hid h2; have Hs := Lib.hid hs; have Hf := Lib.hid hf; have H5 := Lib.hid h5; have H6 := Lib.hid h6; have HltA := Lib.hid hltA; have Hct := Lib.hid hct0
  have Hg2 := Lib.hid hg2
  clear h2 hs hf h5 h6 hltA hct0 hg2
  have cells : ∀ w', LaterF (fun b => w.heap.size ≤ b) w.drew w' → w'.cell? ⟨KR.d, 0, none⟩ = some (.slice (some ⟨KR.bs, 0, none⟩) M.S.length cap) ∧ w'.cell? ⟨KR.d, 1, none⟩ = some (.bool M.down) ∧ w'.cell? ⟨KR.d, 2, none⟩ = some (.bool M.fault.isSome) ∧ w'.cell? ⟨KR.d, 3, none⟩ = some (.int .i64 after) ∧ w'.cell? ⟨KR.d, 4, none⟩ = some (.slice ta ct.length tc) ∧ w'.cell? ⟨KR.d, 5, none⟩ = some (.int .i64 (M.writes : Int)) := fun w' hh => by
    have hw' := hb.keep (w' := w') (hh.block KR.d hlt (by omega))
    exact ⟨by simpa using hw'.cell 0, by simpa using hw'.cell 1, by simpa using hw'.cell 2, by simpa using hw'.cell 3, by simpa using hw'.cell 4, by simpa using hw'.cell 5⟩
  have q1 := fun w' hh => (cells w' hh).2.1
  have q2 := fun w' hh => (cells w' hh).2.2.1
  have q3 := fun w' hh => (cells w' hh).2.2.2.1
  have q4 := fun w' hh => (cells w' hh).2.2.2.2.1
  have q5 := fun w' hh => (cells w' hh).2.2.2.2.2
  have Cells := Lib.hid cells; clear cells
  go_enter Tryd.func67, Tryd.ntmps67
  go_wp2_with fail
  refine wp_region_can (LaterF (fun b => w.heap.size ≤ b)) [(0, true), (1, true), (2, true), (3, true), (4, true), (5, true), (6, true), (7, true), (8, true), (9, true), (10, true), (11, true), (13, true), (14, true), (15, true), (16, true), (18, true), (19, true), (20, true), (21, true), (12, false), (17, false), (22, true), (23, false), (24, true)] (by kernel_rfl) (by kernel_rfl) (laterF_refl _) (laterF_trans _) ?_
  repeat (first
    | (refine can_yes (v := ?_) rfl (wanted_none rfl) (fun w' hC => ?_) (fun K hK => ?_); rotate_left; (focus (go_simp; first | done | exact rfl)); go_simp; refine hK _ ?_; clear hK K)
    | (refine can_guard rfl (fun A B hA hB => ?_); go_simp; first | (refine hA ⟨?_, fun w' hC => ?_, fun K hK => ?_⟩; rotate_left; (focus (go_simp; first | done | exact rfl)); go_simp; refine hK _ ?_; clear hK K hA hB A B) | (refine hB (fun K hK => ?_); go_simp; refine hK _ ?_; clear hK K hA hB A B))
    | (refine can_guard_go rfl (fun A B hA hB => ?_); go_simp; refine hB (fun K hK => ?_); go_simp; refine hK _ ?_; clear hK K hA hB A B))
  refine can_go rfl rfl (fun KK hK => ?_)
  go_simp
  refine hK _ _ ?_
  clear hK KK
  go_simp
  refine can_go rfl rfl (fun KK hK => ?_)
  go_simp
  refine hK _ _ ?_
  clear hK KK
  go_simp
  repeat (first
    | (refine can_yes (v := ?_) rfl (wanted_none rfl) (fun w' hC => ?_) (fun K hK => ?_); rotate_left; (focus (go_simp; first | done | exact rfl)); go_simp; refine hK _ ?_; clear hK K)
    | (refine can_guard rfl (fun A B hA hB => ?_); go_simp; first | (refine hA ⟨?_, fun w' hC => ?_, fun K hK => ?_⟩; rotate_left; (focus (go_simp; first | done | exact rfl)); go_simp; refine hK _ ?_; clear hK K hA hB A B) | (refine hB (fun K hK => ?_); go_simp; refine hK _ ?_; clear hK K hA hB A B))
    | (refine can_guard_go rfl (fun A B hA hB => ?_); go_simp; refine hB (fun K hK => ?_); go_simp; refine hK _ ?_; clear hK K hA hB A B))
  refine can_go rfl rfl (fun KK hK => ?_)
  go_simp
  first | refine ⟨LaterF.of_below (kept_alloc _ _), hK _ _ ?_⟩ | refine hK _ _ ?_
  clear hK KK
  go_simp
  repeat (first
    | (refine can_yes (v := ?_) rfl (wanted_none rfl) (fun w' hC => ?_) (fun K hK => ?_); rotate_left; (focus (go_simp; first | done | exact rfl)); go_simp; refine hK _ ?_; clear hK K)
    | (refine can_guard rfl (fun A B hA hB => ?_); go_simp; first | (refine hA ⟨?_, fun w' hC => ?_, fun K hK => ?_⟩; rotate_left; (focus (go_simp; first | done | exact rfl)); go_simp; refine hK _ ?_; clear hK K hA hB A B) | (refine hB (fun K hK => ?_); go_simp; refine hK _ ?_; clear hK K hA hB A B))
    | (refine can_guard_go rfl (fun A B hA hB => ?_); go_simp; refine hB (fun K hK => ?_); go_simp; refine hK _ ?_; clear hK K hA hB A B))
  refine can_nil ?_
  clear q1 q2 q3 q4 q5 hr k1 k0 k0F
  have hD := Blk.new w2 #[.slice none 0 0, .bool M.down, .bool M.fault.isSome, .int .i64 after, .slice na ct.length nc, .int .i64 (M.writes : Int)] 95
  have hk3 := hk2.alloc hk2.size (.cells #[.slice none 0 0, .bool M.down, .bool M.fault.isSome, .int .i64 after, .slice na ct.length nc, .int .i64 (M.writes : Int)] 95)
  have hby3 : Bytes (fun b => w.heap.size ≤ b ∧ b < w2.heap.size) (w2.alloc (.cells #[.slice none 0 0, .bool M.down, .bool M.fault.isSome, .int .i64 after, .slice na ct.length nc, .int .i64 (M.writes : Int)] 95)) (.slice na ct.length nc) ct :=
    (hby.keep fun b hb hlt => Below.heap_alloc _ _ _ hlt).mono fun b hb => ⟨hb.1, hb.2.1⟩
  have hk3' : Below w.heap.size w (w2.alloc (.cells #[.slice none 0 0, .bool M.down, .bool M.fault.isSome, .int .i64 after, .slice na ct.length nc, .int .i64 (M.writes : Int)] 95)) := (Below.refl _ _).drew.trans hk3
  have hszD : w.heap.size ≤ w2.heap.size := hk2.size
  have HD := Lib.hid hD; have Hk3 := Lib.hid hk3'; have Hby3 := Lib.hid hby3
  clear hD hk3 hk3' hby3 hby hk2 Hg2
  obtain ⟨D, hDd⟩ : ∃ D, D = w2.heap.size := ⟨_, rfl⟩
  rw [← hDd] at HD Hby3 hszD
  go_wp2_with fail
  rw [← hDd]
  have HDd := Lib.hid hDd; clear hDd
  go_loopw [4] (fun i wr => ∃ (k : Nat) (a : Option Addr) (c : Nat) (R : Blks), k ≤ M.S.length ∧ i = .int .i64 (k : Int) ∧ Blk wr D [.slice a k c, .bool M.down, .bool M.fault.isSome, .int .i64 after, .slice na ct.length nc, .int .i64 (M.writes : Int)] 95 ∧
      RowsIn R wr (D + 1) (.slice a k c) (M.S.take k) ∧ (∀ b, R b → D + 1 ≤ b) ∧ Bytes (fun b => w.heap.size ≤ b ∧ b < D) wr (.slice na ct.length nc) ct ∧ Below w.heap.size w wr) (fun i _ => M.S.length - (intOf i).toNat)
  case atStart => exact ⟨0, none, 0, none_, by omega, rfl, HD.out, by simpa using RowsIn.nil _ _, fun b h => h.elim, Hby3.out, Hk3.out⟩
  case round =>
    obtain ⟨k, a, c, R, hk, rfl, hblk, hrows, hRlo, hbyw, hbw⟩ := hrel
    have hszw : D < wr.heap.size := hblk.lt
    have hn : (M.S.length : Int) ≤ 65536 := by omega
    have cd : wr.cell? ⟨KR.d, 0, none⟩ = some (.slice (some ⟨KR.bs, 0, none⟩) M.S.length cap) := by simpa using (hb.keep (hbw.block KR.d hlt)).cell 0
    by_cases hkn : k < M.S.length
    · have hknI : (k : Int) < (M.S.length : Int) := by omega
      obtain ⟨x, hx, hbx⟩ := Hs.out k hkn
      have h64 : (M.S[k]).length = 64 := H5.out _ (List.getElem_mem hkn)
      have hbx' : Bytes KR.R wr x M.S[k] := hbx.keep fun b hb _ => hbw.block b (H2.out b hb).2.2
      obtain ⟨xa, xc, w3, hr3, hown3, hk3, hg3, hby3⟩ := run_clone wr.drew KR.R x M.S[k] (hbx'.keep fun b _ _ => rfl) (by omega)
      change (AP _ _ #[.slice (some ⟨wr.heap.size, 0, none⟩) 0 0, _]).run _ (wr.alloc _).drew = _ at hr3
      clear hown3
      have hsz3 : wr.heap.size ≤ w3.heap.size := hk3.size
      have hrows3 : RowsIn R w3 (D + 1) (.slice a k c) (M.S.take k) := (hrows.kept (w' := wr.drew) (Below.refl _ _).drew).kept hk3
      have hlk : (M.S.take k).length = k := by simp; omega
      obtain ⟨a', c', w4, hap, hrows4, hg4⟩ := hrows3.append hby3 (fun b hb => hb.2.2) (by rw [hlk]; omega) (by omega)
      rw [hlk] at hap hrows4
      rw [← List.take_succ_eq_append_getElem hkn] at hrows4
      have hblk3 : Blk w3 D _ _ := (hblk.keep (w' := wr.drew) rfl).keep (hk3.block D hszw)
      have hob : ∀ q, Value.ownBlock (.slice a k c) = some q → D + 1 ≤ q ∧ q < wr.heap.size ∧ ¬ R q := fun q hq => (hrows.own hq)
      have hblk4 : Blk w4 D [.slice a k c, .bool M.down, .bool M.fault.isSome, .int .i64 after, .slice na ct.length nc, .int .i64 (M.writes : Int)] 95 := (hblk3.alloc _).keep (hg4.block _ (by have := hblk3.lt; simp; omega) (fun e => by have := hob _ e.symm; omega))
      have k0 : LaterF (fun b => D < b) wr.drew (wr.alloc (.cells #[] 5)).drew := LaterF.of_below (kept_alloc wr.drew _)
      have k1 : LaterF (fun b => D < b) (wr.alloc (.cells #[] 5)).drew w3 := ⟨hg3.os, hg3.tape, hg3.output, hg3.size, fun q hq hn => hg3.block q hq (fun e => hn (by simp at e; have : wr.drew.heap.size = wr.heap.size := rfl; omega))⟩
      have k2 : LaterF (fun b => D < b) w3 (w3.alloc (.cells #[.slice xa (M.S[k]).length xc] 30)) := LaterF.of_below (kept_alloc _ _)
      have k3 : LaterF (fun b => D < b) (w3.alloc (.cells #[.slice xa (M.S[k]).length xc] 30)) w4 := ⟨hg4.os, hg4.tape, hg4.output, hg4.size, fun q hq hn => hg4.block q hq (fun e => hn (by have := hob _ e.symm; omega))⟩
      have hbw4 : Below w.heap.size w w4 := ((hbw.drew.trans (hk3.mono (show w.heap.size ≤ wr.heap.size from hbw.size))).alloc (by have := hbw.size; omega) _).grown hg4 (by simp; have := hbw.size; omega) (fun q hq => by have := hob q hq; omega)
      have hby4 : Bytes (fun b => w.heap.size ≤ b ∧ b < D) w4 (.slice na ct.length nc) ct := hbyw.keep fun b hb hlt => by
        rw [hg4.block b (by simp; omega) (fun e => by have := hob _ e.symm; omega), Below.heap_alloc _ _ _ (by omega)]
        exact hk3.block b hlt
      have c0 := hblk4.cell 0
      have f0 := hblk4.free 0
      simp at c0
      have hblk5 := hblk4.set 0 (.slice a' (k + 1) c')
      have hrows5 : RowsIn _ (w4.setCell ⟨D, 0, none⟩ (.slice a' (k + 1) c')) (D + 1) (.slice a' (k + 1) c') (M.S.take (k + 1)) := hrows4.keep fun b hb _ => Below.heap_setCell _ ⟨D, 0, none⟩ _ b (by
        rcases hb with hb | hb | hb
        · have := (hrows4.own hb).1; show b ≠ D; omega
        · have := hRlo b hb; show b ≠ D; omega
        · have : wr.drew.heap.size = wr.heap.size := rfl; have := hb.1; show b ≠ D; omega)
      have hby5 : Bytes (fun b => w.heap.size ≤ b ∧ b < D) (w4.setCell ⟨D, 0, none⟩ (.slice a' (k + 1) c')) (.slice na ct.length nc) ct := hby4.keep fun b hb _ => Below.heap_setCell _ ⟨D, 0, none⟩ _ b (by show b ≠ D; omega)
      have q0 : ∀ w', LaterF (fun b => D < b) wr.drew w' → w'.cell? ⟨D, 0, none⟩ = some (.slice a k c) := fun w' hh => by
        simpa using (hblk.keep (w' := w') (hh.block D hszw (by omega))).cell 0
      have q1 : ∀ w', LaterF (fun b => D < b) wr.drew w' → w'.cell? ⟨KR.d, 0, none⟩ = some (.slice (some ⟨KR.bs, 0, none⟩) M.S.length cap) := fun w' hh => by
        rw [World.cell?_of_block (w := wr) (a := ⟨KR.d, 0, none⟩) (hh.block KR.d (show KR.d < wr.heap.size by omega) (by show ¬ D < KR.d; omega))]; exact cd
      have q2 : ∀ w', LaterF (fun b => D < b) wr.drew w' → w'.cell? ⟨KR.bs, k, none⟩ = some x := fun w' hh => by
        rw [(hL.keep ((hh.block KR.bs (show KR.bs < wr.heap.size by omega) (by show ¬ D < KR.bs; omega)).trans (hbw.block KR.bs hltb))).cell k]; exact hx
      obtain ⟨xsa, xsc, rfl, -⟩ := hbx
      have Hblk5 := Lib.hid hblk5; have Hrows5 := Lib.hid hrows5; have Hbw4 := Lib.hid hbw4; have Hby5 := Lib.hid hby5
      have H64 := Lib.hid h64
      clear hblk5 hrows5 hbw4 hby5 hby4 hrows4 hblk4 hrows3 hby3 hg4 hg3 hk3 hblk3 hrows hbx' hx hlk h64
      go_wp2_with fail
      refine wp_region_canL (LaterF (fun b => D < b)) 18 [(0, true), (1, true), (2, true), (3, true), (4, true), (6, true), (7, true), (8, true), (9, true), (10, true), (11, true), (12, true), (5, false), (13, false), (14, false), (15, false), (16, true), (17, true), (18, false)] (by kernel_rfl) (by kernel_rfl) (by kernel_rfl) (laterF_refl _) (laterF_trans _) ?_
      repeat (first
        | (refine canL_yes (v := ?_) rfl (wanted_none rfl) (fun w' hC => ?_) (fun K hK => ?_); rotate_left; (focus (go_simp; first | done | exact rfl)); go_simp; refine hK _ ?_; clear hK K)
        | (refine canL_guard rfl (fun A B hA hB => ?_); go_simp; first | (refine hA ⟨?_, fun w' hC => ?_, fun K hK => ?_⟩; rotate_left; (focus (go_simp; first | done | exact rfl)); go_simp; refine hK _ ?_; clear hK K hA hB A B) | (refine hB (fun K hK => ?_); go_simp; refine hK _ ?_; clear hK K hA hB A B))
        | (refine canL_guard_go rfl (fun A B hA hB => ?_); go_simp; refine hB (fun K hK => ?_); go_simp; refine hK _ ?_; clear hK K hA hB A B))
      refine canL_go rfl rfl (fun KK hK => ?_)
      go_simp
      refine hK _ _ ?_
      clear hK KK
      go_simp
      refine canL_go rfl rfl (fun KK hK => ?_)
      go_simp
      refine hK _ _ ?_
      clear hK KK
      go_simp
      refine canL_go rfl rfl (fun KK hK => ?_)
      go_simp
      refine hK _ _ ?_
      clear hK KK
      go_simp
      refine canL_go rfl rfl (fun KK hK => ?_)
      go_simp
      refine hK _ _ ?_
      clear hK KK
      go_simp
      repeat (first
        | (refine canL_yes (v := ?_) rfl (wanted_none rfl) (fun w' hC => ?_) (fun K hK => ?_); rotate_left; (focus (go_simp; first | done | exact rfl)); go_simp; refine hK _ ?_; clear hK K)
        | (refine canL_guard rfl (fun A B hA hB => ?_); go_simp; first | (refine hA ⟨?_, fun w' hC => ?_, fun K hK => ?_⟩; rotate_left; (focus (go_simp; first | done | exact rfl)); go_simp; refine hK _ ?_; clear hK K hA hB A B) | (refine hB (fun K hK => ?_); go_simp; refine hK _ ?_; clear hK K hA hB A B))
        | (refine canL_guard_go rfl (fun A B hA hB => ?_); go_simp; refine hB (fun K hK => ?_); go_simp; refine hK _ ?_; clear hK K hA hB A B))
      refine canL_last rfl rfl rfl (fun KK hK => ?_)
      go_simp
      refine hK _ _ ?_
      clear hK KK
      go_simp
      refine canL_nil ?_
      go_wp2_with fail
      go_roundw
      case rel => exact ⟨k + 1, a', c', _, by omega, by go_num, by simpa using Hblk5.out, Hrows5.out, (by
        rintro b (hb | hb)
        · exact hRlo b hb
        · have : wr.drew.heap.size = wr.heap.size := rfl; have := hb.1; omega), Hby5.out, Hbw4.out.setCell hszD _⟩
      case measure => simp [intOf]; omega
    · have hknI : ¬ (k : Int) < (M.S.length : Int) := by omega
      obtain rfl : k = M.S.length := by omega
      rw [List.take_of_length_le (Nat.le_refl _)] at hrows
      obtain ⟨K, hKd, hKa, hK⟩ := ref_of_rows (M := M) (w := wr) (Rt := fun b => w.heap.size ≤ b ∧ b < D) (base := w.heap.size) (lo := D + 1) (d := D) (S := M.S) (after := after) (tv := .slice na ct.length nc) (ct := ct) (cap := c) (a := a) rfl hrows h0 h3 H5.out hblk (by omega) hszD hRlo (fun b h => h) hbyw hcl Hf.out ha H6.out
      have HK := Lib.hid hK; have HKd := Lib.hid hKd
      clear hK hKd hrows hbyw hblk
      go_wp2_with fail
      go_ret
      exact ⟨K, by rw [HKd.out]; rfl, HK.out, hbw, hKa⟩
end Go.Proofs.YtmimplmeccoahaaDoor
