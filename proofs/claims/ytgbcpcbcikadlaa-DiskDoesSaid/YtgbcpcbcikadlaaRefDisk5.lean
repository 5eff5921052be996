/- The reference disk: Write with a fault that strikes later. -/
import Derived.Test.YtgbcpcbcikadlaaRefDisk4
namespace Go.Proofs.Ytgbcpcbcikadlaa
open Go.RowKit
set_option linter.unusedVariables false
attribute [local go_sem ↓] seal_append
attribute [local go_sem] opC upC

theorem RefAt.tick {w : World} {K : RK} {M : MD} (h : RefAt w K M) {n : Nat} {t : List UInt8} (hft : M.fault = some (n + 1, t)) :
    RefAt (w.setCell ⟨K.d, 3, none⟩ (.int .i64 (n : Int))) K { M with fault := some (n, t) } := by
  obtain ⟨h1, h2, h3, ⟨cap, after, tv, hc, hm, hb, ⟨L, hL, hLl, hs⟩, ⟨ct, hct, hcl, hf⟩, ha⟩, h5, h6⟩ := h
  rw [hft] at hb
  obtain ⟨rfl, rfl⟩ := hf _ t hft
  have ho : ∀ b, K.R b → (w.setCell ⟨K.d, 3, none⟩ (.int .i64 (n : Int))).heap[b]? = w.heap[b]? := fun b hb => Below.heap_setCell w ⟨K.d, 3, none⟩ _ b (h2 b hb).1
  refine ⟨h1, fun b hR => ⟨(h2 b hR).1, (h2 b hR).2.1, by simpa [World.setCell] using (h2 b hR).2.2⟩, h3, ⟨cap, n, tv, hc, hm, by simpa using hb.set 3 (.int .i64 (n : Int)), ⟨L, hL.set_other (a := ⟨K.d, 3, none⟩) _ (Ne.symm h1), hLl, fun i hi => ?_⟩, ⟨ct, hct.keep fun b hR _ => ho b hR, hcl, ?_⟩, by have := (h6 _ _ hft).2; omega⟩, h5, ?_⟩
  · obtain ⟨v, hv, hbv⟩ := hs i hi
    exact ⟨v, hv, hbv.keep fun b hR _ => ho b hR⟩
  · rintro k t' hh
    simp at hh
    obtain ⟨rfl, rfl⟩ := hh
    exact ⟨rfl, rfl⟩
  · rintro k t' hh
    simp at hh
    obtain ⟨rfl, rfl⟩ := hh
    have := h6 _ _ hft
    exact ⟨this.1, by omega⟩

theorem RefAt.cells {w : World} {K : RK} {M : MD} (h : RefAt w K M) {n : Nat} {t : List UInt8} (hft : M.fault = some (n, t)) (hdn : M.down = false) :
    ∃ cap, M.S.length ≤ cap ∧ w.cell? ⟨K.d, 0, none⟩ = some (.slice (some ⟨K.bs, 0, none⟩) M.S.length cap) ∧ w.cell? ⟨K.d, 1, none⟩ = some (.bool false) ∧ w.cell? ⟨K.d, 2, none⟩ = some (.bool true) ∧ w.cell? ⟨K.d, 3, none⟩ = some (.int .i64 (n : Int)) ∧ w.frozen? ⟨K.d, 3, none⟩ = false := by
  obtain ⟨cap, after, tv, hc, hm, hb, -, ⟨ct, -, -, hf⟩, -⟩ := h.main
  rw [hdn, hft] at hb
  obtain ⟨rfl, rfl⟩ := hf _ t hft
  exact ⟨cap, hc, by simpa using hb.cell 0, by simpa using hb.cell 1, by simpa using hb.cell 2, by simpa using hb.cell 3, by simpa using hb.free 3⟩

set_option maxRecDepth 100000 in
set_option maxHeartbeats 1000000 in
theorem refWrite_succ (w0 : World) (K : RK) (M0 : MD) (h0 : RefAt w0 K M0) (n : Nat) (t : List UInt8) (hft0 : M0.fault = some (n + 1, t)) (i : Nat) (hi : i < M0.S.length) (hdn0 : M0.down = false) (hw00 : M0.writes < 4611686018427387904) (F : Blks) (v : Value) (l : List UInt8) (hv00 : Bytes F w0 v l) (hl : l.length = 64) (hF : ∀ b, F b → b ≠ K.d) :
    Calls Try.prog 29 #[.pointer (some ⟨K.d, 0, none⟩), .int .i64 (i : Int), v] w0 fun e w' => e = .returned (.int .i64 0) ∧
      RefAt w' (K.grow w0.heap.size w'.heap.size) { M0 with S := M0.S.set i l, fault := some (n, t), writes := M0.writes + 1 } ∧ Only K.foot w0 w' := by
  obtain ⟨cap0, hcap0, e0, e1, e2, e3, e4⟩ := h0.cells hft0 hdn0
  simp at e3
  have h := h0.tick hft0
  have hnmax : n + 1 ≤ 9223372036854775807 := (h0.f64 _ _ hft0).2
  have hv : Bytes F (w0.setCell ⟨K.d, 3, none⟩ (.int .i64 (n : Int))) v l := hv00.keep fun b hb _ => Below.heap_setCell w0 ⟨K.d, 3, none⟩ _ b (hF b hb)
  have hsz0 : (w0.setCell ⟨K.d, 3, none⟩ (.int .i64 (n : Int))).heap.size = w0.heap.size := by simp [World.setCell]
  have ho0 : Only K.foot w0 (w0.setCell ⟨K.d, 3, none⟩ (.int .i64 (n : Int))) := (Only.refl _ _).setCell (.inl (.inl rfl)) _
  obtain ⟨w, hw0⟩ : ∃ w, w = w0.setCell ⟨K.d, 3, none⟩ (.int .i64 (n : Int)) := ⟨_, rfl⟩
  rw [← hw0] at h hv hsz0 ho0
  have Hw0 := Lib.hid hw0; have Ho0 := Lib.hid ho0; have Hsz0 := Lib.hid hsz0
  clear hw0 ho0 hsz0 hv00 h0
  have hltA := h.lt
  obtain ⟨h1, h2, h3, ⟨cap, after, tv, hc, hm, hb, ⟨L, hL, hLl, hs⟩, ⟨ct, hct, hcl, hf⟩, ha⟩, h5, h6⟩ := h
  dsimp only at h3 hc hb hs hf h5 h6
  rw [hdn0] at hb
  have hv0 := hv
  obtain ⟨a, capv, rfl, hcv, hmv, -, -⟩ := hv
  have hlt := hb.lt
  have hltb := hL.lt
  have c0 := hb.cell 0
  have c1 := hb.cell 1
  have c2 := hb.cell 2
  simp at c0 c1 c2
  have hW : Bytes F (w.alloc (.cells #[] 5)).drew (.slice a l.length capv) l := hv0.keep fun b _ hb => Below.heap_alloc w _ _ hb
  obtain ⟨v', w2, hr, hown, hgb⟩ := run_append_bytes (w.alloc (.cells #[] 5)).drew w.heap.size (.slice (some ⟨w.heap.size, 0, none⟩) 0 0) []
    ⟨rfl, .inr ⟨w.heap.size, 0, #[], rfl, Nat.le_refl _, by unfold World.alloc World.drew; simp, Nat.le_refl _, by unfold maxLen; omega, rfl, rfl⟩⟩ F (.slice a l.length capv) l hW (by simp; omega) (by simp)
  rw [List.nil_append] at hown
  have hby : Bytes (fun b => w.heap.size ≤ b ∧ b < w2.heap.size) w2 v' l := Bytes.of_owns hown _ (fun k h1 h2 => ⟨h1, h2⟩)
  obtain ⟨g, cp, rfl, -⟩ := ownsRow_cells hown (by omega)
  have hk2 : Below w.heap.size w w2 := ((Below.refl _ _).alloc (Nat.le_refl _) _).drew.grown hgb (by simp) (fun k hk => by have hsz : w.drew.heap.size = w.heap.size := rfl; simp [Value.ownBlock] at hk; omega)
  have hb2 := hb.keep (hk2.block K.d hlt)
  have hL2 := hL.keep (hk2.block K.bs hltb)
  have cL := hL2.cell i
  have fL := hL2.free i
  have hiL : i < L.length := by omega
  rw [List.getElem?_eq_getElem hiL] at cL
  have hb3 := hb2.set_other (a := ⟨K.bs, i, none⟩) (.slice (some ⟨g, 0, none⟩) l.length cp) h1
  have hL3 := hL2.set i (.slice (some ⟨g, 0, none⟩) l.length cp)
  have c5 := hb3.cell 5
  have f5 := hb3.free 5
  simp at c5
  generalize hl2 : l.length = ln at *
  obtain rfl : ln = 64 := hl
  have HL := Lib.hid hl2; clear hl2
  have hn0 : (i : Int) < (M0.S.length : Int) := by omega
  have hn2 : M0.S.length ≤ 9223372036854775807 := by omega
  have H2 := Lib.hid h2; have Hs := Lib.hid hs; have Hf := Lib.hid hf; have H5 := Lib.hid h5; have H6 := Lib.hid h6; have Hft := Lib.hid hft0; have Hdn := Lib.hid hdn0; have HltA := Lib.hid hltA
  have k1 : LaterF (fun b => b = K.bs ∨ w.heap.size ≤ b) (w.alloc (.cells #[] 5)).drew w2 := ⟨hgb.os, hgb.tape, hgb.output, hgb.size, fun k hk hn => hgb.block k hk (fun e => hn (.inr (by simp [Value.ownBlock] at e; omega)))⟩
  have Hby := Lib.hid hby; clear hby
  have k2 : LaterF (fun b => b = K.bs ∨ w.heap.size ≤ b) w2 (w2.setCell ⟨K.bs, i, none⟩ (.slice (some ⟨g, 0, none⟩) 64 cp)) := (Only.refl _ _).setCell (.inl (.inl rfl)) _
  clear h2 hs hf h5 h6 hft0 hdn0 hltA hgb hW
  have Hown := Lib.hid hown; clear hown
  have k0 : LaterF (fun b => b = K.bs ∨ w.heap.size ≤ b) w.drew (w.alloc (.cells #[] 5)).drew := LaterF.of_below (kept_alloc w.drew (.cells #[] 5))
  go_enter Try.func29, Try.ntmps29
  have hbn : ((n : Int) + 1 == 0) = false := beq_eq_false_iff_ne.2 (by omega)
  go_wp2_with fail
  rw [Hw0.out.symm]
  have q0 : ∀ w', LaterF (fun b => b = K.bs ∨ w.heap.size ≤ b) w.drew w' → w'.cell? ⟨K.d, 0, none⟩ = some (.slice (some ⟨K.bs, 0, none⟩) M0.S.length cap) := fun w' hh => by
    rw [World.cell?_of_block (w := w) (a := ⟨K.d, 0, none⟩) (hh.block K.d hlt (fun e => e.elim h1 (fun e => absurd hlt (by omega))))]; exact c0
  refine wp_region_can (LaterF (fun b => b = K.bs ∨ w.heap.size ≤ b)) [(0, true), (1, true), (2, true), (3, true), (4, true), (6, true), (5, false), (7, false), (8, true), (9, false)] (by kernel_rfl) (by kernel_rfl) (laterF_refl _) (laterF_trans _) ?_
  repeat (first
    | (refine can_yes (v := ?_) rfl (wanted_none rfl) (fun w' hC => ?_) (fun K hK => ?_); rotate_left; (focus (go_simp; first | done | exact rfl)); go_simp; refine hK _ ?_; clear hK K)
    | (refine can_guard rfl (fun A B hA hB => ?_); go_simp; first | (refine hA ⟨?_, fun w' hC => ?_, fun K hK => ?_⟩; rotate_left; (focus (go_simp; first | done | exact rfl)); go_simp; refine hK _ ?_; clear hK K hA hB A B) | (refine hB (fun K hK => ?_); go_simp; refine hK _ ?_; clear hK K hA hB A B))
    | (refine can_guard_go rfl (fun A B hA hB => ?_); go_simp; refine hB (fun K hK => ?_); go_simp; refine hK _ ?_; clear hK K hA hB A B))
  refine can_go rfl rfl (fun K0 hK => ?_)
  go_simp
  refine hK _ _ ?_
  clear hK K0
  go_simp
  repeat (first
    | (refine can_yes (v := ?_) rfl (wanted_none rfl) (fun w' hC => ?_) (fun K hK => ?_); rotate_left; (focus (go_simp; first | done | exact rfl)); go_simp; refine hK _ ?_; clear hK K)
    | (refine can_guard rfl (fun A B hA hB => ?_); go_simp; first | (refine hA ⟨?_, fun w' hC => ?_, fun K hK => ?_⟩; rotate_left; (focus (go_simp; first | done | exact rfl)); go_simp; refine hK _ ?_; clear hK K hA hB A B) | (refine hB (fun K hK => ?_); go_simp; refine hK _ ?_; clear hK K hA hB A B))
    | (refine can_guard_go rfl (fun A B hA hB => ?_); go_simp; refine hB (fun K hK => ?_); go_simp; refine hK _ ?_; clear hK K hA hB A B))
  refine can_go rfl rfl (fun K0 hK => ?_)
  go_simp
  refine hK _ _ ?_
  clear hK K0
  go_simp
  repeat (first
    | (refine can_yes (v := ?_) rfl (wanted_none rfl) (fun w' hC => ?_) (fun K hK => ?_); rotate_left; (focus (go_simp; first | done | exact rfl)); go_simp; refine hK _ ?_; clear hK K)
    | (refine can_guard rfl (fun A B hA hB => ?_); go_simp; first | (refine hA ⟨?_, fun w' hC => ?_, fun K hK => ?_⟩; rotate_left; (focus (go_simp; first | done | exact rfl)); go_simp; refine hK _ ?_; clear hK K hA hB A B) | (refine hB (fun K hK => ?_); go_simp; refine hK _ ?_; clear hK K hA hB A B))
    | (refine can_guard_go rfl (fun A B hA hB => ?_); go_simp; refine hB (fun K hK => ?_); go_simp; refine hK _ ?_; clear hK K hA hB A B))
  refine can_go rfl rfl (fun K0 hK => ?_)
  go_simp
  refine hK _ _ ?_
  clear hK K0
  go_simp
  repeat (first
    | (refine can_yes (v := ?_) rfl (wanted_none rfl) (fun w' hC => ?_) (fun K hK => ?_); rotate_left; (focus (go_simp; first | done | exact rfl)); go_simp; refine hK _ ?_; clear hK K)
    | (refine can_guard rfl (fun A B hA hB => ?_); go_simp; first | (refine hA ⟨?_, fun w' hC => ?_, fun K hK => ?_⟩; rotate_left; (focus (go_simp; first | done | exact rfl)); go_simp; refine hK _ ?_; clear hK K hA hB A B) | (refine hB (fun K hK => ?_); go_simp; refine hK _ ?_; clear hK K hA hB A B))
    | (refine can_guard_go rfl (fun A B hA hB => ?_); go_simp; refine hB (fun K hK => ?_); go_simp; refine hK _ ?_; clear hK K hA hB A B))
  refine can_nil ?_
  go_simp
  go_wp2_with fail
  go_ret
  have hL := HL.out
  have h2 := H2.out
  have ho : Only K.foot w ((w2.setCell ⟨K.bs, i, none⟩ (.slice (some ⟨g, 0, none⟩) 64 cp)).setCell ⟨K.d, 5, none⟩ (.int .i64 (M0.writes + 1))) := ((Only.of_below hk2).setCell (.inl (.inr rfl)) _).setCell (.inl (.inl rfl)) _
  have ho2 : Only K.foot w2 ((w2.setCell ⟨K.bs, i, none⟩ (.slice (some ⟨g, 0, none⟩) 64 cp)).setCell ⟨K.d, 5, none⟩ (.int .i64 (M0.writes + 1))) := ((Only.refl _ _).setCell (.inl (.inr rfl)) _).setCell (.inl (.inl rfl)) _
  have hb4 := hb3.set 5 (.int .i64 (M0.writes + 1))
  have hL4 := hL3.set_other (a := ⟨K.d, 5, none⟩) (.int .i64 (M0.writes + 1)) (Ne.symm h1)
  generalize ((w2.setCell ⟨K.bs, i, none⟩ (.slice (some ⟨g, 0, none⟩) 64 cp)).setCell ⟨K.d, 5, none⟩ (.int .i64 (M0.writes + 1))) = wF at *
  rw [← Hsz0.out]
  refine ⟨rfl, ⟨h1, ?_, by simpa using h3, ⟨cap, after, tv, by simpa using hc, hm, by simpa [RK.grow, Hdn.out, Hft.out] using hb4, ⟨_, hL4, by simpa using hLl, ?_⟩, ⟨ct, ?_, hcl, fun k t hh => Hf.out k t hh⟩, ha⟩, ?_, H6.out⟩, Ho0.out.trans ho (fun _ hi => .inl hi)⟩
  · rintro b (hR | ⟨hR, hR2⟩)
    · exact ⟨(h2 b hR).1, (h2 b hR).2.1, Nat.lt_of_lt_of_le (h2 b hR).2.2 ho.size⟩
    · exact ⟨fun e => by simp [RK.grow] at e; omega, fun e => by simp [RK.grow] at e; omega, hR2⟩
  · intro j hj
    simp at hj
    by_cases hji : i = j
    · subst hji
      refine ⟨_, by rw [List.getElem?_set_self (by omega)], ?_⟩
      simp only [List.getElem_set_self]
      refine (Hby.out.keep (w' := wF) fun b hb' hlt' => ho2.block b hlt' (by rintro (e | e) <;> omega)).mono fun b hb' => .inr ⟨hb'.1, Nat.lt_of_lt_of_le hb'.2 ho2.size⟩
    · obtain ⟨v, hv, hbv⟩ := Hs.out j (by omega)
      refine ⟨v, by rw [List.getElem?_set_ne hji]; exact hv, ?_⟩
      simp only [List.getElem_set_ne hji]
      exact (hbv.keep (w' := wF) fun b hR hlt' => ho.block b hlt' (by have := h2 b hR; rintro (e | e) <;> simp_all)).mono fun b hR => .inl hR
  · exact (hct.keep (w' := wF) fun b hR hlt' => ho.block b hlt' (by have := h2 b hR; rintro (e | e) <;> simp_all)).mono fun b hR => .inl hR
  · intro s hs'
    rcases List.mem_or_eq_of_mem_set hs' with hs' | rfl
    · exact H5.out s hs'
    · exact hL
end Go.Proofs.Ytgbcpcbcikadlaa
