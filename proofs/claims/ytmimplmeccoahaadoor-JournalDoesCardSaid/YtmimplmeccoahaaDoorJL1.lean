/- The helpers of package henkanlaw35: equal, fresh; journals whose disk never fails. -/
import Derived.Test.YtmimplmeccoahaaDoorJ9
namespace Go.Proofs.YtmimplmeccoahaaDoor
open Go.RowKit
set_option linter.unusedVariables false
set_option maxRecDepth 20000
attribute [local go_sem] opC upC

/-- a slice of slices of bytes that is read -/
def RowsAt (R : Blks) (w : World) (v : Value) (S : List (List UInt8)) : Prop :=
  ∃ a cap, v = .slice a S.length cap ∧ (S = [] ∨ ∃ g, a = some ⟨g, 0, none⟩ ∧ g < w.heap.size ∧ ∀ i (h : i < S.length), ∃ x, w.cell? ⟨g, i, none⟩ = some x ∧ Bytes R w x S[i])

theorem RowsIn.at {R : Blks} {w : World} {lo : Nat} {v : Value} {S : List (List UInt8)} (h : RowsIn R w lo v S) : RowsAt R w v S := by
  obtain ⟨a, cap, rfl, -, -⟩ := id h.shape
  refine ⟨a, cap, rfl, ?_⟩
  cases S with
  | nil => exact .inl rfl
  | cons x S =>
    right
    obtain ⟨g, cap', x', hv, hb, hc⟩ := h.elem 0 (by simp)
    simp at hv
    obtain ⟨rfl, rfl⟩ := hv
    refine ⟨g, rfl, cell_lt hc, fun i hi => ?_⟩
    obtain ⟨g2, cap2, x2, hv2, hb2, hc2⟩ := h.elem i hi
    simp at hv2
    obtain ⟨rfl, -⟩ := hv2
    exact ⟨x2, hc2, hb2⟩

theorem RowsAt.drewN {R : Blks} {w : World} {v : Value} {S : List (List UInt8)} (h : RowsAt R w v S) (n : Nat) : RowsAt R (w.drewN n) v S := h

theorem later_cell {w w' : World} {a : Addr} {x : Value} (h : w.cell? a = some x) (hl : Later w.drew w') : w'.cell? a = some x := by
  have hlt := cell_lt h
  have hb : w'.heap[a.block]? = w.heap[a.block]? := hl.block a.block hlt
  unfold World.cell? at *
  rw [hb]
  exact h
theorem later_str {R : Blks} {w w' : World} {x : Value} {l : List UInt8} (h : Bytes R w x l) (hl : Later w.drew w') : (convert 30 9 x).run Tryd.prog w' = .ok (.string ⟨l.toArray⟩) w' :=
  run_str (h.keep (w' := w') fun b _ hlt => hl.block b hlt)

def EqRel (w : World) (N : Nat) (S T : List (List UInt8)) (i : Value) (wr : World) : Prop := ∃ k n : Nat, k ≤ N ∧ i = .int .i64 (k : Int) ∧ w.drewN n = wr ∧ S.take k = T.take k

theorem equal_any (w : World) (Ra Rb : Blks) (va vb : Value) (S T : List (List UInt8)) (ha : RowsAt Ra w va S) (hb : RowsAt Rb w vb T) (hlen : S.length ≤ 1000000) (hlenT : T.length ≤ 1000000) :
    Calls Tryd.prog 19 #[va, vb] w fun e w' => e = .returned (.bool (decide (S = T))) ∧ ∃ n, w.drewN n = w' := by
  obtain ⟨aa, ca, hva, ha⟩ := ha
  obtain ⟨ab, cb, hvb, hb⟩ := hb
  by_cases hl : S.length = T.length
  · obtain ⟨N, hnS⟩ : ∃ N, S.length = N := ⟨_, rfl⟩
    have hnT : T.length = N := by omega
    rw [hnS] at hva
    rw [hnT] at hvb
    subst hva hvb
    have HnS := Lib.hid hnS; have HnT := Lib.hid hnT
    have hNI : (N : Int) ≤ 1000000 := by omega
    clear hl hlen hlenT hnS hnT
    go_enter Tryd.func19, Tryd.ntmps19
    go_wp2_with fail
    go_loopw [13] (fun i wr => EqRel w N S T i wr) (fun i _ => N - (intOf i).toNat)
    case atStart => exact ⟨0, 0, by omega, rfl, rfl, by simp⟩
    case round =>
      obtain ⟨k, n, hk, rfl, rfl, htk⟩ := hrel
      by_cases hkl : k < N
      · have hklI : (k : Int) < (N : Int) := by omega
        have hkS : k < S.length := by rw [HnS.out]; exact hkl
        have hkT : k < T.length := by rw [HnT.out]; exact hkl
        obtain ⟨ga, rfl, hga, hca⟩ := ha.resolve_left (by intro e; rw [e] at hkS; simp at hkS)
        obtain ⟨gb, rfl, hgb, hcb⟩ := hb.resolve_left (by intro e; rw [e] at hkT; simp at hkT)
        obtain ⟨xa, hxa, hba⟩ := hca k hkS
        obtain ⟨xb, hxb, hbb⟩ := hcb k hkT
        have hxa' : (w.drewN n).cell? ⟨ga, k, none⟩ = some xa := hxa
        have hxb' : (w.drewN n).cell? ⟨gb, k, none⟩ = some xb := hxb
        have hba' : Bytes Ra (w.drewN n) xa S[k] := hba.keep fun _ _ _ => rfl
        have hbb' : Bytes Rb (w.drewN n) xb T[k] := hbb.keep fun _ _ _ => rfl
        have hstep : ∀ m : Nat, S[k] = T[k] → S.take (k + 1) = T.take (k + 1) := fun _ he => by
          rw [List.take_succ_eq_append_getElem hkS, List.take_succ_eq_append_getElem hkT, htk, he]
        have hne : S[k] ≠ T[k] → S ≠ T := fun hne e => hne (by subst e; rfl)
        have hdr : w.drewN (n + 1) = (w.drewN n).drew := rfl
        generalize hwn : w.drewN n = wn at *
        have q1 : ∀ w', Later wn.drew w' → w'.cell? ⟨ga, k, none⟩ = some xa := fun w' hh => later_cell hxa' hh
        have q2 : ∀ w', Later wn.drew w' → w'.cell? ⟨gb, k, none⟩ = some xb := fun w' hh => later_cell hxb' hh
        have q3 : ∀ w', Later wn.drew w' → (convert 30 9 xa).run Tryd.prog w' = .ok (.string ⟨S[k].toArray⟩) w' := fun w' hh => later_str hba' hh
        have q4 : ∀ w', Later wn.drew w' → (convert 30 9 xb).run Tryd.prog w' = .ok (.string ⟨T[k].toArray⟩) w' := fun w' hh => later_str hbb' hh
        clear hba hbb hba' hbb' hxa hxb hca hcb ha hb hxa' hxb'
        generalize S[k] = x at *
        generalize T[k] = y at *
        by_cases hxy : x = y
        · subst hxy
          go_wp2_with fail
          refine wp_region_can Later [(0, true), (1, true), (2, true), (3, true), (4, true), (5, true), (6, true), (7, true), (8, true), (9, true), (10, true)] (by kernel_rfl) (by kernel_rfl) later_refl later_trans ?_
          repeat (first
            | (refine can_yes (v := ?_) rfl (wanted_none rfl) (fun w' hC => ?_) (fun K hK => ?_); rotate_left; (focus (go_simp; first | done | exact rfl)); go_simp; refine hK _ ?_; clear hK K)
            | (refine can_guard rfl (fun A B hA hB => ?_); go_simp; first | (refine hA ⟨?_, fun w' hC => ?_, fun K hK => ?_⟩; rotate_left; (focus (go_simp; first | done | exact rfl)); go_simp; refine hK _ ?_; clear hK K hA hB A B) | (refine hB (fun K hK => ?_); go_simp; refine hK _ ?_; clear hK K hA hB A B))
            | (refine can_guard_go rfl (fun A B hA hB => ?_); go_simp; refine hB (fun K hK => ?_); go_simp; refine hK _ ?_; clear hK K hA hB A B))
          refine can_nil ?_
          clear q1 q2 q3 q4
          go_wp2_with fail
          go_roundw
          case rel => exact ⟨k + 1, n + 1, by omega, by go_num, hdr, by first | exact hstep 0 rfl | exact hstep 0 trivial⟩
          case measure => simp [intOf]; omega
        · have hyx : (x == y) = false := beq_eq_false_iff_ne.2 hxy
          have hyx2 : (x != y) = true := bne_iff_ne.2 hxy
          have hnST := hne hxy
          have Hh := Lib.hid hnST
          clear hnST hne hstep
          go_wp2_with fail
          refine wp_region_can Later [(0, true), (1, true), (2, true), (3, true), (4, true), (5, true), (6, true), (7, true), (8, true), (9, true), (10, true)] (by kernel_rfl) (by kernel_rfl) later_refl later_trans ?_
          repeat (first
            | (refine can_yes (v := ?_) rfl (wanted_none rfl) (fun w' hC => ?_) (fun K hK => ?_); rotate_left; (focus (go_simp; first | done | exact rfl)); go_simp; refine hK _ ?_; clear hK K)
            | (refine can_guard rfl (fun A B hA hB => ?_); go_simp; first | (refine hA ⟨?_, fun w' hC => ?_, fun K hK => ?_⟩; rotate_left; (focus (go_simp; first | done | exact rfl)); go_simp; refine hK _ ?_; clear hK K hA hB A B) | (refine hB (fun K hK => ?_); go_simp; refine hK _ ?_; clear hK K hA hB A B))
            | (refine can_guard_go rfl (fun A B hA hB => ?_); go_simp; refine hB (fun K hK => ?_); go_simp; refine hK _ ?_; clear hK K hA hB A B))
          refine can_nil ?_
          clear q1 q2 q3 q4
          go_wp2_with fail
          go_ret
          exact ⟨by simp [Hh.out], n + 1, hdr⟩
      · have hklI : ¬ (k : Int) < (N : Int) := by omega
        have hST : S = T := by
          have h1 := HnS.out
          have h2 := HnT.out
          rw [List.take_of_length_le (by omega), List.take_of_length_le (by omega)] at htk
          exact htk
        have Hh := Lib.hid hST
        clear hST
        go_wp2_with fail
        go_ret
        exact ⟨by simp [Hh.out], n, rfl⟩
  · have hlI : ¬ (S.length : Int) = (T.length : Int) := by omega
    have hlB : ((S.length : Int) != (T.length : Int)) = true := by simp [bne_iff_ne]; omega
    have hST : S ≠ T := fun e => hl (by rw [e])
    have Hh := Lib.hid hST
    clear hST
    subst hva hvb
    go_enter Tryd.func19, Tryd.ntmps19
    go_wp2_with fail
    go_ret
    exact ⟨by simp [Hh.out], 0, rfl⟩
end Go.Proofs.YtmimplmeccoahaaDoor
