/- The law DiskApart. No condition. -/
import Derived.Test.YtgbcpcbcikadlaaDiskLaws3
namespace Go.Proofs.Ytgbcpcbcikadlaa
open Go.RowKit Go.ChangeShapes Go.WideShapes Go.ChangeAt
set_option linter.unusedVariables false
attribute [local go_sem] opC upC

def apM (S : List (List UInt8)) (k : Nat) : MD := ⟨S, false, none, k⟩
theorem apM_write (S : List (List UInt8)) (k i : Nat) (l : List UInt8) : (apM S k).write i l = (apM (S.set i l) (k + 1), 0) := rfl

def ApRel (w : World) (d N len : Nat) (i : Value) (wr : World) : Prop :=
  ∃ (k : Nat) (S : List (List UInt8)) (K : DK), k ≤ len ∧ i = .int .i64 (k : Int) ∧ S.length = N ∧ K.d = d ∧ (∀ b, K.foot b → w.heap.size ≤ b) ∧ DiskAt wr K (apM S k) ∧ Below w.heap.size w wr

def ApRel2 (w : World) (N : Nat) (K Ko : DK) (S S2 : List (List UInt8)) (k : Nat) (i : Value) (wr : World) : Prop :=
  ∃ (j : Nat), j ≤ N ∧ i = .int .i64 (j : Int) ∧ DiskAt wr K (apM S2 (k + 1)) ∧ DiskAt wr Ko (apM S k) ∧ Below w.heap.size w wr

theorem DiskAt.len64 {w : World} {K : DK} {M : MD} (h : DiskAt w K M) (i : Nat) (hi : i < M.S.length) : (M.S[i]).length = 64 := by
  obtain ⟨L, hL, hs⟩ := h.secs
  exact hs.2.2 _ (List.getElem_mem hi)

set_option maxRecDepth 100000 in
set_option maxHeartbeats 4000000 in
theorem DiskApart_walk (a0 : Int) (v1 : Value) (w : World) (w0 : (Lit.int .u8 a0).wf = true) (w1 : IsPuts w v1) :
    Calls Try.prog 6 #[.int .u8 a0, v1] w fun e w' => e = .returned (.bool true) ∧ Below w.heap.size w w' := by
  have g0 := bounds_u8 w0
  clear w0
  obtain ⟨len, ad, cap, rfl, hl, hm, hz, hrow⟩ := w1
  have hm' : cap ≤ 9223372036854775807 := by unfold maxLen at hm; omega
  by_cases h200 : 100 < len
  · have hd : decide ((100 : Int) < (len : Int)) = true := by simp; omega
    go_enter Try.func6, Try.ntmps6
    go_wp2_with fail
    go_ret
    exact ⟨rfl, Below.refl _ _⟩
  · have h200' : len ≤ 100 := by omega
    obtain ⟨N, hN⟩ : ∃ N : Nat, a0 % 16 + 1 = (N : Int) := Int.eq_ofNat_of_zero_le (by omega)
    have hN1 : 1 ≤ (N : Int) := by omega
    have hN2 : (N : Int) ≤ 16 := by omega
    have HN := Lib.hid hN; clear hN
    have Hrow := Lib.hid hrow; clear hrow hz
    go_enter Try.func6, Try.ntmps6
    go_wp2_with fail
    rw [HN.out]
    refine (new_int w N (by omega) (by omega)).mono ?_
    rintro e w1 ⟨K, rfl, hd1, t1, l1⟩
    obtain ⟨d, hd⟩ : ∃ d, K.d = d := ⟨_, rfl⟩
    rw [hd]
    have HK := Lib.hid hd; clear hd
    go_wp2_with fail
    go_loopw [8] (fun i wr => ApRel w d N len i wr) (fun i _ => len - (intOf i).toNat)
    case atStart => exact ⟨0, _, K, by omega, rfl, by simp, HK.out, l1, hd1, t1⟩
    case round =>
      obtain ⟨k, S, K, hk, rfl, hS, hK, hfoot, hdr, hbw⟩ := hrel
      have HK := Lib.hid hK; clear hK
      have HS := Lib.hid hS; clear hS
      by_cases hkl : k < len
      · obtain ⟨b, off, L, t, fz, rfl, hblt, hg, hle, hE0⟩ := Hrow.out.resolve_left (by omega)
        have hE := put_cells hg hle hE0
        clear hE0 hle
        obtain ⟨pa, pc, ca0, cc0, hpa, hpc⟩ := hE k hkl
        clear hE
        obtain ⟨at_, hat⟩ : ∃ q : Nat, pa % (N : Int) = (q : Int) := Int.eq_ofNat_of_zero_le (Int.emod_nonneg _ (by omega))
        have hatN : at_ < N := by have := Int.emod_lt_of_pos pa (show (0 : Int) < (N : Int) by omega); omega
        have HA := Lib.hid hat; clear hat
        have hklI : (k : Int) < (len : Int) := by omega
        have Hca := Lib.hid ca0; have Hcc := Lib.hid cc0; clear ca0 cc0
        have hflt := hdr.lt
        go_wp2_with fail
        refine (copy_d wr d K HK.out _ hdr).mono ?_
        rintro e wa ⟨Ko, rfl, hoa, hba, lo⟩
        have hda := hdr.kept hba
        have ta := hbw.trans (hba.mono hbw.size)
        have ca : wa.cell? ⟨b, off + k * 2, none⟩ = some (.int .u8 pa) := by rw [ta.cell (p := ⟨b, off + k * 2, none⟩) hblt]; exact Hca.out
        have cc : wa.cell? ⟨b, off + k * 2 + 1, none⟩ = some (.int .u8 pc) := by rw [ta.cell (p := ⟨b, off + k * 2 + 1, none⟩) hblt]; exact Hcc.out
        obtain ⟨od, hod⟩ : ∃ od, Ko.d = od := ⟨_, rfl⟩
        rw [hod]
        have HO := Lib.hid hod; clear hod
        go_wp2_with fail
        rw [HA.out]
        refine (sector_int wa pc (by omega) (by omega)).mono ?_
        rintro e wb ⟨gb, rfl, hgb, hsb, hbb⟩
        have hdb := hda.kept hbb
        have hob := hoa.kept hbb
        have tb := ta.trans (hbb.mono ta.size)
        clear ca cc
        go_wp2_with fail
        refine (writeSector_d wb d K HK.out _ hdb at_ (by omega) (by have := HS.out; simp [apM]; omega) rfl (by simp [apM]; omega) gb _ _ hsb (fun hx => by have := hda.lt _ hx; omega)).mono ?_
        rintro e wc ⟨rfl, ⟨Kc, hKc, hfc, hdc⟩, hoc, hzc⟩
        rw [apM_write] at hdc ⊢
        have hdc : DiskAt wc Kc (apM (S.set at_ (z64 (UInt8.ofNat pc.toNat))) (k + 1)) := hdc
        have hoc' := hob.only hoc (fun b hb hf => by have := lo b hb; have := hflt b hf; omega)
        have tc := tb.trans (hoc.below hfoot tb.size)
        have lc : ∀ b, Kc.foot b → w.heap.size ≤ b := fun b h => hfoot b (hfc b h)
        have HKc := Lib.hid hKc; clear hKc
        go_wp2_with fail
        refine (writes_d wc d Kc HKc.out _ hdc).mono ?_
        rintro e w' ⟨rfl, rfl⟩
        have hv : (((apM (S.set at_ (z64 (UInt8.ofNat pc.toNat))) (k + 1)).writes : Nat) : Int) = (k : Int) + 1 := rfl
        rw [hv]; clear hv
        go_wp2_with fail
        refine (writes_d wc od Ko HO.out _ hoc').mono ?_
        rintro e w' ⟨rfl, rfl⟩
        have hv : (((apM S k).writes : Nat) : Int) = (k : Int) := rfl
        rw [hv]; clear hv
        generalize hS2 : S.set at_ (z64 (UInt8.ofNat pc.toNat)) = S2 at *
        have HS2 := Lib.hid hS2; clear hS2
        go_wp2_with fail
        clear hdr hbw hflt hoa hba hda ta hsb hbb hdb hob tb hoc hzc
        obtain ⟨wo, hwo⟩ : ∃ wo : World, wo = wr := ⟨_, rfl⟩
        clear hwo
        skip
        go_loopw [11] (fun i wr => ApRel2 w N Kc Ko S S2 k i wr) (fun i _ => N - (intOf i).toNat)
        case atStart => exact ⟨0, by omega, rfl, hdc, hoc', tc⟩
        case round =>
          clear hdc hoc' tc
          obtain ⟨j, hj, rfl, hdj, hoj, tj⟩ := hrel
          by_cases hjN : j < N
          · have hjS : j < S.length := by rw [HS.out]; exact hjN
            have hjS2 : j < S2.length := by rw [← HS2.out]; simpa using hjS
            have hjI : (j : Int) < (N : Int) := by omega
            have e64 := hoj.len64 j hjS
            have e64' := hdj.len64 j hjS2
            have heq : S2[j] = if at_ = j then z64 (UInt8.ofNat pc.toNat) else S[j] := by
              have := HS2.out; subst this; rw [List.getElem_set]
            go_wp2_with fail
            refine (read_d _ d Kc HKc.out _ j hdj (by omega) (by simp [apM]; omega) rfl).mono ?_
            rintro e wd ⟨r1, rfl, hr1, hbd⟩
            have hr1 : wd.ownsRow wr.heap.size 5 1 r1 64 ((S2[j]).map B) := hr1
            have hdd := hdj.kept hbd
            have hod := hoj.kept hbd
            have td := tj.trans (hbd.mono tj.size)
            go_wp2_with fail
            refine (read_d _ od Ko HO.out _ j hod (by omega) (by simp [apM]; omega) rfl).mono ?_
            rintro e we ⟨r2, rfl, hr2, hbe⟩
            have hr2 : we.ownsRow wd.heap.size 5 1 r2 64 ((S[j]).map B) := hr2
            have hde := hdd.kept hbe
            have hoe := hod.kept hbe
            have te := td.trans (hbe.mono td.size)
            have hbee : Below we.heap.size we we.drew := (Below.refl _ _).drew
            have q1 : ∀ w', Later we.drew w' → (convert 28 9 r1).run Try.prog w' = .ok (.string ⟨(S2[j]).toArray⟩) w' := fun w' hb => owns_later (l := S2[j]) hr1 e64' (kept_trans hbe (kept_trans hbee hb))
            have q2 : ∀ w', Later we.drew w' → (convert 28 9 r2).run Try.prog w' = .ok (.string ⟨(S[j]).toArray⟩) w' := fun w' hb => owns_later (l := S[j]) hr2 e64 (kept_trans hbee hb)
            have q3 : ∀ w', Later we.drew w' → w'.cell? ⟨b, off + k * 2 + 1, none⟩ = some (.int .u8 pc) := fun w' hb => by
              rw [(te.drew.trans (hb.mono te.size)).cell (p := ⟨b, off + k * 2 + 1, none⟩) hblt]; exact Hcc.out
            clear e64 e64' hr1 hr2
            rw [heq] at q1
            clear heq
            generalize S[j] = x at *
            have hja : at_ = j ∨ at_ ≠ j := by omega
            rcases hja with hja | hja
            · subst hja
              rw [if_pos rfl] at q1
              have h1 : (at_ == at_) = true := by simp
              go_wp2_with fail
              refine wp_region_can Later [(0, true), (1, true), (2, true), (3, true), (4, true), (5, true), (6, true), (7, true), (8, true), (9, true), (10, true), (11, true), (12, true), (13, true), (14, true), (15, true), (16, true), (17, true), (18, false), (19, true), (20, true), (21, true), (22, true), (23, true), (24, true), (25, true), (26, true), (27, true), (28, true), (29, true), (30, true), (31, true), (32, true), (33, true), (34, true)] (by kernel_rfl) (by kernel_rfl) later_refl later_trans ?_
              repeat (first
                | (refine can_yes (v := ?_) rfl (wanted_none rfl) (fun w' hC => ?_) (fun K hK => ?_); rotate_left; (focus (go_simp; first | done | exact rfl)); go_simp; refine hK _ ?_; clear hK K)
                | (refine can_guard rfl (fun A B hA hB => ?_); go_simp; first | (refine hA ⟨?_, fun w' hC => ?_, fun K hK => ?_⟩; rotate_left; (focus (go_simp; first | done | exact rfl)); go_simp; refine hK _ ?_; clear hK K hA hB A B) | (refine hB (fun K hK => ?_); go_simp; refine hK _ ?_; clear hK K hA hB A B))
                | (refine can_guard_go rfl (fun A B hA hB => ?_); go_simp; refine hB (fun K hK => ?_); go_simp; refine hK _ ?_; clear hK K hA hB A B))
              refine can_go rfl rfl (fun K hK => ?_)
              go_simp
              refine (sector_int _ pc (by omega) (by omega)).mono ?_
              rintro e wx ⟨gx, rfl, hgx, hsx, hbx⟩
              refine ⟨_, rfl, hbx, hK _ _ ?_⟩
              clear hK q1 q2 q3
              have qx : ∀ w', Later wx w' → (convert 28 9 (.slice (some ⟨gx, 0, none⟩) 64 64)).run Try.prog w' = .ok (.string ⟨(z64 (UInt8.ofNat pc.toNat)).toArray⟩) w' := fun w' hb => sector_later hsx hb
              go_simp
              repeat (first
                | (refine can_yes (v := ?_) rfl (wanted_none rfl) (fun w' hC => ?_) (fun K hK => ?_); rotate_left; (focus (go_simp; first | done | exact rfl)); go_simp; refine hK _ ?_; clear hK K)
                | (refine can_guard rfl (fun A B hA hB => ?_); go_simp; first | (refine hA ⟨?_, fun w' hC => ?_, fun K hK => ?_⟩; rotate_left; (focus (go_simp; first | done | exact rfl)); go_simp; refine hK _ ?_; clear hK K hA hB A B) | (refine hB (fun K hK => ?_); go_simp; refine hK _ ?_; clear hK K hA hB A B))
                | (refine can_guard_go rfl (fun A B hA hB => ?_); go_simp; refine hB (fun K hK => ?_); go_simp; refine hK _ ?_; clear hK K hA hB A B))
              refine can_nil ?_
              go_wp2_with fail
              go_roundw
              case rel => exact ⟨at_ + 1, by omega, by go_num, hde.kept (kept_trans hbee hbx), hoe.kept (kept_trans hbee hbx), te.trans ((kept_trans hbee hbx).mono te.size)⟩
              case measure => simp [intOf]; omega
            · rw [if_neg hja] at q1
              have h1 : (j == at_) = false := beq_eq_false_iff_ne.2 (Ne.symm hja)
              have h1i : ((j : Int) == (at_ : Int)) = false := beq_eq_false_iff_ne.2 (by omega)
              have h2 : (j != at_) = true := bne_iff_ne.2 (Ne.symm hja)
              have h2i : ((j : Int) != (at_ : Int)) = true := bne_iff_ne.2 (by omega)
              clear hja
              go_wp2_with fail
              refine wp_region_can Later [(0, true), (1, true), (2, true), (3, true), (4, true), (5, true), (6, true), (7, true), (8, true), (9, true), (10, true), (11, true), (12, true), (13, true), (14, true), (15, true), (16, true), (17, true), (18, false), (19, true), (20, true), (21, true), (22, true), (23, true), (24, true), (25, true), (26, true), (27, true), (28, true), (29, true), (30, true), (31, true), (32, true), (33, true), (34, true)] (by kernel_rfl) (by kernel_rfl) later_refl later_trans ?_
              repeat (first
                | (refine can_yes (v := ?_) rfl (wanted_none rfl) (fun w' hC => ?_) (fun K hK => ?_); rotate_left; (focus (go_simp; first | done | exact rfl)); go_simp; refine hK _ ?_; clear hK K)
                | (refine can_guard rfl (fun A B hA hB => ?_); go_simp; first | (refine hA ⟨?_, fun w' hC => ?_, fun K hK => ?_⟩; rotate_left; (focus (go_simp; first | done | exact rfl)); go_simp; refine hK _ ?_; clear hK K hA hB A B) | (refine hB (fun K hK => ?_); go_simp; refine hK _ ?_; clear hK K hA hB A B))
                | (refine can_guard_go rfl (fun A B hA hB => ?_); go_simp; refine hB (fun K hK => ?_); go_simp; refine hK _ ?_; clear hK K hA hB A B))
              refine can_nil ?_
              go_wp2_with fail
              go_roundw
              case rel => exact ⟨j + 1, by omega, by go_num, hde.kept hbee, hoe.kept hbee, te.trans (hbee.mono te.size)⟩
              case measure => simp [intOf]; omega
          · have hjI : ¬ (j : Int) < (N : Int) := by omega
            go_wp2_with fail
            go_roundw
            case rel => exact ⟨k + 1, S2, Kc, by omega, by go_num, by rw [← HS2.out, List.length_set]; exact HS.out, HKc.out, lc, hdj, tj⟩
            case measure => simp [intOf]; omega
      · have hkI : ¬ (k : Int) < (len : Int) := by omega
        go_wp2_with fail
        refine (disk_works wr).mono ?_
        rintro e wz ⟨rfl, hbz⟩
        go_wp2_with fail
        go_ret
        exact ⟨rfl, hbw.trans (hbz.mono hbw.size)⟩
end Go.Proofs.Ytgbcpcbcikadlaa
