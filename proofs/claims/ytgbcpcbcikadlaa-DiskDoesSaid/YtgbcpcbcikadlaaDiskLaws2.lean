/- The law DiskArmed. No condition. -/
import Derived.Test.YtgbcpcbcikadlaaDiskWorks
import Derived.OpenShut
namespace Go.Proofs.Ytgbcpcbcikadlaa
open Go.RowKit
set_option linter.unusedVariables false
attribute [local go_sem] opC upC

theorem DiskAt.only2 {w w' : World} {K : DK} {M : MD} {F : Blks} {n : Nat} (h : DiskAt w K M) (ho : Only F w w') (hK : ∀ b, K.foot b → b < n) (hF : ∀ b, F b → n ≤ b) : DiskAt w' K M :=
  h.only ho fun b hb hf => by have := hK b hb; have := hF b hf; omega

/-- the disk of the law, with one sector -/
def arM (S : List (List UInt8)) (k : Nat) (n : Nat) : MD := ⟨S, false, some (k, z64 4), n⟩

def ArRel (w : World) (B0 n c : Nat) (K6 : DK) (i : Value) (wr : World) : Prop :=
  ∃ (k : Nat) (Kr : DK) (S : List (List UInt8)), k ≤ n ∧ i = .int .i64 (k : Int) ∧ S.length = 1 ∧ Kr.d = c ∧ (∀ b, Kr.foot b → B0 ≤ b) ∧ DiskAt wr Kr (arM S (n - k) k) ∧ DiskAt wr K6 (arM [z64 0] n 0) ∧ Below w.heap.size w wr

theorem arM_write (S : List (List UInt8)) (k m : Nat) (l : List UInt8) : ((arM S (k + 1) m).write 0 l) = (arM (S.set 0 l) k (m + 1), 0) := rfl
theorem arM_write0 (S : List (List UInt8)) (m : Nat) (l : List UInt8) : ((arM S 0 m).write 0 l) = (⟨S.set 0 (z64 4), true, none, m⟩, 341) := rfl

set_option maxHeartbeats 8000000 in
theorem DiskArmed_walk (a0 a1 : Int) (w : World) (w0 : (Lit.int .u8 a0).wf = true) (w1 : (Lit.int .u8 a1).wf = true) :
    Calls Try.prog 7 #[.int .u8 a0, .int .u8 a1] w fun e w' => e = .returned (.bool true) ∧ Below w.heap.size w w' := by
  have g0 := bounds_u8 w0
  have g1 := bounds_u8 w1
  clear w0 w1
  obtain ⟨n, rfl⟩ := Int.eq_ofNat_of_zero_le g1.1
  have hn : n ≤ 255 := by omega
  go_enter Try.func7, Try.ntmps7
  go_wp2_with fail
  refine (new_int w 1 (by omega) (by omega)).mono ?_
  rintro e w1 ⟨K, rfl, hd1, t1, l1⟩
  have hd1 : DiskAt w1 K ⟨[z64 0], false, none, 0⟩ := hd1
  obtain ⟨d, hd⟩ : ∃ d, K.d = d := ⟨_, rfl⟩
  rw [hd]
  have HK := Lib.hid hd; clear hd
  go_wp2_with fail
  refine (sector_int w1 3 (by omega) (by omega)).mono ?_
  rintro e w2 ⟨g2, rfl, hg2, hs2, hb2⟩
  have hd2 := hd1.kept hb2
  have t2 := t1.trans (hb2.mono t1.size)
  go_wp2_with fail
  refine (failSector_d w2 d K HK.out _ hd2 a0 (by omega) (by omega) g2 _ _ hs2).mono ?_
  rintro e w3 ⟨rfl, ⟨K3, hK3, hf3, hd3⟩, ho3⟩
  have HK3 := Lib.hid hK3; clear hK3
  have t3 := t2.trans (ho3.below l1 t2.size)
  have l3 : ∀ b, K3.foot b → w.heap.size ≤ b := fun b h => (hf3 b h).elim (l1 b) (fun h => Nat.le_trans t2.size h)
  go_wp2_with fail
  refine (sector_int w3 3 (by omega) (by omega)).mono ?_
  rintro e w4 ⟨g4, rfl, hg4, hs4, hb4⟩
  have hd4 := hd3.kept hb4
  have t4 := t3.trans (hb4.mono t3.size)
  go_wp2_with fail
  have := fail_err w4 K3 (-1) (some ⟨g4, 0, none⟩) 64 64 (by omega) (by omega)
  rw [HK3.out] at this
  refine this.mono ?_
  rintro e w' ⟨rfl, rfl⟩
  clear this
  go_wp2_with fail
  have := fail_err w4 K3 0 none 0 0 (by omega) (by omega)
  rw [HK3.out] at this
  refine this.mono ?_
  rintro e w' ⟨rfl, rfl⟩
  clear this
  go_wp2_with fail
  refine (sector_int w4 4 (by omega) (by omega)).mono ?_
  rintro e w5 ⟨g5, rfl, hg5, hs5, hb5⟩
  have hd5 := hd4.kept hb5
  have t5 := t4.trans (hb5.mono t4.size)
  go_wp2_with fail
  refine (failSector_d w5 d K3 HK3.out _ hd5 n (by omega) (by omega) g5 _ _ hs5).mono ?_
  rintro e w6 ⟨rfl, ⟨K6, hK6, hf6, hd6⟩, ho6⟩
  have HK6 := Lib.hid hK6; clear hK6
  have t6 := t5.trans (ho6.below l3 t5.size)
  have l6 : ∀ b, K6.foot b → w.heap.size ≤ b := fun b h => (hf6 b h).elim (l3 b) (fun h => Nat.le_trans t5.size h)
  have hd6 : DiskAt w6 K6 (arM [z64 0] n 0) := hd6
  go_wp2_with fail
  refine (sector_int w6 1 (by omega) (by omega)).mono ?_
  rintro e w7 ⟨g7, rfl, hg7, hs7, hb7⟩
  have hd7 := hd6.kept hb7
  have t7 := t6.trans (hb7.mono t6.size)
  go_wp2_with fail
  refine (writeErr_d w7 d K6 HK6.out _ 5 _ hd7 (by simp [MD.chk, arM])).mono ?_
  rintro e w' ⟨rfl, rfl⟩
  have hv : (arM [z64 0] n 0).chk 5 = 6 := by simp [MD.chk, arM]
  rw [hv]; clear hv
  go_wp2_with fail
  refine (writeLen_d w7 d K6 HK6.out _ 0 none 0 0 (by omega) hd7 (by simp [MD.chk, arM]) (by omega)).mono ?_
  rintro e w' ⟨rfl, rfl⟩
  go_wp2_with fail
  refine (up_d w7 d K6 HK6.out _ hd7).mono ?_
  rintro e w8 ⟨rfl, hd8, ho8, hz8⟩
  have hd8 : DiskAt w8 K6 (arM [z64 0] n 0) := hd8
  have t8 := t7.trans (ho8.below l6 t7.size)
  go_wp2_with fail
  refine (copy_d w8 d K6 HK6.out _ hd8).mono ?_
  rintro e w9 ⟨Kc, rfl, hc9, hb9, lc⟩
  have hd9 := hd8.kept hb9
  have t9 := t8.trans (hb9.mono t8.size)
  have hdlt := hd8.lt
  obtain ⟨c, hc⟩ : ∃ c, Kc.d = c := ⟨_, rfl⟩
  rw [hc]
  go_wp2_with fail
  have H8 := Lib.hid hb9.size
  have lw8 := t8.size
  clear hd2 hd3 hd4 hd5 hd6 hd7 hs2 hs4 hs5 hs7 hd8
  go_loopw [8] (fun i wr => ArRel w w8.heap.size n c K6 i wr) (fun i _ => n - (intOf i).toNat)
  case atStart => exact ⟨0, Kc, [z64 0], by omega, rfl, rfl, hc, lc, hc9, hd9, t9⟩
  case round =>
    obtain ⟨k, Kr, S, hk, rfl, hS, hKr, lr, hcr, hdr, tr⟩ := hrel
    have HKr := Lib.hid hKr; clear hKr
    have HS := Lib.hid hS; clear hS
    have hrlt := hcr.lt
    by_cases hkn : k < n
    · go_wp2_with fail
      refine (sector_int wr 1 (by omega) (by omega)).mono ?_
      rintro e wa ⟨ga, rfl, hga, hsa, hba⟩
      have hca := hcr.kept hba
      have hda := hdr.kept hba
      have ta := tr.trans (hba.mono tr.size)
      go_wp2_with fail
      refine (writeSector_d wa c Kr HKr.out _ hca 0 (by omega) (by have := HS.out; simp [arM]; omega) rfl (by simp [arM]; omega) ga _ _ hsa (fun hx => by have := hrlt _ hx; omega)).mono ?_
      rintro e wb ⟨rfl, ⟨Kb, hKb, hfb, hcb⟩, hob, hzb⟩
      have e1 : n - k = (n - (k + 1)) + 1 := by omega
      rw [e1] at hcb
      have hv : ((arM S (n - k) k).write (Int.toNat 0) (List.replicate 64 (UInt8.ofNat (Int.toNat 1)))).2 = 0 := by rw [e1]; rfl
      rw [hv]; clear hv
      have hdb := hda.only2 hob hdlt lr
      have tb := ta.trans (hob.below (fun b h => Nat.le_trans lw8 (lr b h)) ta.size)
      clear e1
      have HKb := Lib.hid hKb; clear hKb
      go_wp2_with fail
      go_roundw
      case rel => exact ⟨k + 1, Kb, _, by omega, by go_num, by have := HS.out; simpa [arM] using this, HKb.out, fun b h => lr b (hfb b h), hcb, hdb, tb⟩
      case measure => simp [intOf]; omega
    · obtain rfl : k = n := by omega
      rw [Nat.sub_self] at hcr
      go_wp2_with fail
      refine (sector_int wr 1 (by omega) (by omega)).mono ?_
      rintro e wa ⟨ga, rfl, hga, hsa, hba⟩
      have hca := hcr.kept hba
      have hda := hdr.kept hba
      have ta := tr.trans (hba.mono tr.size)
      go_wp2_with fail
      refine (writeSector_d wa c Kr HKr.out _ hca 0 (by omega) (by have := HS.out; simp [arM]; omega) rfl (by simp [arM]; omega) ga _ _ hsa (fun hx => by have := hrlt _ hx; omega)).mono ?_
      rintro e wb ⟨rfl, ⟨Kb, hKb, hfb, hcb⟩, hob, hzb⟩
      have hcb : DiskAt wb Kb ⟨S.set 0 (z64 4), true, none, k⟩ := hcb
      have hv : ((arM S 0 k).write (Int.toNat 0) (List.replicate 64 (UInt8.ofNat (Int.toNat 1)))).2 = 341 := rfl
      rw [hv]; clear hv
      have hdb := hda.only2 hob hdlt lr
      have lb : ∀ b, Kb.foot b → w8.heap.size ≤ b := fun b h => lr b (hfb b h)
      have tb := ta.trans (hob.below (fun b h => Nat.le_trans lw8 (lr b h)) ta.size)
      have HKb := Lib.hid hKb; clear hKb
      have hS1 : S.set 0 (z64 4) = [z64 4] := by
        have := HS.out
        match S, this with
        | [x], _ => rfl
      rw [hS1] at hcb
      clear hS1
      go_wp2_with fail
      refine (sector_int wb 1 (by omega) (by omega)).mono ?_
      rintro e wc ⟨gc, rfl, hgc, hsc, hbc⟩
      have hcc := hcb.kept hbc
      have hdc := hdb.kept hbc
      have tc := tb.trans (hbc.mono tb.size)
      go_wp2_with fail
      refine (writeErr_d wc c Kb HKb.out _ 0 _ hcc (by simp [MD.chk])).mono ?_
      rintro e w' ⟨rfl, rfl⟩
      have hv : (MD.mk [z64 4] true none k).chk 0 = 341 := rfl
      rw [hv]; clear hv
      go_wp2_with fail
      refine (up_d wc c Kb HKb.out _ hcc).mono ?_
      rintro e we ⟨rfl, hce, hoe, hze⟩
      have hce : DiskAt we Kb ⟨[z64 4], false, none, k⟩ := hce
      have hde := hdc.only2 hoe hdlt lb
      have te := tc.trans (hoe.below (fun b h => Nat.le_trans lw8 (lb b h)) tc.size)
      go_wp2_with fail
      refine (read_d we c Kb HKb.out _ 0 hce (by omega) (by simp) rfl).mono ?_
      rintro e wf ⟨r1, rfl, hr1, hbf⟩
      have hr1 : wf.ownsRow we.heap.size 5 1 r1 64 ((z64 4).map B) := hr1
      have hcf := hce.kept hbf
      have hdf := hde.kept hbf
      have tf := te.trans (hbf.mono te.size)
      go_wp2_with fail
      have lbf : ∀ b, Kb.foot b → w.heap.size ≤ b := fun b h => Nat.le_trans lw8 (lb b h)
      have hflt := hcf.lt
      have kf : LaterF Kb.foot wf wf.drew := LaterF.of_below (Below.refl _ _).drew
      have q1 : ∀ w', LaterF Kb.foot wf.drew w' → (convert 28 9 r1).run Try.prog w' = .ok (.string ⟨(z64 4).toArray⟩) w' := fun w' hb => owns_laterF (l := z64 4) hr1 (by decide) (laterF_trans _ _ _ _ kf hb) (fun b hf hle => by have := hce.lt b hf; omega)
      refine wp_region_can (LaterF Kb.foot) [(0, true), (1, true), (2, true), (3, true), (4, true), (5, true), (6, true), (7, true), (8, true), (9, true), (10, true), (11, true), (12, true), (13, false), (14, true), (15, true), (16, true), (17, true), (18, true), (19, false), (20, false), (21, true), (22, true), (23, true), (24, true), (25, false), (26, true), (27, true), (28, true), (29, true), (30, false), (31, true), (32, true), (33, true), (34, false), (35, true), (36, true)] (by kernel_rfl) (by kernel_rfl) (laterF_refl _) (laterF_trans _) ?_
      repeat (first
        | (refine can_yes (v := ?_) rfl (wanted_none rfl) (fun w' hC => ?_) (fun K hK => ?_); rotate_left; (focus (go_simp; first | done | exact rfl)); go_simp; refine hK _ ?_; clear hK K)
        | (refine can_guard rfl (fun A B hA hB => ?_); go_simp; first | (refine hA ⟨?_, fun w' hC => ?_, fun K hK => ?_⟩; rotate_left; (focus (go_simp; first | done | exact rfl)); go_simp; refine hK _ ?_; clear hK K hA hB A B) | (refine hB (fun K hK => ?_); go_simp; refine hK _ ?_; clear hK K hA hB A B))
        | (refine can_guard_go rfl (fun A B hA hB => ?_); go_simp; refine hB (fun K hK => ?_); go_simp; refine hK _ ?_; clear hK K hA hB A B))
      refine can_go rfl rfl (fun K hK => ?_)
      go_simp
      refine (sector_int _ 4 (by omega) (by omega)).mono ?_
      rintro e wx ⟨gx, rfl, hgx, hsx, hbx⟩
      refine ⟨_, rfl, LaterF.of_below hbx, hK _ _ ?_⟩
      clear hK K q1
      have hgx' : wf.heap.size ≤ gx := hgx
      have qx : ∀ w', LaterF Kb.foot wx w' → (convert 28 9 (.slice (some ⟨gx, 0, none⟩) 64 64)).run Try.prog w' = .ok (.string ⟨(z64 4).toArray⟩) w' := fun w' hb => sector_laterF hsx hb (fun hf => by have := hflt _ hf; omega)
      go_simp
      have hcx := (hcf.kept (Below.refl _ _).drew).kept hbx
      have hdx := (hdf.kept (Below.refl _ _).drew).kept hbx
      have tx := tf.drew.trans (hbx.mono tf.size)
      repeat (first
        | (refine can_yes (v := ?_) rfl (wanted_none rfl) (fun w' hC => ?_) (fun K hK => ?_); rotate_left; (focus (go_simp; first | done | exact rfl)); go_simp; refine hK _ ?_; clear hK K)
        | (refine can_guard rfl (fun A B hA hB => ?_); go_simp; first | (refine hA ⟨?_, fun w' hC => ?_, fun K hK => ?_⟩; rotate_left; (focus (go_simp; first | done | exact rfl)); go_simp; refine hK _ ?_; clear hK K hA hB A B) | (refine hB (fun K hK => ?_); go_simp; refine hK _ ?_; clear hK K hA hB A B))
        | (refine can_guard_go rfl (fun A B hA hB => ?_); go_simp; refine hB (fun K hK => ?_); go_simp; refine hK _ ?_; clear hK K hA hB A B))
      refine can_go rfl rfl (fun K hK => ?_)
      go_simp
      refine (sector_int _ 1 (by omega) (by omega)).mono ?_
      rintro e wy ⟨gy, rfl, hgy, hsy, hby⟩
      refine ⟨_, rfl, LaterF.of_below hby, hK _ _ ?_⟩
      clear hK K qx
      go_simp
      have hcy := hcx.kept hby
      have hdy := hdx.kept hby
      have ty := tx.trans (hby.mono tx.size)
      refine can_go rfl rfl (fun K hK => ?_)
      go_simp
      refine (writeSector_d wy c Kb HKb.out _ hcy 0 (by omega) (by simp) rfl (by simp; omega) gy _ _ hsy (fun hx => by have := hcx.lt _ hx; omega)).mono ?_
      rintro e wz ⟨rfl, ⟨Kz, hKz, hfz, hcz⟩, hoz, hzz⟩
      refine ⟨_, rfl, hoz, hK _ _ ?_⟩
      clear hK K
      have hv : ((MD.mk [z64 4] false none k).write (Int.toNat 0) (List.replicate 64 (UInt8.ofNat (Int.toNat 1)))).2 = 0 := rfl
      rw [hv]; clear hv
      have hdz := hdy.only2 hoz hdlt lb
      have tz := ty.trans (hoz.below lbf ty.size)
      go_simp
      repeat (first
        | (refine can_yes (v := ?_) rfl (wanted_none rfl) (fun w' hC => ?_) (fun K hK => ?_); rotate_left; (focus (go_simp; first | done | exact rfl)); go_simp; refine hK _ ?_; clear hK K)
        | (refine can_guard rfl (fun A B hA hB => ?_); go_simp; first | (refine hA ⟨?_, fun w' hC => ?_, fun K hK => ?_⟩; rotate_left; (focus (go_simp; first | done | exact rfl)); go_simp; refine hK _ ?_; clear hK K hA hB A B) | (refine hB (fun K hK => ?_); go_simp; refine hK _ ?_; clear hK K hA hB A B))
        | (refine can_guard_go rfl (fun A B hA hB => ?_); go_simp; refine hB (fun K hK => ?_); go_simp; refine hK _ ?_; clear hK K hA hB A B))
      refine can_go rfl rfl (fun K hK => ?_)
      go_simp
      refine (down_d wz d K6 HK6.out _ hdz).mono ?_
      rintro e w' ⟨rfl, rfl⟩
      refine ⟨_, rfl, laterF_refl _ _, hK _ _ ?_⟩
      clear hK K
      have hv : (arM [z64 0] k 0).down = false := rfl
      rw [hv]; clear hv
      go_simp
      repeat (first
        | (refine can_yes (v := ?_) rfl (wanted_none rfl) (fun w' hC => ?_) (fun K hK => ?_); rotate_left; (focus (go_simp; first | done | exact rfl)); go_simp; refine hK _ ?_; clear hK K)
        | (refine can_guard rfl (fun A B hA hB => ?_); go_simp; first | (refine hA ⟨?_, fun w' hC => ?_, fun K hK => ?_⟩; rotate_left; (focus (go_simp; first | done | exact rfl)); go_simp; refine hK _ ?_; clear hK K hA hB A B) | (refine hB (fun K hK => ?_); go_simp; refine hK _ ?_; clear hK K hA hB A B))
        | (refine can_guard_go rfl (fun A B hA hB => ?_); go_simp; refine hB (fun K hK => ?_); go_simp; refine hK _ ?_; clear hK K hA hB A B))
      refine can_go rfl rfl (fun K hK => ?_)
      go_simp
      refine (writes_d wz d K6 HK6.out _ hdz).mono ?_
      rintro e w' ⟨rfl, rfl⟩
      refine ⟨_, rfl, laterF_refl _ _, hK _ _ ?_⟩
      clear hK K
      have hv : (((arM [z64 0] k 0).writes : Nat) : Int) = 0 := rfl
      rw [hv]; clear hv
      go_simp
      repeat (first
        | (refine can_yes (v := ?_) rfl (wanted_none rfl) (fun w' hC => ?_) (fun K hK => ?_); rotate_left; (focus (go_simp; first | done | exact rfl)); go_simp; refine hK _ ?_; clear hK K)
        | (refine can_guard rfl (fun A B hA hB => ?_); go_simp; first | (refine hA ⟨?_, fun w' hC => ?_, fun K hK => ?_⟩; rotate_left; (focus (go_simp; first | done | exact rfl)); go_simp; refine hK _ ?_; clear hK K hA hB A B) | (refine hB (fun K hK => ?_); go_simp; refine hK _ ?_; clear hK K hA hB A B))
        | (refine can_guard_go rfl (fun A B hA hB => ?_); go_simp; refine hB (fun K hK => ?_); go_simp; refine hK _ ?_; clear hK K hA hB A B))
      refine can_go rfl rfl (fun K hK => ?_)
      go_simp
      refine (disk_works wz).mono ?_
      rintro e wq ⟨rfl, hbq⟩
      refine ⟨_, rfl, LaterF.of_below hbq, hK _ _ ?_⟩
      clear hK K
      go_simp
      repeat (first
        | (refine can_yes (v := ?_) rfl (wanted_none rfl) (fun w' hC => ?_) (fun K hK => ?_); rotate_left; (focus (go_simp; first | done | exact rfl)); go_simp; refine hK _ ?_; clear hK K)
        | (refine can_guard rfl (fun A B hA hB => ?_); go_simp; first | (refine hA ⟨?_, fun w' hC => ?_, fun K hK => ?_⟩; rotate_left; (focus (go_simp; first | done | exact rfl)); go_simp; refine hK _ ?_; clear hK K hA hB A B) | (refine hB (fun K hK => ?_); go_simp; refine hK _ ?_; clear hK K hA hB A B))
        | (refine can_guard_go rfl (fun A B hA hB => ?_); go_simp; refine hB (fun K hK => ?_); go_simp; refine hK _ ?_; clear hK K hA hB A B))
      refine can_nil ?_
      go_wp2_with fail
      go_ret
      exact ⟨rfl, tz.trans (hbq.mono tz.size)⟩
end Go.Proofs.Ytgbcpcbcikadlaa
