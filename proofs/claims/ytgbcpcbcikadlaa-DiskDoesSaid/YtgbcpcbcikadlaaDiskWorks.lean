/- The examples of the chapter on disks hold: works returns true. -/
import Derived.Test.YtgbcpcbcikadlaaDiskUse
import Derived.Test.YtgbcpcbcikadlaaRegion
namespace Go.Proofs.Ytgbcpcbcikadlaa
open Go.RowKit
set_option linter.unusedVariables false

/-- what Read returned holds its bytes in every later world -/
theorem owns_later {w w' : World} {base : Nat} {r : Value} {l : List UInt8} (h : w.ownsRow base 5 1 r 64 (l.map B)) (hl : l.length = 64) (hb : Below w.heap.size w w') :
    (convert 28 9 r).run Try.prog w' = .ok (.string ⟨l.toArray⟩) w' := by
  have h1 : Bytes (fun b => b < w.heap.size) w r l := Bytes.of_owns (by rw [hl]; exact h) _ (fun k _ hk => hk)
  exact run_str (h1.keep fun b hb' _ => hb.block b hb')
theorem sector_later {w w' : World} {g : Nat} {c : UInt8} (h : Blk w g (List.replicate 64 (B c)) 5) (hb : Below w.heap.size w w') :
    (convert 28 9 (.slice (some ⟨g, 0, none⟩) 64 64)).run Try.prog w' = .ok (.string ⟨(List.replicate 64 c).toArray⟩) w' :=
  run_str ((bytes_of_sector h (fun b => b < w.heap.size) h.lt).keep fun b hb' _ => hb.block b hb')

/-- the same where blocks of F may have changed -/
theorem owns_laterF {F : Blks} {w w' : World} {base : Nat} {r : Value} {l : List UInt8} (h : w.ownsRow base 5 1 r 64 (l.map B)) (hl : l.length = 64) (hb : LaterF F w w') (hF : ∀ b, F b → base ≤ b → False) :
    (convert 28 9 r).run Try.prog w' = .ok (.string ⟨l.toArray⟩) w' := by
  have h1 : Bytes (fun b => b < w.heap.size ∧ base ≤ b) w r l := Bytes.of_owns (by rw [hl]; exact h) _ (fun k hk1 hk => ⟨hk, hk1⟩)
  exact run_str (h1.keep fun b hb' _ => hb.block b hb'.1 (fun hf => hF b hf hb'.2))
theorem sector_laterF {F : Blks} {w w' : World} {g : Nat} {c : UInt8} (h : Blk w g (List.replicate 64 (B c)) 5) (hb : LaterF F w w') (hF : ¬ F g) :
    (convert 28 9 (.slice (some ⟨g, 0, none⟩) 64 64)).run Try.prog w' = .ok (.string ⟨(List.replicate 64 c).toArray⟩) w' :=
  run_str ((bytes_of_sector h (fun b => b = g) rfl).keep fun b hb' hlt => hb.block b hlt (by rw [hb']; exact hF))

/-- the disk of the examples, step by step -/
def z64 (c : UInt8) : List UInt8 := List.replicate 64 c
def exM0 : MD := ⟨[z64 0, z64 0], false, none, 0⟩
def exM1 : MD := ⟨[z64 0, z64 1], false, none, 1⟩
def exM2 : MD := ⟨[z64 0, z64 1], false, some (1, z64 9), 1⟩
def exM3 : MD := ⟨[z64 2, z64 1], false, some (0, z64 9), 2⟩
def exM4 : MD := ⟨[z64 2, z64 9], true, none, 2⟩
def exM5 : MD := ⟨[z64 2, z64 9], false, none, 2⟩

attribute [local go_sem] opC upC

set_option maxHeartbeats 4000000 in
theorem disk_works (w : World) :
    Calls Try.prog 18 #[] w fun e w' => e = .returned (.bool true) ∧ Below w.heap.size w w' := by
  go_enter Try.func18, Try.ntmps18
  go_wp2_with fail
  refine (new_int w 2 (by omega) (by omega)).mono ?_
  rintro e w1 ⟨K, rfl, hd1, hb1, hf1⟩
  have hd1 : DiskAt w1 K exM0 := hd1
  obtain ⟨d, hd⟩ : ∃ d, K.d = d := ⟨_, rfl⟩
  rw [hd]
  have HK := Lib.hid hd; clear hd
  go_wp2_with fail
  refine (sector_int w1 1 (by omega) (by omega)).mono ?_
  rintro e w2 ⟨g2, rfl, hg2, hs2, hb2⟩
  have hd2 := hd1.kept hb2
  go_wp2_with fail
  refine (writeSector_d w2 d K HK.out _ hd2 1 (by omega) (by decide) rfl (by decide) g2 _ _ hs2 (fun hx => by have := hd1.lt _ hx; omega)).mono ?_
  rintro e w3 ⟨rfl, ⟨K3, hK3, hf3, hd3⟩, ho3, hz3⟩
  have HK3 := Lib.hid hK3; clear hK3
  have hd3 : DiskAt w3 K3 exM1 := hd3
  have hv : (exM0.write (Int.toNat 1) (List.replicate 64 (UInt8.ofNat (Int.toNat 1)))).2 = 0 := rfl
  rw [hv]; clear hv
  go_wp2_with fail
  refine (sector_int w3 1 (by omega) (by omega)).mono ?_
  rintro e w4 ⟨g4, rfl, hg4, hs4, hb4⟩
  have hd4 := hd3.kept hb4
  go_wp2_with fail
  refine (writeErr_d w4 d K3 HK3.out _ 2 _ hd4 (by decide)).mono ?_
  rintro e w5 ⟨rfl, rfl⟩
  have hv : exM1.chk 2 = 6 := by decide
  rw [hv]; clear hv
  go_wp2_with fail
  refine (sector_int w4 1 (by omega) (by omega)).mono ?_
  rintro e w5 ⟨g5, rfl, hg5, hs5, hb5⟩
  have hd5 := hd4.kept hb5
  go_wp2_with fail
  refine (writeLen_d w5 d K3 HK3.out _ 0 _ 63 _ (by omega) hd5 (by decide) (by decide)).mono ?_
  rintro e w6 ⟨rfl, rfl⟩
  go_wp2_with fail
  refine (sector_int w5 9 (by omega) (by omega)).mono ?_
  rintro e w6 ⟨g6, rfl, hg6, hs6, hb6⟩
  have hd6 := hd5.kept hb6
  go_wp2_with fail
  refine (failSector_d w6 d K3 HK3.out _ hd6 1 (by omega) (by omega) g6 _ _ hs6).mono ?_
  rintro e w7 ⟨rfl, ⟨K7, hK7, hf7, hd7⟩, ho7⟩
  have HK7 := Lib.hid hK7; clear hK7
  have hd7 : DiskAt w7 K7 exM2 := hd7
  go_wp2_with fail
  refine (sector_int w7 2 (by omega) (by omega)).mono ?_
  rintro e w8 ⟨g8, rfl, hg8, hs8, hb8⟩
  have hd8 := hd7.kept hb8
  go_wp2_with fail
  refine (writeSector_d w8 d K7 HK7.out _ hd8 0 (by omega) (by decide) rfl (by decide) g8 _ _ hs8 (fun hx => by have := hd7.lt _ hx; omega)).mono ?_
  rintro e w9 ⟨rfl, ⟨K9, hK9, hf9, hd9⟩, ho9, hz9⟩
  have HK9 := Lib.hid hK9; clear hK9
  have hd9 : DiskAt w9 K9 exM3 := hd9
  have hv : (exM2.write (Int.toNat 0) (List.replicate 64 (UInt8.ofNat (Int.toNat 2)))).2 = 0 := rfl
  rw [hv]; clear hv
  go_wp2_with fail
  refine (sector_int w9 2 (by omega) (by omega)).mono ?_
  rintro e wa ⟨ga, rfl, hga, hsa, hba⟩
  have hda := hd9.kept hba
  go_wp2_with fail
  refine (writeSector_d wa d K9 HK9.out _ hda 1 (by omega) (by decide) rfl (by decide) ga _ _ hsa (fun hx => by have := hd9.lt _ hx; omega)).mono ?_
  rintro e wb ⟨rfl, ⟨Kb, hKb, hfb, hdb⟩, hob, hzb⟩
  have HKb := Lib.hid hKb; clear hKb
  have hdb : DiskAt wb Kb exM4 := hdb
  have hv : (exM3.write (Int.toNat 1) (List.replicate 64 (UInt8.ofNat (Int.toNat 2)))).2 = 341 := rfl
  rw [hv]; clear hv
  go_wp2_with fail
  refine (down_d wb d Kb HKb.out _ hdb).mono ?_
  rintro e w' ⟨rfl, rfl⟩
  have hv : exM4.down = true := rfl
  rw [hv]; clear hv
  go_wp2_with fail
  refine (readErr_d wb d Kb HKb.out _ 0 hdb (by decide)).mono ?_
  rintro e w' ⟨rfl, rfl⟩
  have hv : exM4.chk 0 = 341 := by decide
  rw [hv]; clear hv
  go_wp2_with fail
  refine (up_d wb d Kb HKb.out _ hdb).mono ?_
  rintro e wc ⟨rfl, hdc, hoc, hzc⟩
  have hdc : DiskAt wc Kb exM5 := hdc
  go_wp2_with fail
  refine (read_d wc d Kb HKb.out _ 0 hdc (by omega) (by decide) rfl).mono ?_
  rintro e wd ⟨r1, rfl, hr1, hbd⟩
  have hdd := hdc.kept hbd
  go_wp2_with fail
  refine (read_d wd d Kb HKb.out _ 1 hdd (by omega) (by decide) rfl).mono ?_
  rintro e we ⟨r2, rfl, hr2, hbe⟩
  have hde := hdd.kept hbe
  go_wp2_with fail
  have hbee : Below we.heap.size we we.drew := (Below.refl _ _).drew
  have q1 : ∀ w', Later we.drew w' → (convert 28 9 r1).run Try.prog w' = .ok (.string ⟨(z64 2).toArray⟩) w' := fun w' hb => owns_later (l := z64 2) hr1 (by decide) (kept_trans hbe (kept_trans hbee hb))
  have q2 : ∀ w', Later we.drew w' → (convert 28 9 r2).run Try.prog w' = .ok (.string ⟨(z64 9).toArray⟩) w' := fun w' hb => owns_later (l := z64 9) hr2 (by decide) (kept_trans hbee hb)
  have Q2 := Lib.hid q2; clear q2
  refine wp_region_can Later [(0, true), (1, true), (2, true), (3, true), (4, true), (5, true), (6, true), (7, true), (8, true), (9, true), (10, true), (11, true), (12, true), (13, false), (14, true), (15, true), (16, true), (17, true), (18, true), (19, true), (20, false), (21, true), (22, true), (23, true), (24, true), (25, true), (26, false), (27, true), (28, true), (29, true), (30, true), (31, false), (32, true), (33, true), (34, true)] (by kernel_rfl) (by kernel_rfl) later_refl later_trans ?_
  repeat (first
    | (refine can_yes (v := ?_) rfl (wanted_none rfl) (fun w' hC => ?_) (fun K hK => ?_); rotate_left; (focus (go_simp; first | done | exact rfl)); go_simp; refine hK _ ?_; clear hK K)
    | (refine can_guard rfl (fun A B hA hB => ?_); go_simp; first | (refine hA ⟨?_, fun w' hC => ?_, fun K hK => ?_⟩; rotate_left; (focus (go_simp; first | done | exact rfl)); go_simp; refine hK _ ?_; clear hK K hA hB A B) | (refine hB (fun K hK => ?_); go_simp; refine hK _ ?_; clear hK K hA hB A B))
    | (refine can_guard_go rfl (fun A B hA hB => ?_); go_simp; refine hB (fun K hK => ?_); go_simp; refine hK _ ?_; clear hK K hA hB A B))
  refine can_go rfl rfl (fun K hK => ?_)
  go_simp
  refine (sector_int _ 2 (by omega) (by omega)).mono ?_
  rintro e wx ⟨gx, rfl, hgx, hsx, hbx⟩
  refine ⟨_, rfl, hbx, hK _ _ ?_⟩
  clear hK K q1
  have qx : ∀ w', Later wx w' → (convert 28 9 (.slice (some ⟨gx, 0, none⟩) 64 64)).run Try.prog w' = .ok (.string ⟨(z64 2).toArray⟩) w' := fun w' hb => sector_later hsx hb
  have q2 : ∀ w', Later wx w' → (convert 28 9 r2).run Try.prog w' = .ok (.string ⟨(z64 9).toArray⟩) w' := fun w' hb => Q2.out w' (later_trans _ _ _ hbx hb)
  go_simp
  repeat (first
    | (refine can_yes (v := ?_) rfl (wanted_none rfl) (fun w' hC => ?_) (fun K hK => ?_); rotate_left; (focus (go_simp; first | done | exact rfl)); go_simp; refine hK _ ?_; clear hK K)
    | (refine can_guard rfl (fun A B hA hB => ?_); go_simp; first | (refine hA ⟨?_, fun w' hC => ?_, fun K hK => ?_⟩; rotate_left; (focus (go_simp; first | done | exact rfl)); go_simp; refine hK _ ?_; clear hK K hA hB A B) | (refine hB (fun K hK => ?_); go_simp; refine hK _ ?_; clear hK K hA hB A B))
    | (refine can_guard_go rfl (fun A B hA hB => ?_); go_simp; refine hB (fun K hK => ?_); go_simp; refine hK _ ?_; clear hK K hA hB A B))
  refine can_go rfl rfl (fun K hK => ?_)
  go_simp
  refine (sector_int _ 9 (by omega) (by omega)).mono ?_
  rintro e wy ⟨gy, rfl, hgy, hsy, hby⟩
  refine ⟨_, rfl, hby, hK _ _ ?_⟩
  clear hK K qx q2
  have qy : ∀ w', Later wy w' → (convert 28 9 (.slice (some ⟨gy, 0, none⟩) 64 64)).run Try.prog w' = .ok (.string ⟨(z64 9).toArray⟩) w' := fun w' hb => sector_later hsy hb
  go_simp
  have k2 : Below we.heap.size we wy := hbee.trans (later_trans _ _ _ hbx hby)
  repeat (first
    | (refine can_yes (v := ?_) rfl (wanted_none rfl) (fun w' hC => ?_) (fun K hK => ?_); rotate_left; (focus (go_simp; first | done | exact rfl)); go_simp; refine hK _ ?_; clear hK K)
    | (refine can_guard rfl (fun A B hA hB => ?_); go_simp; first | (refine hA ⟨?_, fun w' hC => ?_, fun K hK => ?_⟩; rotate_left; (focus (go_simp; first | done | exact rfl)); go_simp; refine hK _ ?_; clear hK K hA hB A B) | (refine hB (fun K hK => ?_); go_simp; refine hK _ ?_; clear hK K hA hB A B))
    | (refine can_guard_go rfl (fun A B hA hB => ?_); go_simp; refine hB (fun K hK => ?_); go_simp; refine hK _ ?_; clear hK K hA hB A B))
  refine can_go rfl rfl (fun K hK => ?_)
  go_simp
  refine (writes_d _ d Kb HKb.out _ (hde.kept k2)).mono ?_
  rintro e w' ⟨rfl, rfl⟩
  refine ⟨_, rfl, later_refl _, hK _ _ ?_⟩
  clear hK K
  have hv : ((exM5.writes : Nat) : Int) = 2 := rfl
  rw [hv]; clear hv
  go_simp
  repeat (first
    | (refine can_yes (v := ?_) rfl (wanted_none rfl) (fun w' hC => ?_) (fun K hK => ?_); rotate_left; (focus (go_simp; first | done | exact rfl)); go_simp; refine hK _ ?_; clear hK K)
    | (refine can_guard rfl (fun A B hA hB => ?_); go_simp; first | (refine hA ⟨?_, fun w' hC => ?_, fun K hK => ?_⟩; rotate_left; (focus (go_simp; first | done | exact rfl)); go_simp; refine hK _ ?_; clear hK K hA hB A B) | (refine hB (fun K hK => ?_); go_simp; refine hK _ ?_; clear hK K hA hB A B))
    | (refine can_guard_go rfl (fun A B hA hB => ?_); go_simp; refine hB (fun K hK => ?_); go_simp; refine hK _ ?_; clear hK K hA hB A B))
  refine can_go rfl rfl (fun K hK => ?_)
  go_simp
  refine (down_d _ d Kb HKb.out _ (hde.kept k2)).mono ?_
  rintro e w' ⟨rfl, rfl⟩
  refine ⟨_, rfl, later_refl _, hK _ _ ?_⟩
  clear hK K
  have hv : exM5.down = false := rfl
  rw [hv]; clear hv
  go_simp
  repeat (first
    | (refine can_yes (v := ?_) rfl (wanted_none rfl) (fun w' hC => ?_) (fun K hK => ?_); rotate_left; (focus (go_simp; first | done | exact rfl)); go_simp; refine hK _ ?_; clear hK K)
    | (refine can_guard rfl (fun A B hA hB => ?_); go_simp; first | (refine hA ⟨?_, fun w' hC => ?_, fun K hK => ?_⟩; rotate_left; (focus (go_simp; first | done | exact rfl)); go_simp; refine hK _ ?_; clear hK K hA hB A B) | (refine hB (fun K hK => ?_); go_simp; refine hK _ ?_; clear hK K hA hB A B))
    | (refine can_guard_go rfl (fun A B hA hB => ?_); go_simp; refine hB (fun K hK => ?_); go_simp; refine hK _ ?_; clear hK K hA hB A B))
  refine can_nil ?_
  go_wp2_with fail
  go_ret
  have t1 := hb1
  have t2 := t1.trans (hb2.mono t1.size)
  have t3 := t2.trans (ho3.below hf1 t2.size)
  have l3 : ∀ b, K3.foot b → w.heap.size ≤ b := fun b h => hf1 b (hf3 b h)
  have t4 := t3.trans (hb4.mono t3.size)
  have t5 := t4.trans (hb5.mono t4.size)
  have t6 := t5.trans (hb6.mono t5.size)
  have t7 := t6.trans (ho7.below l3 t6.size)
  have l7 : ∀ b, K7.foot b → w.heap.size ≤ b := fun b h => (hf7 b h).elim (l3 b) (fun h => Nat.le_trans t6.size h)
  have t8 := t7.trans (hb8.mono t7.size)
  have t9 := t8.trans (ho9.below l7 t8.size)
  have l9 : ∀ b, K9.foot b → w.heap.size ≤ b := fun b h => l7 b (hf9 b h)
  have ta := t9.trans (hba.mono t9.size)
  have tb := ta.trans (hob.below l9 ta.size)
  have lb : ∀ b, Kb.foot b → w.heap.size ≤ b := fun b h => l9 b (hfb b h)
  have tc := tb.trans (hoc.below lb tb.size)
  have td := tc.trans (hbd.mono tc.size)
  have te := td.trans (hbe.mono td.size)
  exact ⟨rfl, te.trans (k2.mono te.size)⟩
end Go.Proofs.Ytgbcpcbcikadlaa
