/- like, of a pair with journals. -/
import Derived.Test.YtmimplmeccoahaaDoorP4
namespace Go.Proofs.YtmimplmeccoahaaDoor
open Go.RowKit
set_option linter.unusedVariables false
set_option maxRecDepth 20000
attribute [local go_sem] opC upC


set_option maxRecDepth 100000 in
set_option maxHeartbeats 4000000 in
theorem like_some (w : World) (p lo : Nat) (M : MD) (J : MJ) (h : PairX w p lo M (some J)) :
    Calls Tryd.prog 37 #[.pointer (some ⟨p, 0, none⟩)] w fun e w' => e = .returned (.bool true) ∧ Below w.heap.size w w' := by
  obtain ⟨⟨F, G, d, jv, e, kv⟩, ⟨hblk, hps, hrs, -, -, -, -⟩⟩ := h
  obtain ⟨jk, hK, hjv, -, hj⟩ := hps
  obtain ⟨rk, hKR, hkv, -, hr⟩ := hrs
  dsimp only at hblk hjv hkv hK hKR
  subst hjv hkv hK hKR
  obtain ⟨cap, hcap, -, r1, r5⟩ := hr.ref.row
  have hlenL : J.L.length ≤ 65536 := by
    have h1 : takenL J.L ≤ halfN M.S.length := hj.room
    have h2 := length_le_taken J.L
    have h3 : M.S.length ≤ 65536 := hj.disk.le
    unfold halfN at h1
    omega
  have hdead : w.cell? ⟨rk.j, 3, none⟩ = some (.bool J.dead) := by
    obtain ⟨ra, rc, R, hb, -⟩ := hr.recs
    simpa using hb.cell 3
  have a0 : ∀ w', Later w.drew w' → w'.cell? ⟨p, 0, none⟩ = some (.pointer (some ⟨jk.K.d, 0, none⟩)) := fun w' hh => later_cell (by simpa using hblk.cell 0) hh
  have a1 : ∀ w', Later w.drew w' → w'.cell? ⟨p, 1, none⟩ = some (.pointer (some ⟨jk.j, 0, none⟩)) := fun w' hh => later_cell (by simpa using hblk.cell 1) hh
  have a2 : ∀ w', Later w.drew w' → w'.cell? ⟨p, 2, none⟩ = some (.pointer (some ⟨rk.K.d, 0, none⟩)) := fun w' hh => later_cell (by simpa using hblk.cell 2) hh
  have a3 : ∀ w', Later w.drew w' → w'.cell? ⟨p, 3, none⟩ = some (.pointer (some ⟨rk.j, 0, none⟩)) := fun w' hh => later_cell (by simpa using hblk.cell 3) hh
  have b1 : ∀ w', Later w.drew w' → w'.cell? ⟨rk.K.d, 1, none⟩ = some (.bool M.down) := fun w' hh => later_cell r1 hh
  have b5 : ∀ w', Later w.drew w' → w'.cell? ⟨rk.K.d, 5, none⟩ = some (.int .i64 (M.writes : Int)) := fun w' hh => later_cell r5 hh
  obtain ⟨dead, hde⟩ : ∃ q, J.dead = q := ⟨_, rfl⟩
  rw [hde] at hdead
  have b3' : ∀ w', Later w.drew w' → w'.cell? ⟨rk.j, 3, none⟩ = some (.bool dead) := fun w' hh => later_cell hdead hh
  have kd : Below w.heap.size w w.drew := (Below.refl _ _).drew
  have l0 : Later w.drew w.drew.drew := (Below.refl _ _).drew
  have HW := Lib.hid (writes_any w.drew jk.K M (hj.disk.kept kd))
  have HD := Lib.hid (down_any w.drew jk.K M (hj.disk.kept kd))
  have Hj2 := Lib.hid (hj.kept (w' := w.drew.drew) kd.drew); have Hr2 := Lib.hid (hr.kept (w' := w.drew.drew) kd.drew)
  have A1 := Lib.hid a1; have A3 := Lib.hid a3; have B3 := Lib.hid b3'; have Hde := Lib.hid hde
  clear hblk hj hr r1 r5 b3' hdead hde kd
  generalize (M.writes : Int) = x at *
  generalize M.down = y at *
  go_enter Tryd.func37, Tryd.ntmps37
  go_wp2_with fail
  refine wp_region_can Later [(0, true), (1, true), (2, true), (3, true), (4, true), (5, true), (6, true), (7, true), (8, true), (9, true), (10, true), (11, true), (12, true), (13, true), (14, true), (15, true), (17, true), (18, true), (19, true), (20, true), (21, true), (22, true), (23, true), (16, false), (24, true), (25, true), (26, true), (27, true), (28, true), (29, true), (30, true), (32, true), (33, true), (34, true), (35, true), (36, true), (37, true), (38, true), (31, false), (39, true), (40, true)] (by kernel_rfl) (by kernel_rfl) later_refl later_trans ?_
  repeat (first
    | (refine can_yes (v := ?_) rfl (wanted_none rfl) (fun w' hC => ?_) (fun K hK => ?_); rotate_left; (focus (go_simp; first | done | exact rfl)); go_simp; refine hK _ ?_; clear hK K)
    | (refine can_guard rfl (fun A B hA hB => ?_); go_simp; first | (refine hA ⟨?_, fun w' hC => ?_, fun K hK => ?_⟩; rotate_left; (focus (go_simp; first | done | exact rfl)); go_simp; refine hK _ ?_; clear hK K hA hB A B) | (refine hB (fun K hK => ?_); go_simp; refine hK _ ?_; clear hK K hA hB A B))
    | (refine can_guard_go rfl (fun A B hA hB => ?_); go_simp; refine hB (fun K hK => ?_); go_simp; refine hK _ ?_; clear hK K hA hB A B))
  refine can_go rfl rfl (fun KK hK => ?_)
  go_simp
  refine HW.out.mono ?_
  rintro e w' ⟨rfl, rfl⟩
  refine ⟨_, rfl, later_refl _, hK _ _ ?_⟩
  clear hK KK
  go_simp
  repeat (first
    | (refine can_yes (v := ?_) rfl (wanted_none rfl) (fun w' hC => ?_) (fun K hK => ?_); rotate_left; (focus (go_simp; first | done | exact rfl)); go_simp; refine hK _ ?_; clear hK K)
    | (refine can_guard rfl (fun A B hA hB => ?_); go_simp; first | (refine hA ⟨?_, fun w' hC => ?_, fun K hK => ?_⟩; rotate_left; (focus (go_simp; first | done | exact rfl)); go_simp; refine hK _ ?_; clear hK K hA hB A B) | (refine hB (fun K hK => ?_); go_simp; refine hK _ ?_; clear hK K hA hB A B))
    | (refine can_guard_go rfl (fun A B hA hB => ?_); go_simp; refine hB (fun K hK => ?_); go_simp; refine hK _ ?_; clear hK K hA hB A B))
  refine can_go rfl rfl (fun KK hK => ?_)
  go_simp
  refine HD.out.mono ?_
  rintro e w' ⟨rfl, rfl⟩
  refine ⟨_, rfl, later_refl _, hK _ _ ?_⟩
  clear hK KK
  go_simp
  repeat (first
    | (refine can_yes (v := ?_) rfl (wanted_none rfl) (fun w' hC => ?_) (fun K hK => ?_); rotate_left; (focus (go_simp; first | done | exact rfl)); go_simp; refine hK _ ?_; clear hK K)
    | (refine can_guard rfl (fun A B hA hB => ?_); go_simp; first | (refine hA ⟨?_, fun w' hC => ?_, fun K hK => ?_⟩; rotate_left; (focus (go_simp; first | done | exact rfl)); go_simp; refine hK _ ?_; clear hK K hA hB A B) | (refine hB (fun K hK => ?_); go_simp; refine hK _ ?_; clear hK K hA hB A B))
    | (refine can_guard_go rfl (fun A B hA hB => ?_); go_simp; refine hB (fun K hK => ?_); go_simp; refine hK _ ?_; clear hK K hA hB A B))
  refine can_nil ?_
  clear a0 a1 a2 a3 b1 b5 HW HD
  obtain ⟨W, hW⟩ : ∃ W, W = w.drew.drew := ⟨_, rfl⟩
  have HWW := Lib.hid hW
  have a1 : ∀ w', Later w.drew.drew w' → w'.cell? ⟨p, 1, none⟩ = some (.pointer (some ⟨jk.j, 0, none⟩)) := fun w' hh => A1.out w' (later_trans _ _ _ l0 hh)
  have a3 : ∀ w', Later w.drew.drew w' → w'.cell? ⟨p, 3, none⟩ = some (.pointer (some ⟨rk.j, 0, none⟩)) := fun w' hh => A3.out w' (later_trans _ _ _ l0 hh)
  have b3 : ∀ w', Later w.drew.drew w' → w'.cell? ⟨rk.j, 3, none⟩ = some (.bool dead) := fun w' hh => B3.out w' (later_trans _ _ _ l0 hh)
  go_wp2_with fail
  refine wp_region_can Later [(0, true), (1, true), (2, true), (3, true), (4, true), (5, true), (6, true), (7, true), (8, true), (9, true), (11, true), (12, true), (13, true), (14, true), (10, false), (15, false), (16, false), (17, true), (18, true), (19, true), (20, true), (21, true), (23, true), (24, true), (25, true), (26, true), (22, false), (27, false), (28, true), (29, true), (30, true), (31, true), (32, true), (33, true), (34, true), (36, true), (37, true), (38, true), (39, true), (40, true), (41, true), (42, true), (35, false), (43, true), (44, true), (45, true), (46, true)] (by kernel_rfl) (by kernel_rfl) later_refl later_trans ?_
  repeat (first
    | (refine can_yes (v := ?_) rfl (wanted_none rfl) (fun w' hC => ?_) (fun K hK => ?_); rotate_left; (focus (go_simp; first | done | exact rfl)); go_simp; refine hK _ ?_; clear hK K)
    | (refine can_guard rfl (fun A B hA hB => ?_); go_simp; first | (refine hA ⟨?_, fun w' hC => ?_, fun K hK => ?_⟩; rotate_left; (focus (go_simp; first | done | exact rfl)); go_simp; refine hK _ ?_; clear hK K hA hB A B) | (refine hB (fun K hK => ?_); go_simp; refine hK _ ?_; clear hK K hA hB A B))
    | (refine can_guard_go rfl (fun A B hA hB => ?_); go_simp; refine hB (fun K hK => ?_); go_simp; refine hK _ ?_; clear hK K hA hB A B))
  refine can_go rfl rfl (fun KK hK => ?_)
  go_simp
  refine (records_J w.drew.drew jk M J Hj2.out).mono ?_
  rintro e w3 ⟨r, R3, rfl, hr3, -, hb3⟩
  have l3 : Later w.drew w3 := later_trans _ _ _ l0 hb3
  refine ⟨_, rfl, hb3, hK _ _ ?_⟩
  clear hK KK a1 a3 b3
  have a1 : ∀ w', Later w3 w' → w'.cell? ⟨p, 1, none⟩ = some (.pointer (some ⟨jk.j, 0, none⟩)) := fun w' hh => A1.out w' (later_trans _ _ _ l3 hh)
  have a3 : ∀ w', Later w3 w' → w'.cell? ⟨p, 3, none⟩ = some (.pointer (some ⟨rk.j, 0, none⟩)) := fun w' hh => A3.out w' (later_trans _ _ _ l3 hh)
  have b3 : ∀ w', Later w3 w' → w'.cell? ⟨rk.j, 3, none⟩ = some (.bool dead) := fun w' hh => B3.out w' (later_trans _ _ _ l3 hh)
  go_simp
  repeat (first
    | (refine can_yes (v := ?_) rfl (wanted_none rfl) (fun w' hC => ?_) (fun K hK => ?_); rotate_left; (focus (go_simp; first | done | exact rfl)); go_simp; refine hK _ ?_; clear hK K)
    | (refine can_guard rfl (fun A B hA hB => ?_); go_simp; first | (refine hA ⟨?_, fun w' hC => ?_, fun K hK => ?_⟩; rotate_left; (focus (go_simp; first | done | exact rfl)); go_simp; refine hK _ ?_; clear hK K hA hB A B) | (refine hB (fun K hK => ?_); go_simp; refine hK _ ?_; clear hK K hA hB A B))
    | (refine can_guard_go rfl (fun A B hA hB => ?_); go_simp; refine hB (fun K hK => ?_); go_simp; refine hK _ ?_; clear hK K hA hB A B))
  refine can_go rfl rfl (fun KK hK => ?_)
  go_simp
  refine (rrecords_any w3 rk M J (Hr2.out.kept hb3)).mono ?_
  rintro e w4 ⟨r', R4, rfl, hr4, hb4⟩
  have l4 : Later w.drew w4 := later_trans _ _ _ l3 hb4
  refine ⟨_, rfl, hb4, hK _ _ ?_⟩
  clear hK KK a1 a3 b3
  have a1 : ∀ w', Later w4 w' → w'.cell? ⟨p, 1, none⟩ = some (.pointer (some ⟨jk.j, 0, none⟩)) := fun w' hh => A1.out w' (later_trans _ _ _ l4 hh)
  have a3 : ∀ w', Later w4 w' → w'.cell? ⟨p, 3, none⟩ = some (.pointer (some ⟨rk.j, 0, none⟩)) := fun w' hh => A3.out w' (later_trans _ _ _ l4 hh)
  have b3 : ∀ w', Later w4 w' → w'.cell? ⟨rk.j, 3, none⟩ = some (.bool dead) := fun w' hh => B3.out w' (later_trans _ _ _ l4 hh)
  go_simp
  repeat (first
    | (refine can_yes (v := ?_) rfl (wanted_none rfl) (fun w' hC => ?_) (fun K hK => ?_); rotate_left; (focus (go_simp; first | done | exact rfl)); go_simp; refine hK _ ?_; clear hK K)
    | (refine can_guard rfl (fun A B hA hB => ?_); go_simp; first | (refine hA ⟨?_, fun w' hC => ?_, fun K hK => ?_⟩; rotate_left; (focus (go_simp; first | done | exact rfl)); go_simp; refine hK _ ?_; clear hK K hA hB A B) | (refine hB (fun K hK => ?_); go_simp; refine hK _ ?_; clear hK K hA hB A B))
    | (refine can_guard_go rfl (fun A B hA hB => ?_); go_simp; refine hB (fun K hK => ?_); go_simp; refine hK _ ?_; clear hK K hA hB A B))
  have heq := equal_any w4 _ _ _ _ _ _ (hr3.kept hb4).at hr4.at (by omega) (by omega)
  rw [show decide (J.L = J.L) = true from by simp] at heq
  have Heq := Lib.hid heq
  clear heq hr3 hr4
  refine can_go rfl rfl (fun KK hK => ?_)
  go_simp
  refine Heq.out.mono ?_
  rintro e w5 ⟨rfl, hd5⟩
  have hd5 : Drew w4 w5 := hd5
  have l5 : Later w.drew w5 := later_trans _ _ _ l4 hd5.later
  refine ⟨_, rfl, hd5.later, hK _ _ ?_⟩
  clear hK KK a1 a3 b3 Heq
  have a1 : ∀ w', Later w5 w' → w'.cell? ⟨p, 1, none⟩ = some (.pointer (some ⟨jk.j, 0, none⟩)) := fun w' hh => A1.out w' (later_trans _ _ _ l5 hh)
  have a3 : ∀ w', Later w5 w' → w'.cell? ⟨p, 3, none⟩ = some (.pointer (some ⟨rk.j, 0, none⟩)) := fun w' hh => A3.out w' (later_trans _ _ _ l5 hh)
  have b3 : ∀ w', Later w5 w' → w'.cell? ⟨rk.j, 3, none⟩ = some (.bool dead) := fun w' hh => B3.out w' (later_trans _ _ _ l5 hh)
  go_simp
  repeat (first
    | (refine can_yes (v := ?_) rfl (wanted_none rfl) (fun w' hC => ?_) (fun K hK => ?_); rotate_left; (focus (go_simp; first | done | exact rfl)); go_simp; refine hK _ ?_; clear hK K)
    | (refine can_guard rfl (fun A B hA hB => ?_); go_simp; first | (refine hA ⟨?_, fun w' hC => ?_, fun K hK => ?_⟩; rotate_left; (focus (go_simp; first | done | exact rfl)); go_simp; refine hK _ ?_; clear hK K hA hB A B) | (refine hB (fun K hK => ?_); go_simp; refine hK _ ?_; clear hK K hA hB A B))
    | (refine can_guard_go rfl (fun A B hA hB => ?_); go_simp; refine hB (fun K hK => ?_); go_simp; refine hK _ ?_; clear hK K hA hB A B))
  have hw5 : Below w.drew.drew.heap.size w.drew.drew w5 := later_trans _ _ _ (later_trans _ _ _ hb3 hb4) hd5.later
  have hj5 := Hj2.out.kept hw5
  have hr5 := Hr2.out.kept hw5
  have hroom : Calls Tryd.prog 17 #[.pointer (some ⟨jk.j, 0, none⟩)] w5 fun e w' => e = .returned (.int .i64 (roomV M.S.length J.L)) ∧ Drew w5 w' := by
    have h1 : takenL J.L ≤ halfN M.S.length := hj5.room
    obtain ⟨ra, rc, R, hjb, hrr, hown⟩ := hj5.recs
    exact room_any w5 jk.j jk.K.d J.g (takenL J.L) _ J.dead jk.K _ hjb hj5.disk rfl (by have : 8 ≤ M.S.length := hj5.size8; omega) h1
  have Hj5 := Lib.hid hj5; have Hr5 := Lib.hid hr5
  obtain ⟨rv, hrv⟩ : ∃ q, roomV M.S.length J.L = q := ⟨_, rfl⟩
  rw [hrv] at hroom
  have Hroom := Lib.hid hroom; have Hrv := Lib.hid hrv
  clear hj5 hr5 hroom hrv Hj2 Hr2
  refine can_go rfl rfl (fun KK hK => ?_)
  go_simp
  refine Hroom.out.mono ?_
  rintro e w6 ⟨rfl, hd6⟩
  have l6 : Later w.drew w6 := later_trans _ _ _ l5 hd6.later
  have hroom2 : Calls Tryd.prog 65 #[.pointer (some ⟨rk.j, 0, none⟩)] w6 fun e w' => e = .returned (.int .i64 (roomV M.S.length J.L)) ∧ w6 = w' := rroom_any w6 rk M J (Hr5.out.kept hd6.below)
  rw [Hrv.out] at hroom2
  have Hroom2 := Lib.hid hroom2
  have Hdd := Lib.hid (dead_J w6 jk M J (Hj5.out.kept hd6.below))
  refine ⟨_, rfl, hd6.later, hK _ _ ?_⟩
  clear hK KK a1 a3 b3 Hroom hroom2
  have a1 : ∀ w', Later w6 w' → w'.cell? ⟨p, 1, none⟩ = some (.pointer (some ⟨jk.j, 0, none⟩)) := fun w' hh => A1.out w' (later_trans _ _ _ l6 hh)
  have a3 : ∀ w', Later w6 w' → w'.cell? ⟨p, 3, none⟩ = some (.pointer (some ⟨rk.j, 0, none⟩)) := fun w' hh => A3.out w' (later_trans _ _ _ l6 hh)
  have b3 : ∀ w', Later w6 w' → w'.cell? ⟨rk.j, 3, none⟩ = some (.bool dead) := fun w' hh => B3.out w' (later_trans _ _ _ l6 hh)
  go_simp
  repeat (first
    | (refine can_yes (v := ?_) rfl (wanted_none rfl) (fun w' hC => ?_) (fun K hK => ?_); rotate_left; (focus (go_simp; first | done | exact rfl)); go_simp; refine hK _ ?_; clear hK K)
    | (refine can_guard rfl (fun A B hA hB => ?_); go_simp; first | (refine hA ⟨?_, fun w' hC => ?_, fun K hK => ?_⟩; rotate_left; (focus (go_simp; first | done | exact rfl)); go_simp; refine hK _ ?_; clear hK K hA hB A B) | (refine hB (fun K hK => ?_); go_simp; refine hK _ ?_; clear hK K hA hB A B))
    | (refine can_guard_go rfl (fun A B hA hB => ?_); go_simp; refine hB (fun K hK => ?_); go_simp; refine hK _ ?_; clear hK K hA hB A B))
  refine can_go rfl rfl (fun KK hK => ?_)
  go_simp
  refine Hroom2.out.mono ?_
  rintro e w' ⟨rfl, rfl⟩
  refine ⟨_, rfl, later_refl _, hK _ _ ?_⟩
  clear hK KK
  go_simp
  repeat (first
    | (refine can_yes (v := ?_) rfl (wanted_none rfl) (fun w' hC => ?_) (fun K hK => ?_); rotate_left; (focus (go_simp; first | done | exact rfl)); go_simp; refine hK _ ?_; clear hK K)
    | (refine can_guard rfl (fun A B hA hB => ?_); go_simp; first | (refine hA ⟨?_, fun w' hC => ?_, fun K hK => ?_⟩; rotate_left; (focus (go_simp; first | done | exact rfl)); go_simp; refine hK _ ?_; clear hK K hA hB A B) | (refine hB (fun K hK => ?_); go_simp; refine hK _ ?_; clear hK K hA hB A B))
    | (refine can_guard_go rfl (fun A B hA hB => ?_); go_simp; refine hB (fun K hK => ?_); go_simp; refine hK _ ?_; clear hK K hA hB A B))
  refine can_go rfl rfl (fun KK hK => ?_)
  go_simp
  refine Hdd.out.mono ?_
  rintro e w' ⟨rfl, rfl⟩
  rw [Hde.out]
  refine ⟨_, rfl, later_refl _, hK _ _ ?_⟩
  clear hK KK
  go_simp
  repeat (first
    | (refine can_yes (v := ?_) rfl (wanted_none rfl) (fun w' hC => ?_) (fun K hK => ?_); rotate_left; (focus (go_simp; first | done | exact rfl)); go_simp; refine hK _ ?_; clear hK K)
    | (refine can_guard rfl (fun A B hA hB => ?_); go_simp; first | (refine hA ⟨?_, fun w' hC => ?_, fun K hK => ?_⟩; rotate_left; (focus (go_simp; first | done | exact rfl)); go_simp; refine hK _ ?_; clear hK K hA hB A B) | (refine hB (fun K hK => ?_); go_simp; refine hK _ ?_; clear hK K hA hB A B))
    | (refine can_guard_go rfl (fun A B hA hB => ?_); go_simp; refine hB (fun K hK => ?_); go_simp; refine hK _ ?_; clear hK K hA hB A B))
  refine can_nil ?_
  go_wp2_with fail
  go_ret
  exact ⟨rfl, (Below.refl _ _).drew.trans l6⟩

theorem like_any (w : World) (p lo : Nat) (M : MD) (o : Option MJ) (h : PairX w p lo M o) :
    Calls Tryd.prog 37 #[.pointer (some ⟨p, 0, none⟩)] w fun e w' => e = .returned (.bool true) ∧ Below w.heap.size w w' := by
  cases o with
  | none => exact like_none w p lo M h
  | some J => exact like_some w p lo M J h
end Go.Proofs.YtmimplmeccoahaaDoor
