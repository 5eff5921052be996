/- The law DiskNone. No condition. -/
import Derived.Test.YtgbcpcbcikadlaaActDisk
namespace Go.Proofs.Ytgbcpcbcikadlaa
open Go.RowKit Go.ChangeShapes Go.WideShapes Go.ChangeAt
set_option linter.unusedVariables false
attribute [local go_sem] opC upC

/-- the cells of an act, in a world -/
def IsActIn (w : World) (cs : List Value) : Prop :=
  ∃ (kind at_ n : Int) (vB : Value) (full : Bool) (l : List UInt8), cs = [.int .u8 kind, .int .i64 at_, .int .i64 n, vB, .bool full] ∧ Bytes (fun b => b < w.heap.size) w vB l ∧
    (0 ≤ kind ∧ kind ≤ 255) ∧ (-9223372036854775808 ≤ at_ ∧ at_ ≤ 9223372036854775807) ∧ (-9223372036854775808 ≤ n ∧ n ≤ 9223372036854775807)
def IsAct (w : World) (v : Value) : Prop := ∃ cs, v = .agg cs.toArray ∧ IsActIn w cs

theorem cellsAct : Try.prog.cellsOf 49 = 5 := by kernel_rfl
theorem cellsI64 : Try.prog.cellsOf 3 = 1 := by kernel_rfl
theorem cellsBs : Try.prog.cellsOf 28 = 1 := by kernel_rfl
theorem cellsBl : Try.prog.cellsOf 4 = 1 := by kernel_rfl

theorem act_of_trod {H : Type} {enc : TypeId × Value → H} {w : World} {base m : Nat} {held : Bool} {cs : List Value} {y : DataW H × List MemPlace}
    (hy : DataW.trod enc Try.prog w base (fun _ => true) held m 49 cs = some y) : IsActIn w cs := by
  obtain ⟨xs, n, _, _, hlen, hxl, hg⟩ := DataW.trod_struct Try.underlying49 hy
  have g0 := hg 0 _ rfl
  have g1 := hg 1 _ rfl
  have g2 := hg 2 _ rfl
  have g3 := hg 3 _ rfl
  have g4 := hg 4 _ rfl
  rw [cellsAct] at hlen
  match cs, hlen, xs, hxl with
  | [c0, c1, c2, c3, c4], _, [x0, x1, x2, x3, x4], _ =>
    simp [cellsU8, cellsI64, cellsBs, cellsBl] at g0 g1 g2 g3 g4
    obtain ⟨z0, e0, _, wz0⟩ := DataW.trod_int Try.underlying5 g0
    obtain ⟨z1, e1, _, wz1⟩ := DataW.trod_int Try.underlying3 g1
    obtain ⟨z2, e2, _, wz2⟩ := DataW.trod_int Try.underlying3 g2
    obtain ⟨z4, e4, _⟩ := DataW.trod_bool Try.underlying4 g4
    obtain ⟨l, hl⟩ := read_bytes Try.underlying28 Try.underlying5 cellsU8 g3
    simp at e0 e1 e2 e4
    subst e0 e1 e2 e4
    exact ⟨z0, z1, z2, c3, z4, l, rfl, hl, bounds_u8 wz0, bounds_i64 wz1, bounds_i64 wz2⟩

theorem open_Act {H : Type} {enc : TypeId × Value → H} {w : World} {b0 : Nat} {v : Value} {d : DataW H} {p : List MemPlace}
    (hv : Value.okWide Try.prog w .any b0 49 v) (h : DataW.Trod enc Try.prog w 0 (fun _ => true) true 49 v d p) : IsAct w v := by
  obtain ⟨cs, rfl, hsz⟩ := okWide_struct Try.underlying49 hv
  obtain ⟨fuel, hf⟩ := h
  exact ⟨cs.toList, by simp, act_of_trod (by simpa [Value.cells] using hf)⟩

set_option maxRecDepth 100000 in
set_option maxHeartbeats 4000000 in
theorem DiskNone_walk (v0 : Value) (w : World) (w0 : IsAct w v0) :
    Calls Try.prog 9 #[v0] w fun e w' => e = .returned (.bool true) ∧ Below w.heap.size w w' := by
  obtain ⟨cs, rfl, kind, at_, n, vB, full, l, rfl, hB, hkind, hat, hn⟩ := w0
  have hB0 := hB
  obtain ⟨a, cap, rfl, hc, hm, hz, hx⟩ := hB
  clear hz hx
  have hm' : cap ≤ 9223372036854775807 := by unfold maxLen at hm; omega
  have hnew := Blk.new w #[.int .u8 kind, .int .i64 at_, .int .i64 n, .slice a l.length cap, .bool full] 49
  have hk1 := kept_alloc w (.cells #[.int .u8 kind, .int .i64 at_, .int .i64 n, .slice a l.length cap, .bool full] 49)
  generalize hgl : l.length = len at *
  have Hgl := Lib.hid hgl; clear hgl
  go_enter Try.func9, Try.ntmps9
  go_wp2_with fail
  refine (read_nil _ _).mono ?_
  rintro e w' ⟨rfl, rfl⟩
  go_wp2_with fail
  refine (up_nil _).mono ?_
  rintro e w' ⟨rfl, rfl⟩
  go_wp2_with fail
  generalize hw1 : w.alloc (.cells #[.int .u8 kind, .int .i64 at_, .int .i64 n, .slice a len cap, .bool full] 49) = w1 at *
  clear hw1
  have cells : ∀ (W : World), Later w1.drew W → ∀ w', Later W w' → w'.cell? ⟨w.heap.size, 0, none⟩ = some (.int .u8 kind) ∧ w'.cell? ⟨w.heap.size, 1, none⟩ = some (.int .i64 at_) ∧ w'.cell? ⟨w.heap.size, 2, none⟩ = some (.int .i64 n) ∧ w'.cell? ⟨w.heap.size, 3, none⟩ = some (.slice a len cap) ∧ w'.cell? ⟨w.heap.size, 4, none⟩ = some (.bool full) := by
    intro W h1 w' h2
    have hb := (later_trans _ _ _ h1 h2).block w.heap.size hnew.lt
    have hw' := hnew.keep (w' := w') hb
    exact ⟨by simpa using hw'.cell 0, by simpa using hw'.cell 1, by simpa using hw'.cell 2, by simpa using hw'.cell 3, by simpa using hw'.cell 4⟩
  have Cells := Lib.hid cells; clear cells
  have k0 : ∀ w', Later w1.drew w' → w'.cell? ⟨w.heap.size, 0, none⟩ = some (.int .u8 kind) := fun w' h => (Cells.out _ (later_refl _) w' h).1
  have k1 : ∀ w', Later w1.drew w' → w'.cell? ⟨w.heap.size, 1, none⟩ = some (.int .i64 at_) := fun w' h => (Cells.out _ (later_refl _) w' h).2.1
  have k2 : ∀ w', Later w1.drew w' → w'.cell? ⟨w.heap.size, 2, none⟩ = some (.int .i64 n) := fun w' h => (Cells.out _ (later_refl _) w' h).2.2.1
  have k3 : ∀ w', Later w1.drew w' → w'.cell? ⟨w.heap.size, 3, none⟩ = some (.slice a len cap) := fun w' h => (Cells.out _ (later_refl _) w' h).2.2.2.1
  have k4 : ∀ w', Later w1.drew w' → w'.cell? ⟨w.heap.size, 4, none⟩ = some (.bool full) := fun w' h => (Cells.out _ (later_refl _) w' h).2.2.2.2
  by_cases h200 : 200 < len
  · have hd : decide ((200 : Int) < (len : Int)) = true := by simp; omega
    refine wp_region_can Later [(0, true), (1, true), (2, true), (3, true), (4, true), (5, true), (6, true), (7, true), (8, true), (9, true), (10, true), (11, true), (12, true), (13, true), (14, true), (15, true), (16, true), (17, false), (18, false), (19, true), (20, true), (21, true), (22, true), (23, true), (24, true), (25, true), (26, false), (27, false), (28, true), (29, true), (30, true), (31, true), (32, false), (33, true), (34, true), (35, true), (36, true), (37, false), (38, true), (39, true), (40, true), (41, true), (42, false), (43, true), (44, true), (45, true), (46, true), (47, false), (48, true), (49, true), (50, true), (51, false), (52, true), (53, true), (54, true)] (by kernel_rfl) (by kernel_rfl) later_refl later_trans ?_
    repeat (first
      | (refine can_yes (v := ?_) rfl (wanted_none rfl) (fun w' hC => ?_) (fun K hK => ?_); rotate_left; (focus (go_simp; first | done | exact rfl)); go_simp; refine hK _ ?_; clear hK K)
      | (refine can_guard rfl (fun A B hA hB => ?_); go_simp; first | (refine hA ⟨?_, fun w' hC => ?_, fun K hK => ?_⟩; rotate_left; (focus (go_simp; first | done | exact rfl)); go_simp; refine hK _ ?_; clear hK K hA hB A B) | (refine hB (fun K hK => ?_); go_simp; refine hK _ ?_; clear hK K hA hB A B))
      | (refine can_guard_go rfl (fun A B hA hB => ?_); go_simp; refine hB (fun K hK => ?_); go_simp; refine hK _ ?_; clear hK K hA hB A B))
    refine can_nil ?_
    go_wp2_with fail
    go_ret
    exact ⟨rfl, hk1.drew⟩
  · have hd : decide ((200 : Int) < (len : Int)) = false := by simp; omega
    refine wp_region_can Later [(0, true), (1, true), (2, true), (3, true), (4, true), (5, true), (6, true), (7, true), (8, true), (9, true), (10, true), (11, true), (12, true), (13, true), (14, true), (15, true), (16, true), (17, false), (18, false), (19, true), (20, true), (21, true), (22, true), (23, true), (24, true), (25, true), (26, false), (27, false), (28, true), (29, true), (30, true), (31, true), (32, false), (33, true), (34, true), (35, true), (36, true), (37, false), (38, true), (39, true), (40, true), (41, true), (42, false), (43, true), (44, true), (45, true), (46, true), (47, false), (48, true), (49, true), (50, true), (51, false), (52, true), (53, true), (54, true)] (by kernel_rfl) (by kernel_rfl) later_refl later_trans ?_
    repeat (first
      | (refine can_yes (v := ?_) rfl (wanted_none rfl) (fun w' hC => ?_) (fun K hK => ?_); rotate_left; (focus (go_simp; first | done | exact rfl)); go_simp; refine hK _ ?_; clear hK K)
      | (refine can_guard rfl (fun A B hA hB => ?_); go_simp; first | (refine hA ⟨?_, fun w' hC => ?_, fun K hK => ?_⟩; rotate_left; (focus (go_simp; first | done | exact rfl)); go_simp; refine hK _ ?_; clear hK K hA hB A B) | (refine hB (fun K hK => ?_); go_simp; refine hK _ ?_; clear hK K hA hB A B))
      | (refine can_guard_go rfl (fun A B hA hB => ?_); go_simp; refine hB (fun K hK => ?_); go_simp; refine hK _ ?_; clear hK K hA hB A B))
    have hB1 : Bytes (fun b => b < w.heap.size) w1.drew (.slice a len cap) l := hB0.keep fun b hb _ => hk1.drew.block b hb
    refine can_go rfl rfl (fun K hK => ?_)
    go_simp
    refine (actBytes_any _ (fun b => b < w.heap.size) kind at_ n _ full l hB1 (by rw [Hgl.out]; omega)).mono ?_
    rintro e wa ⟨r1, rfl, hr1, hba⟩
    refine ⟨_, rfl, hba, hK _ _ ?_⟩
    clear hK K
    clear k0 k1 k2 k3 k4
    have k0 : ∀ w', Later wa w' → w'.cell? ⟨w.heap.size, 0, none⟩ = some (.int .u8 kind) := fun w' h => (Cells.out _ hba w' h).1
    have k1 : ∀ w', Later wa w' → w'.cell? ⟨w.heap.size, 1, none⟩ = some (.int .i64 at_) := fun w' h => (Cells.out _ hba w' h).2.1
    have k2 : ∀ w', Later wa w' → w'.cell? ⟨w.heap.size, 2, none⟩ = some (.int .i64 n) := fun w' h => (Cells.out _ hba w' h).2.2.1
    have k3 : ∀ w', Later wa w' → w'.cell? ⟨w.heap.size, 3, none⟩ = some (.slice a len cap) := fun w' h => (Cells.out _ hba w' h).2.2.2.1
    have k4 : ∀ w', Later wa w' → w'.cell? ⟨w.heap.size, 4, none⟩ = some (.bool full) := fun w' h => (Cells.out _ hba w' h).2.2.2.2
    go_simp
    repeat (first
      | (refine can_yes (v := ?_) rfl (wanted_none rfl) (fun w' hC => ?_) (fun K hK => ?_); rotate_left; (focus (go_simp; first | done | exact rfl)); go_simp; refine hK _ ?_; clear hK K)
      | (refine can_guard rfl (fun A B hA hB => ?_); go_simp; first | (refine hA ⟨?_, fun w' hC => ?_, fun K hK => ?_⟩; rotate_left; (focus (go_simp; first | done | exact rfl)); go_simp; refine hK _ ?_; clear hK K hA hB A B) | (refine hB (fun K hK => ?_); go_simp; refine hK _ ?_; clear hK K hA hB A B))
      | (refine can_guard_go rfl (fun A B hA hB => ?_); go_simp; refine hB (fun K hK => ?_); go_simp; refine hK _ ?_; clear hK K hA hB A B))
    refine can_go rfl rfl (fun K hK => ?_)
    go_simp
    refine (write_nil _ _ _).mono ?_
    rintro e w' ⟨rfl, rfl⟩
    refine ⟨_, rfl, later_refl _, hK _ _ ?_⟩
    clear hK K
    go_simp
    repeat (first
      | (refine can_yes (v := ?_) rfl (wanted_none rfl) (fun w' hC => ?_) (fun K hK => ?_); rotate_left; (focus (go_simp; first | done | exact rfl)); go_simp; refine hK _ ?_; clear hK K)
      | (refine can_guard rfl (fun A B hA hB => ?_); go_simp; first | (refine hA ⟨?_, fun w' hC => ?_, fun K hK => ?_⟩; rotate_left; (focus (go_simp; first | done | exact rfl)); go_simp; refine hK _ ?_; clear hK K hA hB A B) | (refine hB (fun K hK => ?_); go_simp; refine hK _ ?_; clear hK K hA hB A B))
      | (refine can_guard_go rfl (fun A B hA hB => ?_); go_simp; refine hB (fun K hK => ?_); go_simp; refine hK _ ?_; clear hK K hA hB A B))
    have hB2 : Bytes (fun b => b < w.heap.size) wa (.slice a len cap) l := hB0.keep fun b hb _ => (hk1.drew.trans (hba.mono hk1.size)).block b hb
    refine can_go rfl rfl (fun K hK => ?_)
    go_simp
    refine (actBytes_any _ (fun b => b < w.heap.size) kind at_ n _ full l hB2 (by rw [Hgl.out]; omega)).mono ?_
    rintro e wb ⟨r2, rfl, hr2, hbb⟩
    refine ⟨_, rfl, hbb, hK _ _ ?_⟩
    clear hK K
    clear k0 k1 k2 k3 k4
    go_simp
    repeat (first
      | (refine can_yes (v := ?_) rfl (wanted_none rfl) (fun w' hC => ?_) (fun K hK => ?_); rotate_left; (focus (go_simp; first | done | exact rfl)); go_simp; refine hK _ ?_; clear hK K)
      | (refine can_guard rfl (fun A B hA hB => ?_); go_simp; first | (refine hA ⟨?_, fun w' hC => ?_, fun K hK => ?_⟩; rotate_left; (focus (go_simp; first | done | exact rfl)); go_simp; refine hK _ ?_; clear hK K hA hB A B) | (refine hB (fun K hK => ?_); go_simp; refine hK _ ?_; clear hK K hA hB A B))
      | (refine can_guard_go rfl (fun A B hA hB => ?_); go_simp; refine hB (fun K hK => ?_); go_simp; refine hK _ ?_; clear hK K hA hB A B))
    refine can_go rfl rfl (fun K hK => ?_)
    go_simp
    refine (fail_nil _ _ _).mono ?_
    rintro e w' ⟨rfl, rfl⟩
    refine ⟨_, rfl, later_refl _, hK _ _ ?_⟩
    clear hK K
    go_simp
    repeat (first
      | (refine can_yes (v := ?_) rfl (wanted_none rfl) (fun w' hC => ?_) (fun K hK => ?_); rotate_left; (focus (go_simp; first | done | exact rfl)); go_simp; refine hK _ ?_; clear hK K)
      | (refine can_guard rfl (fun A B hA hB => ?_); go_simp; first | (refine hA ⟨?_, fun w' hC => ?_, fun K hK => ?_⟩; rotate_left; (focus (go_simp; first | done | exact rfl)); go_simp; refine hK _ ?_; clear hK K hA hB A B) | (refine hB (fun K hK => ?_); go_simp; refine hK _ ?_; clear hK K hA hB A B))
      | (refine can_guard_go rfl (fun A B hA hB => ?_); go_simp; refine hB (fun K hK => ?_); go_simp; refine hK _ ?_; clear hK K hA hB A B))
    refine can_go rfl rfl (fun K hK => ?_)
    go_simp
    refine (size_nil _).mono ?_
    rintro e w' ⟨rfl, rfl⟩
    refine ⟨_, rfl, later_refl _, hK _ _ ?_⟩
    clear hK K
    go_simp
    repeat (first
      | (refine can_yes (v := ?_) rfl (wanted_none rfl) (fun w' hC => ?_) (fun K hK => ?_); rotate_left; (focus (go_simp; first | done | exact rfl)); go_simp; refine hK _ ?_; clear hK K)
      | (refine can_guard rfl (fun A B hA hB => ?_); go_simp; first | (refine hA ⟨?_, fun w' hC => ?_, fun K hK => ?_⟩; rotate_left; (focus (go_simp; first | done | exact rfl)); go_simp; refine hK _ ?_; clear hK K hA hB A B) | (refine hB (fun K hK => ?_); go_simp; refine hK _ ?_; clear hK K hA hB A B))
      | (refine can_guard_go rfl (fun A B hA hB => ?_); go_simp; refine hB (fun K hK => ?_); go_simp; refine hK _ ?_; clear hK K hA hB A B))
    refine can_go rfl rfl (fun K hK => ?_)
    go_simp
    refine (down_nil _).mono ?_
    rintro e w' ⟨rfl, rfl⟩
    refine ⟨_, rfl, later_refl _, hK _ _ ?_⟩
    clear hK K
    go_simp
    repeat (first
      | (refine can_yes (v := ?_) rfl (wanted_none rfl) (fun w' hC => ?_) (fun K hK => ?_); rotate_left; (focus (go_simp; first | done | exact rfl)); go_simp; refine hK _ ?_; clear hK K)
      | (refine can_guard rfl (fun A B hA hB => ?_); go_simp; first | (refine hA ⟨?_, fun w' hC => ?_, fun K hK => ?_⟩; rotate_left; (focus (go_simp; first | done | exact rfl)); go_simp; refine hK _ ?_; clear hK K hA hB A B) | (refine hB (fun K hK => ?_); go_simp; refine hK _ ?_; clear hK K hA hB A B))
      | (refine can_guard_go rfl (fun A B hA hB => ?_); go_simp; refine hB (fun K hK => ?_); go_simp; refine hK _ ?_; clear hK K hA hB A B))
    refine can_go rfl rfl (fun K hK => ?_)
    go_simp
    refine (writes_nil _).mono ?_
    rintro e w' ⟨rfl, rfl⟩
    refine ⟨_, rfl, later_refl _, hK _ _ ?_⟩
    clear hK K
    go_simp
    repeat (first
      | (refine can_yes (v := ?_) rfl (wanted_none rfl) (fun w' hC => ?_) (fun K hK => ?_); rotate_left; (focus (go_simp; first | done | exact rfl)); go_simp; refine hK _ ?_; clear hK K)
      | (refine can_guard rfl (fun A B hA hB => ?_); go_simp; first | (refine hA ⟨?_, fun w' hC => ?_, fun K hK => ?_⟩; rotate_left; (focus (go_simp; first | done | exact rfl)); go_simp; refine hK _ ?_; clear hK K hA hB A B) | (refine hB (fun K hK => ?_); go_simp; refine hK _ ?_; clear hK K hA hB A B))
      | (refine can_guard_go rfl (fun A B hA hB => ?_); go_simp; refine hB (fun K hK => ?_); go_simp; refine hK _ ?_; clear hK K hA hB A B))
    refine can_go rfl rfl (fun K hK => ?_)
    go_simp
    refine (copy_nil _).mono ?_
    rintro e w' ⟨rfl, rfl⟩
    refine ⟨_, rfl, later_refl _, hK _ _ ?_⟩
    clear hK K
    go_simp
    repeat (first
      | (refine can_yes (v := ?_) rfl (wanted_none rfl) (fun w' hC => ?_) (fun K hK => ?_); rotate_left; (focus (go_simp; first | done | exact rfl)); go_simp; refine hK _ ?_; clear hK K)
      | (refine can_guard rfl (fun A B hA hB => ?_); go_simp; first | (refine hA ⟨?_, fun w' hC => ?_, fun K hK => ?_⟩; rotate_left; (focus (go_simp; first | done | exact rfl)); go_simp; refine hK _ ?_; clear hK K hA hB A B) | (refine hB (fun K hK => ?_); go_simp; refine hK _ ?_; clear hK K hA hB A B))
      | (refine can_guard_go rfl (fun A B hA hB => ?_); go_simp; refine hB (fun K hK => ?_); go_simp; refine hK _ ?_; clear hK K hA hB A B))
    refine can_go rfl rfl (fun K hK => ?_)
    go_simp
    refine (disk_works _).mono ?_
    rintro e wc ⟨rfl, hbc⟩
    refine ⟨_, rfl, hbc, hK _ _ ?_⟩
    clear hK K
    go_simp
    repeat (first
      | (refine can_yes (v := ?_) rfl (wanted_none rfl) (fun w' hC => ?_) (fun K hK => ?_); rotate_left; (focus (go_simp; first | done | exact rfl)); go_simp; refine hK _ ?_; clear hK K)
      | (refine can_guard rfl (fun A B hA hB => ?_); go_simp; first | (refine hA ⟨?_, fun w' hC => ?_, fun K hK => ?_⟩; rotate_left; (focus (go_simp; first | done | exact rfl)); go_simp; refine hK _ ?_; clear hK K hA hB A B) | (refine hB (fun K hK => ?_); go_simp; refine hK _ ?_; clear hK K hA hB A B))
      | (refine can_guard_go rfl (fun A B hA hB => ?_); go_simp; refine hB (fun K hK => ?_); go_simp; refine hK _ ?_; clear hK K hA hB A B))
    refine can_nil ?_
    go_wp2_with fail
    go_ret
    exact ⟨rfl, hk1.drew.trans ((later_trans _ _ _ hba (later_trans _ _ _ hbb hbc)).mono hk1.size)⟩
end Go.Proofs.Ytgbcpcbcikadlaa
