/- Functions of package journal: takes, half, place, check, free, write. -/
import Derived.Test.YtmimplmeccoahaaDoorSec2
import Derived.StillTailTactics
import Derived.WalkLawsBesides
namespace Go.Proofs.YtmimplmeccoahaaDoor
open Go.RowKit
set_option linter.unusedVariables false
set_option maxRecDepth 20000
attribute [local go_sem] opC upC

/-- the journal's own block -/
def JBlk (w : World) (jb kd g : Nat) (rv : Value) (taken : Nat) (dead : Bool) : Prop :=
  Blk w jb [.pointer (some ⟨kd, 0, none⟩), .int .u32 (g : Int), rv, .int .i64 (taken : Int), .bool dead] 69

theorem takes_any (w : World) (n : Nat) (hn : n ≤ 140737488355328) :
    Calls Tryd.prog 72 #[.int .i64 (n : Int)] w fun e w' => e = .returned (.int .i64 (takes n : Int)) ∧ w = w' := by
  have hI : (n : Int) ≤ 140737488355328 := by omega
  go_enter Tryd.func72, Tryd.ntmps72
  go_wp2_with fail
  all_goals
    go_ret
    exact ⟨ret_int (by unfold takes; omega), rfl⟩

theorem half_any (w : World) (jb kd : Nat) (g : Nat) (rv : Value) (taken : Nat) (dead : Bool) (K : DK) (M : MD) (hj : JBlk w jb kd g rv taken dead) (hd : DiskAt w K M) (hK : K.d = kd) (h2 : 2 ≤ M.S.length) :
    Calls Tryd.prog 44 #[.pointer (some ⟨jb, 0, none⟩)] w fun e w' => e = .returned (.int .i64 (halfN M.S.length : Int)) ∧ w = w' := by
  subst hK
  have c0 := hj.cell 0
  simp at c0
  have hle := hd.le
  have e : ((halfN M.S.length : Nat) : Int) = ((M.S.length : Int) - 2) / 2 := by unfold halfN; omega
  have hI : (M.S.length : Int) ≤ 65536 := by omega
  have hI2 : 2 ≤ (M.S.length : Int) := by omega
  rw [e]
  clear e
  go_enter Tryd.func44, Tryd.ntmps44
  go_wp2_with fail
  refine (size_any w K M hd).mono ?_
  rintro e w' ⟨rfl, rfl⟩
  go_wp2_with fail
  go_ret
  exact ⟨rfl, rfl⟩

theorem place_any (w : World) (jb kd : Nat) (g : Nat) (rv : Value) (taken : Nat) (dead : Bool) (K : DK) (M : MD) (hj : JBlk w jb kd g rv taken dead) (hd : DiskAt w K M) (hK : K.d = kd) (h2 : 2 ≤ M.S.length) (g' p : Nat) (hp : p ≤ 65536) :
    Calls Tryd.prog 74 #[.pointer (some ⟨jb, 0, none⟩), .int .u32 (g' : Int), .int .i64 (p : Int)] w fun e w' => e = .returned (.int .i64 (placeN M.S.length g' p : Int)) ∧ w = w' := by
  have hle := hd.le
  have hh : halfN M.S.length ≤ 65536 := by unfold halfN; omega
  have hhalf := half_any w jb kd g rv taken dead K M hj hd hK h2
  have e : ((placeN M.S.length g' p : Nat) : Int) = 2 + (g' : Int) % 2 * (halfN M.S.length : Int) + (p : Int) := by unfold placeN; simp
  rw [e]
  clear e
  generalize halfN M.S.length = H at *
  have hpI : (p : Int) ≤ 65536 := by omega
  have hHI : (H : Int) ≤ 65536 := by omega
  have hb : 0 ≤ (g' : Int) % 2 * (H : Int) ∧ (g' : Int) % 2 * (H : Int) ≤ 65536 := by
    rcases (show (g' : Int) % 2 = 0 ∨ (g' : Int) % 2 = 1 by omega) with h | h <;> rw [h] <;> omega
  have Hh := Lib.hid hhalf; clear hhalf
  go_enter Tryd.func74, Tryd.ntmps74
  go_wp2_with fail
  refine Hh.out.mono ?_
  rintro e w' ⟨rfl, rfl⟩
  go_wp2_with fail
  go_ret
  exact ⟨rfl, rfl⟩

theorem jcheck_nil (w : World) :
    Calls Tryd.prog 52 #[.pointer none] w fun e w' => e = .returned (.int .i64 9) ∧ w = w' := by
  go_enter Tryd.func52, Tryd.ntmps52
  go_wp2_with fail
  go_ret
  exact ⟨rfl, rfl⟩
theorem jcheck_any (w : World) (K : DK) (M : MD) (hd : DiskAt w K M) :
    Calls Tryd.prog 52 #[.pointer (some ⟨K.d, 0, none⟩)] w fun e w' => e = .returned (.int .i64 (if M.S.length < 8 then 6 else 0)) ∧ w = w' := by
  by_cases h : M.S.length < 8
  all_goals
    first | have hI : (M.S.length : Int) < 8 := by omega | have hI : ¬ (M.S.length : Int) < 8 := by omega
    go_enter Tryd.func52, Tryd.ntmps52
    go_wp2_with fail
    refine (size_any w K M hd).mono ?_
    rintro e w' ⟨rfl, rfl⟩
    go_wp2_with fail
    go_ret
    exact ⟨rfl, rfl⟩

theorem free_any (w : World) (jb kd : Nat) (g : Nat) (rv : Value) (taken : Nat) (dead : Bool) (K : DK) (M : MD) (hj : JBlk w jb kd g rv taken dead) (hd : DiskAt w K M) (hK : K.d = kd) (h2 : 2 ≤ M.S.length) (ht : taken ≤ halfN M.S.length) :
    Calls Tryd.prog 50 #[.pointer (some ⟨jb, 0, none⟩)] w fun e w' => e = .returned (.int .i64 ((halfN M.S.length - taken : Nat) : Int)) ∧ ∃ n, w.drewN n = w' := by
  have hle := hd.le
  have hh : halfN M.S.length ≤ 65536 := by unfold halfN; omega
  have hhalf := half_any w.drew jb kd g rv taken dead K M hj.drew (hd.keep (w' := w.drew) fun _ _ => rfl) hK h2
  have e : ((halfN M.S.length - taken : Nat) : Int) = (halfN M.S.length : Int) - (taken : Int) := by omega
  rw [e]
  clear e
  have q3 : ∀ w', Later w.drew w' → w'.cell? ⟨jb, 3, none⟩ = some (.int .i64 (taken : Int)) := fun w' hh => by simpa using (hj.keep (w' := w') (hh.block jb hj.lt)).cell 3
  generalize halfN M.S.length = H at *
  have hHI : (H : Int) ≤ 65536 := by omega
  have hTI : (taken : Int) ≤ H := by omega
  have hw := IntWalk.i64_in ((H : Int) - (taken : Int)) (by omega)
  have Hh := Lib.hid hhalf; clear hhalf
  go_enter Tryd.func50, Tryd.ntmps50
  go_wp2_with fail
  refine wp_region_can Later [(0, true), (2, true), (3, true), (4, true), (5, true), (1, false), (6, true), (7, true)] (by kernel_rfl) (by kernel_rfl) later_refl later_trans ?_
  repeat (first
    | (refine can_yes (v := ?_) rfl (wanted_none rfl) (fun w' hC => ?_) (fun K hK => ?_); rotate_left; (focus (go_simp; first | done | exact rfl)); go_simp; refine hK _ ?_; clear hK K)
    | (refine can_guard rfl (fun A B hA hB => ?_); go_simp; first | (refine hA ⟨?_, fun w' hC => ?_, fun K hK => ?_⟩; rotate_left; (focus (go_simp; first | done | exact rfl)); go_simp; refine hK _ ?_; clear hK K hA hB A B) | (refine hB (fun K hK => ?_); go_simp; refine hK _ ?_; clear hK K hA hB A B))
    | (refine can_guard_go rfl (fun A B hA hB => ?_); go_simp; refine hB (fun K hK => ?_); go_simp; refine hK _ ?_; clear hK K hA hB A B))
  refine can_go rfl rfl (fun KK hK => ?_)
  go_simp
  refine Hh.out.mono ?_
  rintro e w' ⟨rfl, rfl⟩
  refine ⟨_, rfl, later_refl _, hK _ _ ?_⟩
  clear hK KK
  go_simp
  repeat (first
    | (refine can_yes (v := ?_) rfl (wanted_none rfl) (fun w' hC => ?_) (fun K hK => ?_); rotate_left; (focus (go_simp; first | done | exact rfl)); go_simp; refine hK _ ?_; clear hK K)
    | (refine can_guard rfl (fun A B hA hB => ?_); go_simp; first | (refine hA ⟨?_, fun w' hC => ?_, fun K hK => ?_⟩; rotate_left; (focus (go_simp; first | done | exact rfl)); go_simp; refine hK _ ?_; clear hK K hA hB A B) | (refine hB (fun K hK => ?_); go_simp; refine hK _ ?_; clear hK K hA hB A B))
    | (refine can_guard_go rfl (fun A B hA hB => ?_); go_simp; refine hB (fun K hK => ?_); go_simp; refine hK _ ?_; clear hK K hA hB A B))
  refine can_nil ?_
  go_wp2_with fail
  go_ret
  exact ⟨rfl, 1, rfl⟩

theorem free_nil (w : World) :
    Calls Tryd.prog 50 #[.pointer none] w fun e w' => e = .returned (.int .i64 0) ∧ w = w' := by
  go_enter Tryd.func50, Tryd.ntmps50
  go_wp2_with fail
  go_ret
  exact ⟨rfl, rfl⟩

/-- a write of a sector through the disk, whether its power is on or not -/
theorem wr_any (w : World) (K : DK) (M : MD) (h : DiskAt w K M) (at_ : Nat) (hi : at_ < M.S.length) (hw : M.writes < 4611686018427387904) (F : Blks) (v : Value) (l : List UInt8) (hv : Bytes F w v l) (hl : l.length = 64) (hF : ∀ b, F b → ¬ K.foot b) :
    Calls Tryd.prog 33 #[.pointer (some ⟨K.d, 0, none⟩), .int .i64 (at_ : Int), v] w fun e w' => e = .returned (.int .i64 (M.wr at_ l).2) ∧
      (∃ K', K'.d = K.d ∧ (∀ b, K'.foot b → K.foot b) ∧ DiskAt w' K' (M.wr at_ l).1) ∧ Only K.foot w w' ∧ w'.heap.size = w.heap.size := by
  cases hdn : M.down with
  | false =>
    have e : M.wr at_ l = M.write at_ l := by simp [MD.wr, hdn]
    rw [e]
    exact write_ok w K M h at_ hi hdn hw F v l hv hl hF
  | true =>
    have e : M.wr at_ l = (M, 341) := by simp [MD.wr, hdn]
    have hc : M.chk at_ = 341 := by simp [MD.chk, hdn]
    rw [e]
    refine (write_chk w K M at_ v h (by rw [hc]; decide)).mono ?_
    rintro e w' ⟨rfl, rfl⟩
    exact ⟨by rw [hc], ⟨K, rfl, fun _ h => h, h⟩, Only.refl _ _, rfl⟩

theorem wr_len (M : MD) (a : Nat) (l : List UInt8) : (M.wr a l).1.S.length = M.S.length ∧ (M.wr a l).1.writes ≤ M.writes + 1 := by
  unfold MD.wr MD.write
  split
  · simp
  · split <;> simp

/-- what a write of the journal may change -/
def jFoot (K : DK) (jb : Nat) : Blks := fun b => K.foot b ∨ b = jb

theorem jwrite_any (w : World) (jb kd g : Nat) (rv : Value) (taken : Nat) (dead : Bool) (K : DK) (M : MD) (hj : JBlk w jb kd g rv taken dead) (hd : DiskAt w K M) (hK : K.d = kd) (hjK : ¬ K.foot jb) (at_ : Nat) (hi : at_ < M.S.length) (hw : M.writes < 4611686018427387904)
    (sb : Nat) (l : List UInt8) (hs : SecAt w sb l) (hsK : ¬ K.foot sb) :
    Calls Tryd.prog 47 #[.pointer (some ⟨jb, 0, none⟩), .int .i64 (at_ : Int), .pointer (some ⟨sb, 0, none⟩)] w fun e w' => e = .returned (.int .i64 (M.wr at_ l).2) ∧
      (∃ K', K'.d = kd ∧ (∀ b, K'.foot b → K.foot b) ∧ DiskAt w' K' (M.wr at_ l).1) ∧ JBlk w' jb kd g rv taken (!decide ((M.wr at_ l).2 = 0)) ∧ Only (jFoot K jb) w w' ∧ w'.heap.size = w.heap.size := by
  subst hK
  have hwr := wr_any w.drew K M (hd.keep (w' := w.drew) fun _ _ => rfl) at_ hi hw _ _ l (SecAt.bytes (w := w.drew) ⟨hs.1.drew, hs.2⟩) hs.2 (fun b e hf => hsK (e ▸ hf))
  have Hwr := Lib.hid hwr; clear hwr
  have c0 := hj.drew.cell 0
  simp at c0
  go_enter Tryd.func47, Tryd.ntmps47
  go_wp2_with fail
  go_still_tail 8, (by kernel_rfl)
  change wpList _ _ _ _ _ w.drew
  go_wp2_with fail
  refine Hwr.out.mono ?_
  rintro e w1 ⟨rfl, ⟨K', hK', hKf, hd1⟩, ho1, hs1⟩
  have hj1 : JBlk w1 jb K.d g rv taken dead := hj.keep (ho1.block jb (show jb < w.heap.size from hj.lt) hjK)
  have ho1' : Only K.foot w w1 := ⟨ho1.os, ho1.tape, ho1.output, ho1.size, ho1.block⟩
  generalize hr : (M.wr at_ l).2 = r at *
  have c4 := hj1.cell 4
  have f4 := hj1.free 4
  simp at c4
  have hset := hj1.set 4 (.bool (!decide (r = 0)))
  have hd2 := hd1.only (F := fun b => b = jb) (Only.setCell (F := fun b => b = jb) (Only.refl _ w1) (p := ⟨jb, 4, none⟩) (.inl rfl) (.bool (!decide (r = 0)))) (fun b hb e => hjK (e ▸ hKf b hb))
  have Hset := Lib.hid hset; have Hd2 := Lib.hid hd2
  clear hset hd2 hj1 hd1
  go_wp2_with fail
  go_ret
  rw [hr]
  exact ⟨rfl, ⟨K', hK', hKf, Hd2.out⟩, Hset.out, (ho1'.mono (fun _ h => .inl h)).setCell (.inl (.inr rfl)) _, by simpa [World.setCell] using hs1⟩
end Go.Proofs.YtmimplmeccoahaaDoor
