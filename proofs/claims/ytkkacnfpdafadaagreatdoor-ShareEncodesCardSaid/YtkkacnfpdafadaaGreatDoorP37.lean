/-
  RRef2
-/
import Derived.Test.YtkkacnfpdafadaaGreatDoorP36
namespace Go.Proofs.YtkkacnfpdafadaaGreatDoor
open Go.RowKit
set_option linter.unusedVariables false
set_option maxRecDepth 20000
attribute [local go_sem ↓] seal_append
attribute [local go_sem] opC upC

def PutRel {α : Type} (pl : α → RPl) (enc : α → List Value) (K : Nat) (te : TypeId) (B : Nat) (wx : World) (l : List α) (x : α) (s sd si : Value) (wr : World) : Prop :=
  ∃ (k : Nat) (done : Bool) (pre : List α), k ≤ l.length ∧ si = .int .i64 (k : Int) ∧ sd = .bool done ∧ wr.ownsRow B te K s pre.length (pre.flatMap enc) ∧ pre ++ putRest pl l x k done = putL pl l x ∧ (pre.length ≤ k + 1 ∧ (done = false → pre.length ≤ k)) ∧ Below B wx wr

set_option maxRecDepth 100000 in
set_option maxHeartbeats 6000000 in
theorem rput_any (w : World) (F : Blks) (v : Value) (l : List RIt) (x : RIt) (hv : Rows F w 4 v l.length (l.flatMap encIt)) (hl : l.length ≤ 1000000) :
    Calls Tryz.prog 92 #[v, itV x] w fun e w' => (∃ r, e = .returned r ∧ w'.ownsRow w.heap.size 92 4 r (putL RIt.pl l x).length ((putL RIt.pl l x).flatMap encIt)) ∧ Below w.heap.size w w' := by
  replace hv := hv.mono (G := fun b => b < w.heap.size) fun b _ hlt => hlt
  obtain ⟨n, hn⟩ : ∃ n, l.length = n := ⟨_, rfl⟩
  obtain ⟨a, cap, rfl, -⟩ := hv.shape
  have Hv := Lib.hid hv
  rw [hn] at hl ⊢
  have Hn := Lib.hid hn
  obtain ⟨wx, hwx⟩ : ∃ wx, wx = w.alloc (.cells #[.string ⟨x.key.toArray⟩, .int .i64 x.dev, .int .i64 x.seq, .int .i64 x.val] 92) := ⟨_, rfl⟩
  have hbx : Below w.heap.size w wx := by rw [hwx]; exact kept_alloc _ _
  have hzx : wx.heap.size = w.heap.size + 1 := by rw [hwx]; simp
  have HX := Lib.hid (show ∀ W, Below (w.heap.size + 1) wx W → Blk W w.heap.size [.string ⟨x.key.toArray⟩, .int .i64 x.dev, .int .i64 x.seq, .int .i64 x.val] 92 ∧ Rows (fun b => b < w.heap.size) W 4 (.slice a l.length cap) l.length (l.flatMap encIt) from fun W hb => by
    have hk : Blk wx w.heap.size [.string ⟨x.key.toArray⟩, .int .i64 x.dev, .int .i64 x.seq, .int .i64 x.val] 92 := by rw [hwx]; exact Blk.new _ _ _
    exact ⟨hk.keep (hb.block _ (by omega)), (Hv.out.keep (w' := wx) fun b _ hlt => hbx.block b hlt).keep fun b hb' hlt => hb.block b (by omega)⟩)
  have Hs := Lib.hid (show PutRel RIt.pl encIt 4 92 (w.heap.size + 1) wx l x (.slice none 0 0) (.bool false) (.int .i64 0) wx from ⟨0, false, [], by omega, rfl, rfl, World.ownsRow_nil _ _ _ _, by rw [putRest_zero]; rfl, ⟨by simp, fun _ => by simp⟩, Below.refl _ _⟩)
  have Hwx := Lib.hid hwx; have Hbx := Lib.hid hbx; have Hzx := Lib.hid hzx
  clear hv hn hwx hbx hzx
  unfold itV
  go_enter Tryz.func92, Tryz.ntmps92
  go_wp2_with fail
  rw [← Hwx.out]
  go_loopw [5, 6, 7] (fun s sd si wr => PutRel RIt.pl encIt 4 92 (w.heap.size + 1) wx l x s sd si wr) (fun _ _ si _ => n - (intOf si).toNat)
  case atStart => exact Hs.out
  case round =>
    obtain ⟨k, done, pre, hk, rfl, rfl, hown, hput, ⟨hpl, hpl2⟩, hbw⟩ := hrel
    obtain ⟨a5, c5, rfl⟩ := own_shape hown
    obtain ⟨np, hnp⟩ : ∃ np, pre.length = np := ⟨_, rfl⟩
    rw [hnp] at hown hpl hpl2 ⊢
    have Hnp := Lib.hid hnp
    have Hput := Lib.hid hput; have Hbw := Lib.hid hbw
    have Hsz := Lib.hid (show w.heap.size + 1 ≤ wr.heap.size by have := hbw.size; have := Hzx.out; omega)
    rw [Hn.out] at hk
    obtain ⟨hxb, hrw⟩ := HX.out wr hbw
    obtain ⟨x0, x1, x2, x3⟩ := cell4 hxb
    clear hnp hput hbw Hs
    by_cases hkn : k < n
    · have hkI : (k : Int) < (n : Int) := by omega
      have hkl : k < l.length := by rw [Hn.out]; exact hkn
      obtain ⟨b, off, rfl, hFb, -, hc⟩ := it_cell hrw (by omega)
      obtain ⟨y0, y1, y2, y3⟩ := hc k hkl
      obtain ⟨y, hy⟩ : ∃ y, l[k] = y := ⟨_, rfl⟩
      rw [hy] at y0 y1 y2 y3
      have Hy := Lib.hid hy
      have HY := Lib.hid (show ∀ W, Below (w.heap.size + 1) wx W → W.cell? ⟨b, off + k * 4, none⟩ = some (.string ⟨y.key.toArray⟩) ∧ W.cell? ⟨b, off + k * 4 + 1, none⟩ = some (.int .i64 y.dev) ∧ W.cell? ⟨b, off + k * 4 + 2, none⟩ = some (.int .i64 y.seq) ∧ W.cell? ⟨b, off + k * 4 + 3, none⟩ = some (.int .i64 y.val) from fun W hb => by
        have hr2 := (HX.out W hb).2
        obtain ⟨b', off', hbb, -, -, hc'⟩ := it_cell hr2 (by omega)
        simp at hbb
        obtain ⟨rfl, rfl⟩ := hbb
        have := hc' k hkl
        rw [hy] at this
        exact this)
      have HO := Lib.hid hown
      clear hc hy hown hrw hxb
      have HNE := Lib.hid (fun (h : y.pl ≠ x.pl) => show (y.key ≠ x.key) ∨ (y.key = x.key ∧ y.dev ≠ x.dev) from by
        by_cases e : y.key = x.key
        · exact .inr ⟨e, fun e2 => h (Prod.ext e e2)⟩
        · exact .inl e)
      cases done with
      | true =>
        clear hpl2
        go_wp2_with fail
        refine wp_region_can Later [(0, true), (1, true), (2, true), (3, true), (4, true), (5, true), (6, true), (7, true), (8, true), (9, true), (10, true), (11, true), (12, true), (13, true), (14, true), (15, true), (16, true), (17, false), (18, true), (19, true)] (by kernel_rfl) (by kernel_rfl) later_refl later_trans ?_
        repeat (first
          | (refine can_yes (v := ?_) rfl (wanted_none rfl) (fun w' hC => ?_) (fun K hK => ?_); rotate_left; (focus (go_simp; (try simp (disch := omega) only [IntWalk.i64_in]); first | done | exact rfl)); go_simp; (try simp (disch := omega) only [IntWalk.i64_in]); refine hK _ ?_; clear hK K)
          | (refine can_guard rfl (fun A B hA hB => ?_); go_simp; first | (refine hA ⟨?_, fun w' hC => ?_, fun K hK => ?_⟩; rotate_left; (focus (go_simp; (try simp (disch := omega) only [IntWalk.i64_in]); first | done | exact rfl)); go_simp; (try simp (disch := omega) only [IntWalk.i64_in]); refine hK _ ?_; clear hK K hA hB A B) | (refine hB (fun K hK => ?_); go_simp; (try simp (disch := omega) only [IntWalk.i64_in]); refine hK _ ?_; clear hK K hA hB A B))
          | (refine can_guard_go rfl (fun A B hA hB => ?_); go_simp; refine hB (fun K hK => ?_); go_simp; (try simp (disch := omega) only [IntWalk.i64_in]); refine hK _ ?_; clear hK K hA hB A B))
        refine can_nil ?_
        obtain ⟨w8, hw8⟩ : ∃ w8, w8 = wr.drew := ⟨_, rfl⟩
        rw [← hw8]
        have HO8 := Lib.hid (show w8.ownsRow (w.heap.size + 1) 92 4 (.slice a5 np c5) np (pre.flatMap encIt) by rw [hw8]; exact HO.out)
        have HB8 := Lib.hid (show Below (w.heap.size + 1) wx w8 by rw [hw8]; exact Hbw.out.drew)
        have HS8 := Lib.hid (show w.heap.size + 1 ≤ w8.heap.size by rw [hw8]; exact Hsz.out)
        clear hw8 x0 x1 x2 x3
        by_cases he : y.pl = x.pl
        ·
          obtain ⟨e1, e2⟩ := Prod.mk.inj he
          have c1 : (y.key == x.key) = true := by simp [show y.key = x.key from e1]
          have c2 : (y.dev == x.dev) = true := by simp [show y.dev = x.dev from e2]
          have Hst := Lib.hid (putRest_eq l x k hkl (by rw [Hy.out]; exact he))
          clear he e1 e2
          have hall : ∀ w', Later w8.drew w' → Below (w.heap.size + 1) wx w' := fun w' hh => HB8.out.drew.trans (RowKit.Below.mono hh HS8.out)
          have px0 : ∀ w', Later w8.drew w' → w'.cell? ⟨w.heap.size, 0, none⟩ = some (.string ⟨x.key.toArray⟩) := fun w' hh => (cell4 (HX.out w' (hall w' hh)).1).1
          have px1 : ∀ w', Later w8.drew w' → w'.cell? ⟨w.heap.size, 1, none⟩ = some (.int .i64 x.dev) := fun w' hh => (cell4 (HX.out w' (hall w' hh)).1).2.1
          have py0 : ∀ w', Later w8.drew w' → w'.cell? ⟨b, off + k * 4, none⟩ = some (.string ⟨y.key.toArray⟩) := fun w' hh => (HY.out w' (hall w' hh)).1
          have py1 : ∀ w', Later w8.drew w' → w'.cell? ⟨b, off + k * 4 + 1, none⟩ = some (.int .i64 y.dev) := fun w' hh => (HY.out w' (hall w' hh)).2.1
          have hs0 : IntKind.i64.wrap (k : Int) = (k : Int) := IntWalk.i64_in _ (by omega)
          go_wp2_with fail
          refine wp_region_can Later [(0, true), (1, true), (2, true), (3, true), (4, true), (5, true), (6, true), (7, true), (8, true), (9, true), (10, true), (11, true), (12, true), (13, true), (14, true), (15, true), (16, true), (17, true)] (by kernel_rfl) (by kernel_rfl) later_refl later_trans ?_
          repeat (first
            | (refine can_yes (v := ?_) rfl (wanted_none rfl) (fun w' hC => ?_) (fun K hK => ?_); rotate_left; (focus (go_simp; (try simp (disch := omega) only [IntWalk.i64_in]); first | done | exact rfl)); go_simp; (try simp (disch := omega) only [IntWalk.i64_in]); refine hK _ ?_; clear hK K)
            | (refine can_guard rfl (fun A B hA hB => ?_); go_simp; first | (refine hA ⟨?_, fun w' hC => ?_, fun K hK => ?_⟩; rotate_left; (focus (go_simp; (try simp (disch := omega) only [IntWalk.i64_in]); first | done | exact rfl)); go_simp; (try simp (disch := omega) only [IntWalk.i64_in]); refine hK _ ?_; clear hK K hA hB A B) | (refine hB (fun K hK => ?_); go_simp; (try simp (disch := omega) only [IntWalk.i64_in]); refine hK _ ?_; clear hK K hA hB A B))
            | (refine can_guard_go rfl (fun A B hA hB => ?_); go_simp; refine hB (fun K hK => ?_); go_simp; (try simp (disch := omega) only [IntWalk.i64_in]); refine hK _ ?_; clear hK K hA hB A B))
          refine can_nil ?_
          clear px0 px1 py0 py1 hall
          obtain ⟨w9, hw9⟩ : ∃ w9, w9 = w8.drew := ⟨_, rfl⟩
          rw [← hw9]
          have HO9 := Lib.hid (show w9.ownsRow (w.heap.size + 1) 92 4 (.slice a5 np c5) np ((pre).flatMap encIt) by rw [hw9]; exact HO8.out)
          have HB9 := Lib.hid (show Below (w.heap.size + 1) wx w9 by rw [hw9]; exact HB8.out.drew)
          have HS9 := Lib.hid (show w.heap.size + 1 ≤ w9.heap.size by rw [hw9]; exact HS8.out)
          clear hw9
          go_wp2_with fail
          go_roundw
          case rel => exact ⟨k + 1, true, pre, by omega, by go_num, rfl, by rw [Hnp.out]; exact HO9.out, by rw [← Hst.out]; exact Hput.out, ⟨by rw [Hnp.out]; omega, nofun⟩, HB9.out⟩
          case measure => simp [intOf]; omega
        · have Hst := Lib.hid (putRest_ne l x k hkl (by rw [Hy.out]; exact he))
          rcases HNE.out he with hky | ⟨hky, hdv⟩
          · have c1 : (y.key == x.key) = false := by simpa using hky
            clear he hky
            have hall : ∀ w', Later w8.drew w' → Below (w.heap.size + 1) wx w' := fun w' hh => HB8.out.drew.trans (RowKit.Below.mono hh HS8.out)
            have px0 : ∀ w', Later w8.drew w' → w'.cell? ⟨w.heap.size, 0, none⟩ = some (.string ⟨x.key.toArray⟩) := fun w' hh => (cell4 (HX.out w' (hall w' hh)).1).1
            have px1 : ∀ w', Later w8.drew w' → w'.cell? ⟨w.heap.size, 1, none⟩ = some (.int .i64 x.dev) := fun w' hh => (cell4 (HX.out w' (hall w' hh)).1).2.1
            have py0 : ∀ w', Later w8.drew w' → w'.cell? ⟨b, off + k * 4, none⟩ = some (.string ⟨y.key.toArray⟩) := fun w' hh => (HY.out w' (hall w' hh)).1
            have py1 : ∀ w', Later w8.drew w' → w'.cell? ⟨b, off + k * 4 + 1, none⟩ = some (.int .i64 y.dev) := fun w' hh => (HY.out w' (hall w' hh)).2.1
            have hs0 : IntKind.i64.wrap (k : Int) = (k : Int) := IntWalk.i64_in _ (by omega)
            go_wp2_with fail
            refine wp_region_can Later [(0, true), (1, true), (2, true), (3, true), (4, true), (5, true), (6, true), (7, true), (8, true), (9, true), (10, true), (11, true), (12, true), (13, true), (14, true), (15, true), (16, true), (17, true)] (by kernel_rfl) (by kernel_rfl) later_refl later_trans ?_
            repeat (first
              | (refine can_yes (v := ?_) rfl (wanted_none rfl) (fun w' hC => ?_) (fun K hK => ?_); rotate_left; (focus (go_simp; (try simp (disch := omega) only [IntWalk.i64_in]); first | done | exact rfl)); go_simp; (try simp (disch := omega) only [IntWalk.i64_in]); refine hK _ ?_; clear hK K)
              | (refine can_guard rfl (fun A B hA hB => ?_); go_simp; first | (refine hA ⟨?_, fun w' hC => ?_, fun K hK => ?_⟩; rotate_left; (focus (go_simp; (try simp (disch := omega) only [IntWalk.i64_in]); first | done | exact rfl)); go_simp; (try simp (disch := omega) only [IntWalk.i64_in]); refine hK _ ?_; clear hK K hA hB A B) | (refine hB (fun K hK => ?_); go_simp; (try simp (disch := omega) only [IntWalk.i64_in]); refine hK _ ?_; clear hK K hA hB A B))
              | (refine can_guard_go rfl (fun A B hA hB => ?_); go_simp; refine hB (fun K hK => ?_); go_simp; (try simp (disch := omega) only [IntWalk.i64_in]); refine hK _ ?_; clear hK K hA hB A B))
            refine can_nil ?_
            clear px0 px1 py0 py1 hall
            obtain ⟨w9, hw9⟩ : ∃ w9, w9 = w8.drew := ⟨_, rfl⟩
            rw [← hw9]
            have HO9 := Lib.hid (show w9.ownsRow (w.heap.size + 1) 92 4 (.slice a5 np c5) np ((pre).flatMap encIt) by rw [hw9]; exact HO8.out)
            have HB9 := Lib.hid (show Below (w.heap.size + 1) wx w9 by rw [hw9]; exact HB8.out.drew)
            have HS9 := Lib.hid (show w.heap.size + 1 ≤ w9.heap.size by rw [hw9]; exact HS8.out)
            clear hw9
            have hY9 := HY.out w9 HB9.out
            obtain ⟨g0, g1, g2, g3⟩ := hY9
            obtain ⟨i0, t1, t2, t3, t4⟩ := info_parts infoItR
            obtain ⟨v5, w5, hr5, hown5, hg5⟩ := run_append_one (P := Tryz.prog) w9 (w.heap.size + 1) 23 92 Tryz.underlying23 t1 t2 t3 t4 rfl (by decide) (.slice a5 np c5) np _ HO9.out #[.string ⟨y.key.toArray⟩, .int .i64 y.dev, .int .i64 y.seq, .int .i64 y.val] rfl (by simp [Value.oneCell']) (by unfold maxLen; omega) (by omega) HS9.out
            obtain ⟨a6, c6, rfl⟩ := own_shape hown5
            have hb5 : Below (w.heap.size + 1) wx w5 := HB9.out.trans (((Below.refl (w.heap.size + 1) w9).alloc HS9.out _).trans (Below.grownOwn (own_below HO9.out (kept_alloc _ _)) hg5 (by have := HS9.out; simp; omega) (Nat.le_refl _)))
            have hs5 : w.heap.size + 1 ≤ w5.heap.size := by have := hb5.size; have := Hzx.out; omega
            have Hown5 := Lib.hid hown5; have Hb5 := Lib.hid hb5; have Hs5 := Lib.hid hs5
            clear hown5 hg5 hb5 t1 t2 t3 t4 hs5
            go_wp2_with fail
            go_roundw
            case rel => exact ⟨k + 1, true, pre ++ [y], by omega, by go_num, rfl, by rw [List.length_append, Hnp.out, flat_snoc]; exact Hown5.out, by have := Hst.out; rw [Hy.out] at this; rw [← Hput.out, this]; simp, ⟨by rw [List.length_append, Hnp.out]; simp; omega, fun h => by first | exact absurd h (by decide) | (rw [List.length_append, Hnp.out]; simp; omega)⟩, Hb5.out⟩
            case measure => simp [intOf]; omega
          · have c1 : (y.key == x.key) = true := by simpa using hky
            have c2 : (y.dev == x.dev) = false := by simpa using hdv
            clear he hky hdv
            have hall : ∀ w', Later w8.drew w' → Below (w.heap.size + 1) wx w' := fun w' hh => HB8.out.drew.trans (RowKit.Below.mono hh HS8.out)
            have px0 : ∀ w', Later w8.drew w' → w'.cell? ⟨w.heap.size, 0, none⟩ = some (.string ⟨x.key.toArray⟩) := fun w' hh => (cell4 (HX.out w' (hall w' hh)).1).1
            have px1 : ∀ w', Later w8.drew w' → w'.cell? ⟨w.heap.size, 1, none⟩ = some (.int .i64 x.dev) := fun w' hh => (cell4 (HX.out w' (hall w' hh)).1).2.1
            have py0 : ∀ w', Later w8.drew w' → w'.cell? ⟨b, off + k * 4, none⟩ = some (.string ⟨y.key.toArray⟩) := fun w' hh => (HY.out w' (hall w' hh)).1
            have py1 : ∀ w', Later w8.drew w' → w'.cell? ⟨b, off + k * 4 + 1, none⟩ = some (.int .i64 y.dev) := fun w' hh => (HY.out w' (hall w' hh)).2.1
            have hs0 : IntKind.i64.wrap (k : Int) = (k : Int) := IntWalk.i64_in _ (by omega)
            go_wp2_with fail
            refine wp_region_can Later [(0, true), (1, true), (2, true), (3, true), (4, true), (5, true), (6, true), (7, true), (8, true), (9, true), (10, true), (11, true), (12, true), (13, true), (14, true), (15, true), (16, true), (17, true)] (by kernel_rfl) (by kernel_rfl) later_refl later_trans ?_
            repeat (first
              | (refine can_yes (v := ?_) rfl (wanted_none rfl) (fun w' hC => ?_) (fun K hK => ?_); rotate_left; (focus (go_simp; (try simp (disch := omega) only [IntWalk.i64_in]); first | done | exact rfl)); go_simp; (try simp (disch := omega) only [IntWalk.i64_in]); refine hK _ ?_; clear hK K)
              | (refine can_guard rfl (fun A B hA hB => ?_); go_simp; first | (refine hA ⟨?_, fun w' hC => ?_, fun K hK => ?_⟩; rotate_left; (focus (go_simp; (try simp (disch := omega) only [IntWalk.i64_in]); first | done | exact rfl)); go_simp; (try simp (disch := omega) only [IntWalk.i64_in]); refine hK _ ?_; clear hK K hA hB A B) | (refine hB (fun K hK => ?_); go_simp; (try simp (disch := omega) only [IntWalk.i64_in]); refine hK _ ?_; clear hK K hA hB A B))
              | (refine can_guard_go rfl (fun A B hA hB => ?_); go_simp; refine hB (fun K hK => ?_); go_simp; (try simp (disch := omega) only [IntWalk.i64_in]); refine hK _ ?_; clear hK K hA hB A B))
            refine can_nil ?_
            clear px0 px1 py0 py1 hall
            obtain ⟨w9, hw9⟩ : ∃ w9, w9 = w8.drew := ⟨_, rfl⟩
            rw [← hw9]
            have HO9 := Lib.hid (show w9.ownsRow (w.heap.size + 1) 92 4 (.slice a5 np c5) np ((pre).flatMap encIt) by rw [hw9]; exact HO8.out)
            have HB9 := Lib.hid (show Below (w.heap.size + 1) wx w9 by rw [hw9]; exact HB8.out.drew)
            have HS9 := Lib.hid (show w.heap.size + 1 ≤ w9.heap.size by rw [hw9]; exact HS8.out)
            clear hw9
            have hY9 := HY.out w9 HB9.out
            obtain ⟨g0, g1, g2, g3⟩ := hY9
            obtain ⟨i0, t1, t2, t3, t4⟩ := info_parts infoItR
            obtain ⟨v5, w5, hr5, hown5, hg5⟩ := run_append_one (P := Tryz.prog) w9 (w.heap.size + 1) 23 92 Tryz.underlying23 t1 t2 t3 t4 rfl (by decide) (.slice a5 np c5) np _ HO9.out #[.string ⟨y.key.toArray⟩, .int .i64 y.dev, .int .i64 y.seq, .int .i64 y.val] rfl (by simp [Value.oneCell']) (by unfold maxLen; omega) (by omega) HS9.out
            obtain ⟨a6, c6, rfl⟩ := own_shape hown5
            have hb5 : Below (w.heap.size + 1) wx w5 := HB9.out.trans (((Below.refl (w.heap.size + 1) w9).alloc HS9.out _).trans (Below.grownOwn (own_below HO9.out (kept_alloc _ _)) hg5 (by have := HS9.out; simp; omega) (Nat.le_refl _)))
            have hs5 : w.heap.size + 1 ≤ w5.heap.size := by have := hb5.size; have := Hzx.out; omega
            have Hown5 := Lib.hid hown5; have Hb5 := Lib.hid hb5; have Hs5 := Lib.hid hs5
            clear hown5 hg5 hb5 t1 t2 t3 t4 hs5
            go_wp2_with fail
            go_roundw
            case rel => exact ⟨k + 1, true, pre ++ [y], by omega, by go_num, rfl, by rw [List.length_append, Hnp.out, flat_snoc]; exact Hown5.out, by have := Hst.out; rw [Hy.out] at this; rw [← Hput.out, this]; simp, ⟨by rw [List.length_append, Hnp.out]; simp; omega, fun h => by first | exact absurd h (by decide) | (rw [List.length_append, Hnp.out]; simp; omega)⟩, Hb5.out⟩
            case measure => simp [intOf]; omega
      | false =>
        have hpl3 := hpl2 rfl
        clear hpl2
        have HBF := Lib.hid (fun W => before_any W y.key x.key y.dev x.dev)
        have hall : ∀ w', Later wr.drew w' → Below (w.heap.size + 1) wx w' := fun w' hh => Hbw.out.drew.trans (RowKit.Below.mono hh Hsz.out)
        have px0 : ∀ w', Later wr.drew w' → w'.cell? ⟨w.heap.size, 0, none⟩ = some (.string ⟨x.key.toArray⟩) := fun w' hh => (cell4 (HX.out w' (hall w' hh)).1).1
        have px1 : ∀ w', Later wr.drew w' → w'.cell? ⟨w.heap.size, 1, none⟩ = some (.int .i64 x.dev) := fun w' hh => (cell4 (HX.out w' (hall w' hh)).1).2.1
        have py0 : ∀ w', Later wr.drew w' → w'.cell? ⟨b, off + k * 4, none⟩ = some (.string ⟨y.key.toArray⟩) := fun w' hh => (HY.out w' (hall w' hh)).1
        have py1 : ∀ w', Later wr.drew w' → w'.cell? ⟨b, off + k * 4 + 1, none⟩ = some (.int .i64 y.dev) := fun w' hh => (HY.out w' (hall w' hh)).2.1
        have hs0 : IntKind.i64.wrap (k : Int) = (k : Int) := IntWalk.i64_in _ (by omega)
        go_wp2_with fail
        refine wp_region_can Later [(0, true), (1, true), (2, true), (3, true), (4, true), (5, true), (6, true), (7, true), (8, true), (9, true), (10, true), (11, true), (12, true), (13, true), (14, true), (15, true), (16, true), (17, false), (18, true), (19, true)] (by kernel_rfl) (by kernel_rfl) later_refl later_trans ?_
        repeat (first
          | (refine can_yes (v := ?_) rfl (wanted_none rfl) (fun w' hC => ?_) (fun K hK => ?_); rotate_left; (focus (go_simp; (try simp (disch := omega) only [IntWalk.i64_in]); first | done | exact rfl)); go_simp; (try simp (disch := omega) only [IntWalk.i64_in]); refine hK _ ?_; clear hK K)
          | (refine can_guard rfl (fun A B hA hB => ?_); go_simp; first | (refine hA ⟨?_, fun w' hC => ?_, fun K hK => ?_⟩; rotate_left; (focus (go_simp; (try simp (disch := omega) only [IntWalk.i64_in]); first | done | exact rfl)); go_simp; (try simp (disch := omega) only [IntWalk.i64_in]); refine hK _ ?_; clear hK K hA hB A B) | (refine hB (fun K hK => ?_); go_simp; (try simp (disch := omega) only [IntWalk.i64_in]); refine hK _ ?_; clear hK K hA hB A B))
          | (refine can_guard_go rfl (fun A B hA hB => ?_); go_simp; refine hB (fun K hK => ?_); go_simp; (try simp (disch := omega) only [IntWalk.i64_in]); refine hK _ ?_; clear hK K hA hB A B))
        refine can_go rfl rfl (fun KK hK => ?_)
        go_simp
        refine (HBF.out _).mono ?_
        rintro e w8 ⟨rfl, hw8⟩
        refine ⟨_, rfl, by rw [hw8]; exact later_refl _, hK _ _ ?_⟩
        clear hK KK px0 px1 py0 py1 hall HBF
        go_simp
        have HO8 := Lib.hid (show w8.ownsRow (w.heap.size + 1) 92 4 (.slice a5 np c5) np (pre.flatMap encIt) by rw [← hw8]; exact HO.out)
        have HB8 := Lib.hid (show Below (w.heap.size + 1) wx w8 by rw [← hw8]; exact Hbw.out.drew)
        have HS8 := Lib.hid (show w.heap.size + 1 ≤ w8.heap.size by rw [← hw8]; exact Hsz.out)
        clear hw8 x0 x1 x2 x3
        by_cases hlt : plt y.pl x.pl
        · have hd : decide (plt (y.key, y.dev) (x.key, x.dev)) = true := decide_eq_true hlt
          rw [hd]
          have he : y.pl ≠ x.pl := plt_ne hlt
          have Hst := Lib.hid (putRest_lt l x k hkl (by rw [Hy.out]; exact hlt))
          clear hd hlt
          repeat (first
            | (refine can_yes (v := ?_) rfl (wanted_none rfl) (fun w' hC => ?_) (fun K hK => ?_); rotate_left; (focus (go_simp; (try simp (disch := omega) only [IntWalk.i64_in]); first | done | exact rfl)); go_simp; (try simp (disch := omega) only [IntWalk.i64_in]); refine hK _ ?_; clear hK K)
            | (refine can_guard rfl (fun A B hA hB => ?_); go_simp; first | (refine hA ⟨?_, fun w' hC => ?_, fun K hK => ?_⟩; rotate_left; (focus (go_simp; (try simp (disch := omega) only [IntWalk.i64_in]); first | done | exact rfl)); go_simp; (try simp (disch := omega) only [IntWalk.i64_in]); refine hK _ ?_; clear hK K hA hB A B) | (refine hB (fun K hK => ?_); go_simp; (try simp (disch := omega) only [IntWalk.i64_in]); refine hK _ ?_; clear hK K hA hB A B))
            | (refine can_guard_go rfl (fun A B hA hB => ?_); go_simp; refine hB (fun K hK => ?_); go_simp; (try simp (disch := omega) only [IntWalk.i64_in]); refine hK _ ?_; clear hK K hA hB A B))
          refine can_nil ?_
          rcases HNE.out he with hky | ⟨hky, hdv⟩
          · have c1 : (y.key == x.key) = false := by simpa using hky
            clear he hky
            have hall : ∀ w', Later w8.drew w' → Below (w.heap.size + 1) wx w' := fun w' hh => HB8.out.drew.trans (RowKit.Below.mono hh HS8.out)
            have px0 : ∀ w', Later w8.drew w' → w'.cell? ⟨w.heap.size, 0, none⟩ = some (.string ⟨x.key.toArray⟩) := fun w' hh => (cell4 (HX.out w' (hall w' hh)).1).1
            have px1 : ∀ w', Later w8.drew w' → w'.cell? ⟨w.heap.size, 1, none⟩ = some (.int .i64 x.dev) := fun w' hh => (cell4 (HX.out w' (hall w' hh)).1).2.1
            have py0 : ∀ w', Later w8.drew w' → w'.cell? ⟨b, off + k * 4, none⟩ = some (.string ⟨y.key.toArray⟩) := fun w' hh => (HY.out w' (hall w' hh)).1
            have py1 : ∀ w', Later w8.drew w' → w'.cell? ⟨b, off + k * 4 + 1, none⟩ = some (.int .i64 y.dev) := fun w' hh => (HY.out w' (hall w' hh)).2.1
            have hs0 : IntKind.i64.wrap (k : Int) = (k : Int) := IntWalk.i64_in _ (by omega)
            go_wp2_with fail
            refine wp_region_can Later [(0, true), (1, true), (2, true), (3, true), (4, true), (5, true), (6, true), (7, true), (8, true), (9, true), (10, true), (11, true), (12, true), (13, true), (14, true), (15, true), (16, true), (17, true)] (by kernel_rfl) (by kernel_rfl) later_refl later_trans ?_
            repeat (first
              | (refine can_yes (v := ?_) rfl (wanted_none rfl) (fun w' hC => ?_) (fun K hK => ?_); rotate_left; (focus (go_simp; (try simp (disch := omega) only [IntWalk.i64_in]); first | done | exact rfl)); go_simp; (try simp (disch := omega) only [IntWalk.i64_in]); refine hK _ ?_; clear hK K)
              | (refine can_guard rfl (fun A B hA hB => ?_); go_simp; first | (refine hA ⟨?_, fun w' hC => ?_, fun K hK => ?_⟩; rotate_left; (focus (go_simp; (try simp (disch := omega) only [IntWalk.i64_in]); first | done | exact rfl)); go_simp; (try simp (disch := omega) only [IntWalk.i64_in]); refine hK _ ?_; clear hK K hA hB A B) | (refine hB (fun K hK => ?_); go_simp; (try simp (disch := omega) only [IntWalk.i64_in]); refine hK _ ?_; clear hK K hA hB A B))
              | (refine can_guard_go rfl (fun A B hA hB => ?_); go_simp; refine hB (fun K hK => ?_); go_simp; (try simp (disch := omega) only [IntWalk.i64_in]); refine hK _ ?_; clear hK K hA hB A B))
            refine can_nil ?_
            clear px0 px1 py0 py1 hall
            obtain ⟨w9, hw9⟩ : ∃ w9, w9 = w8.drew := ⟨_, rfl⟩
            rw [← hw9]
            have HO9 := Lib.hid (show w9.ownsRow (w.heap.size + 1) 92 4 (.slice a5 np c5) np ((pre).flatMap encIt) by rw [hw9]; exact HO8.out)
            have HB9 := Lib.hid (show Below (w.heap.size + 1) wx w9 by rw [hw9]; exact HB8.out.drew)
            have HS9 := Lib.hid (show w.heap.size + 1 ≤ w9.heap.size by rw [hw9]; exact HS8.out)
            clear hw9
            have hY9 := HY.out w9 HB9.out
            obtain ⟨g0, g1, g2, g3⟩ := hY9
            obtain ⟨i0, t1, t2, t3, t4⟩ := info_parts infoItR
            obtain ⟨v5, w5, hr5, hown5, hg5⟩ := run_append_one (P := Tryz.prog) w9 (w.heap.size + 1) 23 92 Tryz.underlying23 t1 t2 t3 t4 rfl (by decide) (.slice a5 np c5) np _ HO9.out #[.string ⟨y.key.toArray⟩, .int .i64 y.dev, .int .i64 y.seq, .int .i64 y.val] rfl (by simp [Value.oneCell']) (by unfold maxLen; omega) (by omega) HS9.out
            obtain ⟨a6, c6, rfl⟩ := own_shape hown5
            have hb5 : Below (w.heap.size + 1) wx w5 := HB9.out.trans (((Below.refl (w.heap.size + 1) w9).alloc HS9.out _).trans (Below.grownOwn (own_below HO9.out (kept_alloc _ _)) hg5 (by have := HS9.out; simp; omega) (Nat.le_refl _)))
            have hs5 : w.heap.size + 1 ≤ w5.heap.size := by have := hb5.size; have := Hzx.out; omega
            have Hown5 := Lib.hid hown5; have Hb5 := Lib.hid hb5; have Hs5 := Lib.hid hs5
            clear hown5 hg5 hb5 t1 t2 t3 t4 hs5
            go_wp2_with fail
            go_roundw
            case rel => exact ⟨k + 1, false, pre ++ [y], by omega, by go_num, rfl, by rw [List.length_append, Hnp.out, flat_snoc]; exact Hown5.out, by have := Hst.out; rw [Hy.out] at this; rw [← Hput.out, this]; simp, ⟨by rw [List.length_append, Hnp.out]; simp; omega, fun h => by first | exact absurd h (by decide) | (rw [List.length_append, Hnp.out]; simp; omega)⟩, Hb5.out⟩
            case measure => simp [intOf]; omega
          · have c1 : (y.key == x.key) = true := by simpa using hky
            have c2 : (y.dev == x.dev) = false := by simpa using hdv
            clear he hky hdv
            have hall : ∀ w', Later w8.drew w' → Below (w.heap.size + 1) wx w' := fun w' hh => HB8.out.drew.trans (RowKit.Below.mono hh HS8.out)
            have px0 : ∀ w', Later w8.drew w' → w'.cell? ⟨w.heap.size, 0, none⟩ = some (.string ⟨x.key.toArray⟩) := fun w' hh => (cell4 (HX.out w' (hall w' hh)).1).1
            have px1 : ∀ w', Later w8.drew w' → w'.cell? ⟨w.heap.size, 1, none⟩ = some (.int .i64 x.dev) := fun w' hh => (cell4 (HX.out w' (hall w' hh)).1).2.1
            have py0 : ∀ w', Later w8.drew w' → w'.cell? ⟨b, off + k * 4, none⟩ = some (.string ⟨y.key.toArray⟩) := fun w' hh => (HY.out w' (hall w' hh)).1
            have py1 : ∀ w', Later w8.drew w' → w'.cell? ⟨b, off + k * 4 + 1, none⟩ = some (.int .i64 y.dev) := fun w' hh => (HY.out w' (hall w' hh)).2.1
            have hs0 : IntKind.i64.wrap (k : Int) = (k : Int) := IntWalk.i64_in _ (by omega)
            go_wp2_with fail
            refine wp_region_can Later [(0, true), (1, true), (2, true), (3, true), (4, true), (5, true), (6, true), (7, true), (8, true), (9, true), (10, true), (11, true), (12, true), (13, true), (14, true), (15, true), (16, true), (17, true)] (by kernel_rfl) (by kernel_rfl) later_refl later_trans ?_
            repeat (first
              | (refine can_yes (v := ?_) rfl (wanted_none rfl) (fun w' hC => ?_) (fun K hK => ?_); rotate_left; (focus (go_simp; (try simp (disch := omega) only [IntWalk.i64_in]); first | done | exact rfl)); go_simp; (try simp (disch := omega) only [IntWalk.i64_in]); refine hK _ ?_; clear hK K)
              | (refine can_guard rfl (fun A B hA hB => ?_); go_simp; first | (refine hA ⟨?_, fun w' hC => ?_, fun K hK => ?_⟩; rotate_left; (focus (go_simp; (try simp (disch := omega) only [IntWalk.i64_in]); first | done | exact rfl)); go_simp; (try simp (disch := omega) only [IntWalk.i64_in]); refine hK _ ?_; clear hK K hA hB A B) | (refine hB (fun K hK => ?_); go_simp; (try simp (disch := omega) only [IntWalk.i64_in]); refine hK _ ?_; clear hK K hA hB A B))
              | (refine can_guard_go rfl (fun A B hA hB => ?_); go_simp; refine hB (fun K hK => ?_); go_simp; (try simp (disch := omega) only [IntWalk.i64_in]); refine hK _ ?_; clear hK K hA hB A B))
            refine can_nil ?_
            clear px0 px1 py0 py1 hall
            obtain ⟨w9, hw9⟩ : ∃ w9, w9 = w8.drew := ⟨_, rfl⟩
            rw [← hw9]
            have HO9 := Lib.hid (show w9.ownsRow (w.heap.size + 1) 92 4 (.slice a5 np c5) np ((pre).flatMap encIt) by rw [hw9]; exact HO8.out)
            have HB9 := Lib.hid (show Below (w.heap.size + 1) wx w9 by rw [hw9]; exact HB8.out.drew)
            have HS9 := Lib.hid (show w.heap.size + 1 ≤ w9.heap.size by rw [hw9]; exact HS8.out)
            clear hw9
            have hY9 := HY.out w9 HB9.out
            obtain ⟨g0, g1, g2, g3⟩ := hY9
            obtain ⟨i0, t1, t2, t3, t4⟩ := info_parts infoItR
            obtain ⟨v5, w5, hr5, hown5, hg5⟩ := run_append_one (P := Tryz.prog) w9 (w.heap.size + 1) 23 92 Tryz.underlying23 t1 t2 t3 t4 rfl (by decide) (.slice a5 np c5) np _ HO9.out #[.string ⟨y.key.toArray⟩, .int .i64 y.dev, .int .i64 y.seq, .int .i64 y.val] rfl (by simp [Value.oneCell']) (by unfold maxLen; omega) (by omega) HS9.out
            obtain ⟨a6, c6, rfl⟩ := own_shape hown5
            have hb5 : Below (w.heap.size + 1) wx w5 := HB9.out.trans (((Below.refl (w.heap.size + 1) w9).alloc HS9.out _).trans (Below.grownOwn (own_below HO9.out (kept_alloc _ _)) hg5 (by have := HS9.out; simp; omega) (Nat.le_refl _)))
            have hs5 : w.heap.size + 1 ≤ w5.heap.size := by have := hb5.size; have := Hzx.out; omega
            have Hown5 := Lib.hid hown5; have Hb5 := Lib.hid hb5; have Hs5 := Lib.hid hs5
            clear hown5 hg5 hb5 t1 t2 t3 t4 hs5
            go_wp2_with fail
            go_roundw
            case rel => exact ⟨k + 1, false, pre ++ [y], by omega, by go_num, rfl, by rw [List.length_append, Hnp.out, flat_snoc]; exact Hown5.out, by have := Hst.out; rw [Hy.out] at this; rw [← Hput.out, this]; simp, ⟨by rw [List.length_append, Hnp.out]; simp; omega, fun h => by first | exact absurd h (by decide) | (rw [List.length_append, Hnp.out]; simp; omega)⟩, Hb5.out⟩
            case measure => simp [intOf]; omega
        · have hd : decide (plt (y.key, y.dev) (x.key, x.dev)) = false := decide_eq_false hlt
          rw [hd]
          have Hnow := Lib.hid (putRest_now l x k hkl (by rw [Hy.out]; exact hlt))
          clear hd hlt
          repeat (first
            | (refine can_yes (v := ?_) rfl (wanted_none rfl) (fun w' hC => ?_) (fun K hK => ?_); rotate_left; (focus (go_simp; (try simp (disch := omega) only [IntWalk.i64_in]); first | done | exact rfl)); go_simp; (try simp (disch := omega) only [IntWalk.i64_in]); refine hK _ ?_; clear hK K)
            | (refine can_guard rfl (fun A B hA hB => ?_); go_simp; first | (refine hA ⟨?_, fun w' hC => ?_, fun K hK => ?_⟩; rotate_left; (focus (go_simp; (try simp (disch := omega) only [IntWalk.i64_in]); first | done | exact rfl)); go_simp; (try simp (disch := omega) only [IntWalk.i64_in]); refine hK _ ?_; clear hK K hA hB A B) | (refine hB (fun K hK => ?_); go_simp; (try simp (disch := omega) only [IntWalk.i64_in]); refine hK _ ?_; clear hK K hA hB A B))
            | (refine can_guard_go rfl (fun A B hA hB => ?_); go_simp; refine hB (fun K hK => ?_); go_simp; (try simp (disch := omega) only [IntWalk.i64_in]); refine hK _ ?_; clear hK K hA hB A B))
          refine can_nil ?_
          obtain ⟨x0, x1, x2, x3⟩ := cell4 (HX.out w8 HB8.out).1
          obtain ⟨i0, t1, t2, t3, t4⟩ := info_parts infoItR
          obtain ⟨v5, w5, hr5, hown5, hg5⟩ := run_append_one (P := Tryz.prog) w8 (w.heap.size + 1) 23 92 Tryz.underlying23 t1 t2 t3 t4 rfl (by decide) (.slice a5 np c5) np _ HO8.out #[.string ⟨x.key.toArray⟩, .int .i64 x.dev, .int .i64 x.seq, .int .i64 x.val] rfl (by simp [Value.oneCell']) (by unfold maxLen; omega) (by omega) HS8.out
          obtain ⟨a6, c6, rfl⟩ := own_shape hown5
          have hb5 : Below (w.heap.size + 1) wx w5 := HB8.out.trans (((Below.refl (w.heap.size + 1) w8).alloc HS8.out _).trans (Below.grownOwn (own_below HO8.out (kept_alloc _ _)) hg5 (by have := HS8.out; simp; omega) (Nat.le_refl _)))
          have hs5 : w.heap.size + 1 ≤ w5.heap.size := by have := hb5.size; have := Hzx.out; omega
          have Hown5 := Lib.hid hown5; have Hb5 := Lib.hid hb5; have Hs5 := Lib.hid hs5
          clear hown5 hg5 hb5 t1 t2 t3 t4 hs5
          have Hput1 := Lib.hid (show (pre ++ [x]) ++ putRest RIt.pl l x k true = putL RIt.pl l x by rw [← Hput.out, Hnow.out]; simp)
          have Hnp1 := Lib.hid (show (pre ++ [x]).length = np + 1 by rw [List.length_append, Hnp.out]; rfl)
          have HO5 := Lib.hid (show w5.ownsRow (w.heap.size + 1) 92 4 (.slice a6 (np + 1) c6) (np + 1) ((pre ++ [x]).flatMap encIt) by rw [flat_snoc]; exact Hown5.out)
          clear Hown5 HO8
          by_cases he : y.pl = x.pl
          · go_wp2_with fail
            clear hr5 x0 x1 x2 x3
            obtain ⟨e1, e2⟩ := Prod.mk.inj he
            have c1 : (y.key == x.key) = true := by simp [show y.key = x.key from e1]
            have c2 : (y.dev == x.dev) = true := by simp [show y.dev = x.dev from e2]
            have Hst := Lib.hid (putRest_eq l x k hkl (by rw [Hy.out]; exact he))
            clear he e1 e2
            have hall : ∀ w', Later w5.drew w' → Below (w.heap.size + 1) wx w' := fun w' hh => Hb5.out.drew.trans (RowKit.Below.mono hh Hs5.out)
            have px0 : ∀ w', Later w5.drew w' → w'.cell? ⟨w.heap.size, 0, none⟩ = some (.string ⟨x.key.toArray⟩) := fun w' hh => (cell4 (HX.out w' (hall w' hh)).1).1
            have px1 : ∀ w', Later w5.drew w' → w'.cell? ⟨w.heap.size, 1, none⟩ = some (.int .i64 x.dev) := fun w' hh => (cell4 (HX.out w' (hall w' hh)).1).2.1
            have py0 : ∀ w', Later w5.drew w' → w'.cell? ⟨b, off + k * 4, none⟩ = some (.string ⟨y.key.toArray⟩) := fun w' hh => (HY.out w' (hall w' hh)).1
            have py1 : ∀ w', Later w5.drew w' → w'.cell? ⟨b, off + k * 4 + 1, none⟩ = some (.int .i64 y.dev) := fun w' hh => (HY.out w' (hall w' hh)).2.1
            have hs0 : IntKind.i64.wrap (k : Int) = (k : Int) := IntWalk.i64_in _ (by omega)
            go_wp2_with fail
            refine wp_region_can Later [(0, true), (1, true), (2, true), (3, true), (4, true), (5, true), (6, true), (7, true), (8, true), (9, true), (10, true), (11, true), (12, true), (13, true), (14, true), (15, true), (16, true), (17, true)] (by kernel_rfl) (by kernel_rfl) later_refl later_trans ?_
            repeat (first
              | (refine can_yes (v := ?_) rfl (wanted_none rfl) (fun w' hC => ?_) (fun K hK => ?_); rotate_left; (focus (go_simp; (try simp (disch := omega) only [IntWalk.i64_in]); first | done | exact rfl)); go_simp; (try simp (disch := omega) only [IntWalk.i64_in]); refine hK _ ?_; clear hK K)
              | (refine can_guard rfl (fun A B hA hB => ?_); go_simp; first | (refine hA ⟨?_, fun w' hC => ?_, fun K hK => ?_⟩; rotate_left; (focus (go_simp; (try simp (disch := omega) only [IntWalk.i64_in]); first | done | exact rfl)); go_simp; (try simp (disch := omega) only [IntWalk.i64_in]); refine hK _ ?_; clear hK K hA hB A B) | (refine hB (fun K hK => ?_); go_simp; (try simp (disch := omega) only [IntWalk.i64_in]); refine hK _ ?_; clear hK K hA hB A B))
              | (refine can_guard_go rfl (fun A B hA hB => ?_); go_simp; refine hB (fun K hK => ?_); go_simp; (try simp (disch := omega) only [IntWalk.i64_in]); refine hK _ ?_; clear hK K hA hB A B))
            refine can_nil ?_
            clear px0 px1 py0 py1 hall
            obtain ⟨w9, hw9⟩ : ∃ w9, w9 = w5.drew := ⟨_, rfl⟩
            rw [← hw9]
            have HO9 := Lib.hid (show w9.ownsRow (w.heap.size + 1) 92 4 (.slice a6 (np + 1) c6) (np + 1) (((pre ++ [x])).flatMap encIt) by rw [hw9]; exact HO5.out)
            have HB9 := Lib.hid (show Below (w.heap.size + 1) wx w9 by rw [hw9]; exact Hb5.out.drew)
            have HS9 := Lib.hid (show w.heap.size + 1 ≤ w9.heap.size by rw [hw9]; exact Hs5.out)
            clear hw9
            go_wp2_with fail
            go_roundw
            case rel => exact ⟨k + 1, true, (pre ++ [x]), by omega, by go_num, rfl, by rw [Hnp1.out]; exact HO9.out, by rw [← Hst.out]; exact Hput1.out, ⟨by rw [Hnp1.out]; omega, nofun⟩, HB9.out⟩
            case measure => simp [intOf]; omega
          · have Hst := Lib.hid (putRest_ne l x k hkl (by rw [Hy.out]; exact he))
            go_wp2_with fail
            clear hr5 x0 x1 x2 x3
            rcases HNE.out he with hky | ⟨hky, hdv⟩
            · have c1 : (y.key == x.key) = false := by simpa using hky
              clear he hky
              have hall : ∀ w', Later w5.drew w' → Below (w.heap.size + 1) wx w' := fun w' hh => Hb5.out.drew.trans (RowKit.Below.mono hh Hs5.out)
              have px0 : ∀ w', Later w5.drew w' → w'.cell? ⟨w.heap.size, 0, none⟩ = some (.string ⟨x.key.toArray⟩) := fun w' hh => (cell4 (HX.out w' (hall w' hh)).1).1
              have px1 : ∀ w', Later w5.drew w' → w'.cell? ⟨w.heap.size, 1, none⟩ = some (.int .i64 x.dev) := fun w' hh => (cell4 (HX.out w' (hall w' hh)).1).2.1
              have py0 : ∀ w', Later w5.drew w' → w'.cell? ⟨b, off + k * 4, none⟩ = some (.string ⟨y.key.toArray⟩) := fun w' hh => (HY.out w' (hall w' hh)).1
              have py1 : ∀ w', Later w5.drew w' → w'.cell? ⟨b, off + k * 4 + 1, none⟩ = some (.int .i64 y.dev) := fun w' hh => (HY.out w' (hall w' hh)).2.1
              have hs0 : IntKind.i64.wrap (k : Int) = (k : Int) := IntWalk.i64_in _ (by omega)
              go_wp2_with fail
              refine wp_region_can Later [(0, true), (1, true), (2, true), (3, true), (4, true), (5, true), (6, true), (7, true), (8, true), (9, true), (10, true), (11, true), (12, true), (13, true), (14, true), (15, true), (16, true), (17, true)] (by kernel_rfl) (by kernel_rfl) later_refl later_trans ?_
              repeat (first
                | (refine can_yes (v := ?_) rfl (wanted_none rfl) (fun w' hC => ?_) (fun K hK => ?_); rotate_left; (focus (go_simp; (try simp (disch := omega) only [IntWalk.i64_in]); first | done | exact rfl)); go_simp; (try simp (disch := omega) only [IntWalk.i64_in]); refine hK _ ?_; clear hK K)
                | (refine can_guard rfl (fun A B hA hB => ?_); go_simp; first | (refine hA ⟨?_, fun w' hC => ?_, fun K hK => ?_⟩; rotate_left; (focus (go_simp; (try simp (disch := omega) only [IntWalk.i64_in]); first | done | exact rfl)); go_simp; (try simp (disch := omega) only [IntWalk.i64_in]); refine hK _ ?_; clear hK K hA hB A B) | (refine hB (fun K hK => ?_); go_simp; (try simp (disch := omega) only [IntWalk.i64_in]); refine hK _ ?_; clear hK K hA hB A B))
                | (refine can_guard_go rfl (fun A B hA hB => ?_); go_simp; refine hB (fun K hK => ?_); go_simp; (try simp (disch := omega) only [IntWalk.i64_in]); refine hK _ ?_; clear hK K hA hB A B))
              refine can_nil ?_
              clear px0 px1 py0 py1 hall
              obtain ⟨w9, hw9⟩ : ∃ w9, w9 = w5.drew := ⟨_, rfl⟩
              rw [← hw9]
              have HO9 := Lib.hid (show w9.ownsRow (w.heap.size + 1) 92 4 (.slice a6 (np + 1) c6) (np + 1) (((pre ++ [x])).flatMap encIt) by rw [hw9]; exact HO5.out)
              have HB9 := Lib.hid (show Below (w.heap.size + 1) wx w9 by rw [hw9]; exact Hb5.out.drew)
              have HS9 := Lib.hid (show w.heap.size + 1 ≤ w9.heap.size by rw [hw9]; exact Hs5.out)
              clear hw9
              have hY9 := HY.out w9 HB9.out
              obtain ⟨g0, g1, g2, g3⟩ := hY9
              obtain ⟨i0, t1, t2, t3, t4⟩ := info_parts infoItR
              obtain ⟨v5, w5, hr5, hown5, hg5⟩ := run_append_one (P := Tryz.prog) w9 (w.heap.size + 1) 23 92 Tryz.underlying23 t1 t2 t3 t4 rfl (by decide) (.slice a6 (np + 1) c6) (np + 1) _ HO9.out #[.string ⟨y.key.toArray⟩, .int .i64 y.dev, .int .i64 y.seq, .int .i64 y.val] rfl (by simp [Value.oneCell']) (by unfold maxLen; omega) (by omega) HS9.out
              obtain ⟨a6, c6, rfl⟩ := own_shape hown5
              have hb5 : Below (w.heap.size + 1) wx w5 := HB9.out.trans (((Below.refl (w.heap.size + 1) w9).alloc HS9.out _).trans (Below.grownOwn (own_below HO9.out (kept_alloc _ _)) hg5 (by have := HS9.out; simp; omega) (Nat.le_refl _)))
              have hs5 : w.heap.size + 1 ≤ w5.heap.size := by have := hb5.size; have := Hzx.out; omega
              have Hown5 := Lib.hid hown5; have Hb5 := Lib.hid hb5; have Hs5 := Lib.hid hs5
              clear hown5 hg5 hb5 t1 t2 t3 t4 hs5
              go_wp2_with fail
              go_roundw
              case rel => exact ⟨k + 1, true, (pre ++ [x]) ++ [y], by omega, by go_num, rfl, by rw [List.length_append, Hnp1.out, flat_snoc]; exact Hown5.out, by have := Hst.out; rw [Hy.out] at this; rw [← Hput1.out, this]; simp, ⟨by rw [List.length_append, Hnp1.out]; simp; omega, fun h => by first | exact absurd h (by decide) | (rw [List.length_append, Hnp1.out]; simp; omega)⟩, Hb5.out⟩
              case measure => simp [intOf]; omega
            · have c1 : (y.key == x.key) = true := by simpa using hky
              have c2 : (y.dev == x.dev) = false := by simpa using hdv
              clear he hky hdv
              have hall : ∀ w', Later w5.drew w' → Below (w.heap.size + 1) wx w' := fun w' hh => Hb5.out.drew.trans (RowKit.Below.mono hh Hs5.out)
              have px0 : ∀ w', Later w5.drew w' → w'.cell? ⟨w.heap.size, 0, none⟩ = some (.string ⟨x.key.toArray⟩) := fun w' hh => (cell4 (HX.out w' (hall w' hh)).1).1
              have px1 : ∀ w', Later w5.drew w' → w'.cell? ⟨w.heap.size, 1, none⟩ = some (.int .i64 x.dev) := fun w' hh => (cell4 (HX.out w' (hall w' hh)).1).2.1
              have py0 : ∀ w', Later w5.drew w' → w'.cell? ⟨b, off + k * 4, none⟩ = some (.string ⟨y.key.toArray⟩) := fun w' hh => (HY.out w' (hall w' hh)).1
              have py1 : ∀ w', Later w5.drew w' → w'.cell? ⟨b, off + k * 4 + 1, none⟩ = some (.int .i64 y.dev) := fun w' hh => (HY.out w' (hall w' hh)).2.1
              have hs0 : IntKind.i64.wrap (k : Int) = (k : Int) := IntWalk.i64_in _ (by omega)
              go_wp2_with fail
              refine wp_region_can Later [(0, true), (1, true), (2, true), (3, true), (4, true), (5, true), (6, true), (7, true), (8, true), (9, true), (10, true), (11, true), (12, true), (13, true), (14, true), (15, true), (16, true), (17, true)] (by kernel_rfl) (by kernel_rfl) later_refl later_trans ?_
              repeat (first
                | (refine can_yes (v := ?_) rfl (wanted_none rfl) (fun w' hC => ?_) (fun K hK => ?_); rotate_left; (focus (go_simp; (try simp (disch := omega) only [IntWalk.i64_in]); first | done | exact rfl)); go_simp; (try simp (disch := omega) only [IntWalk.i64_in]); refine hK _ ?_; clear hK K)
                | (refine can_guard rfl (fun A B hA hB => ?_); go_simp; first | (refine hA ⟨?_, fun w' hC => ?_, fun K hK => ?_⟩; rotate_left; (focus (go_simp; (try simp (disch := omega) only [IntWalk.i64_in]); first | done | exact rfl)); go_simp; (try simp (disch := omega) only [IntWalk.i64_in]); refine hK _ ?_; clear hK K hA hB A B) | (refine hB (fun K hK => ?_); go_simp; (try simp (disch := omega) only [IntWalk.i64_in]); refine hK _ ?_; clear hK K hA hB A B))
                | (refine can_guard_go rfl (fun A B hA hB => ?_); go_simp; refine hB (fun K hK => ?_); go_simp; (try simp (disch := omega) only [IntWalk.i64_in]); refine hK _ ?_; clear hK K hA hB A B))
              refine can_nil ?_
              clear px0 px1 py0 py1 hall
              obtain ⟨w9, hw9⟩ : ∃ w9, w9 = w5.drew := ⟨_, rfl⟩
              rw [← hw9]
              have HO9 := Lib.hid (show w9.ownsRow (w.heap.size + 1) 92 4 (.slice a6 (np + 1) c6) (np + 1) (((pre ++ [x])).flatMap encIt) by rw [hw9]; exact HO5.out)
              have HB9 := Lib.hid (show Below (w.heap.size + 1) wx w9 by rw [hw9]; exact Hb5.out.drew)
              have HS9 := Lib.hid (show w.heap.size + 1 ≤ w9.heap.size by rw [hw9]; exact Hs5.out)
              clear hw9
              have hY9 := HY.out w9 HB9.out
              obtain ⟨g0, g1, g2, g3⟩ := hY9
              obtain ⟨i0, t1, t2, t3, t4⟩ := info_parts infoItR
              obtain ⟨v5, w5, hr5, hown5, hg5⟩ := run_append_one (P := Tryz.prog) w9 (w.heap.size + 1) 23 92 Tryz.underlying23 t1 t2 t3 t4 rfl (by decide) (.slice a6 (np + 1) c6) (np + 1) _ HO9.out #[.string ⟨y.key.toArray⟩, .int .i64 y.dev, .int .i64 y.seq, .int .i64 y.val] rfl (by simp [Value.oneCell']) (by unfold maxLen; omega) (by omega) HS9.out
              obtain ⟨a6, c6, rfl⟩ := own_shape hown5
              have hb5 : Below (w.heap.size + 1) wx w5 := HB9.out.trans (((Below.refl (w.heap.size + 1) w9).alloc HS9.out _).trans (Below.grownOwn (own_below HO9.out (kept_alloc _ _)) hg5 (by have := HS9.out; simp; omega) (Nat.le_refl _)))
              have hs5 : w.heap.size + 1 ≤ w5.heap.size := by have := hb5.size; have := Hzx.out; omega
              have Hown5 := Lib.hid hown5; have Hb5 := Lib.hid hb5; have Hs5 := Lib.hid hs5
              clear hown5 hg5 hb5 t1 t2 t3 t4 hs5
              go_wp2_with fail
              go_roundw
              case rel => exact ⟨k + 1, true, (pre ++ [x]) ++ [y], by omega, by go_num, rfl, by rw [List.length_append, Hnp1.out, flat_snoc]; exact Hown5.out, by have := Hst.out; rw [Hy.out] at this; rw [← Hput1.out, this]; simp, ⟨by rw [List.length_append, Hnp1.out]; simp; omega, fun h => by first | exact absurd h (by decide) | (rw [List.length_append, Hnp1.out]; simp; omega)⟩, Hb5.out⟩
              case measure => simp [intOf]; omega
    · have hkI : ¬ (k : Int) < (n : Int) := by omega
      have hke : k = l.length := by rw [Hn.out]; omega
      have HO := Lib.hid hown
      cases done with
      | true =>
        have hfin : pre = putL RIt.pl l x := by have := Hput.out; rw [hke, putRest_end_done] at this; simpa using this
        have Hfin := Lib.hid (show wr.ownsRow w.heap.size 92 4 (.slice a5 np c5) (putL RIt.pl l x).length ((putL RIt.pl l x).flatMap encIt) by rw [← hfin, Hnp.out]; exact own_base HO.out (Nat.le_succ _))
        clear hke hfin
        go_wp2_with fail
        go_ret
        exact ⟨⟨_, rfl, Hfin.out⟩, Hbx.out.trans (Hbw.out.mono (Nat.le_succ _))⟩
      | false =>
        have hfin : pre ++ [x] = putL RIt.pl l x := by have := Hput.out; rw [hke, putRest_end] at this; exact this
        obtain ⟨i0, t1, t2, t3, t4⟩ := info_parts infoItR
        obtain ⟨v5, w5, hr5, hown5, hg5⟩ := run_append_one (P := Tryz.prog) wr (w.heap.size + 1) 23 92 Tryz.underlying23 t1 t2 t3 t4 rfl (by decide) (.slice a5 np c5) np _ HO.out #[.string ⟨x.key.toArray⟩, .int .i64 x.dev, .int .i64 x.seq, .int .i64 x.val] rfl (by simp [Value.oneCell']) (by unfold maxLen; omega) (by omega) Hsz.out
        obtain ⟨a6, c6, rfl⟩ := own_shape hown5
        have hb5 : Below (w.heap.size + 1) wx w5 := Hbw.out.trans (((Below.refl (w.heap.size + 1) wr).alloc Hsz.out _).trans (Below.grownOwn (own_below HO.out (kept_alloc _ _)) hg5 (by have := Hsz.out; simp; omega) (Nat.le_refl _)))
        have hs5 : w.heap.size + 1 ≤ w5.heap.size := by have := hb5.size; have := Hzx.out; omega
        have Hown5 := Lib.hid hown5; have Hb5 := Lib.hid hb5; have Hs5 := Lib.hid hs5
        clear hown5 hg5 hb5 t1 t2 t3 t4 hs5
        have Hfin := Lib.hid (show w5.ownsRow w.heap.size 92 4 (.slice a6 (np + 1) c6) (putL RIt.pl l x).length ((putL RIt.pl l x).flatMap encIt) by
          rw [← hfin, List.length_append, Hnp.out, flat_snoc]
          exact own_base Hown5.out (Nat.le_succ _))
        clear hke hfin
        go_wp2_with fail
        go_ret
        exact ⟨⟨_, rfl, Hfin.out⟩, Hbx.out.trans (Hb5.out.mono (Nat.le_succ _))⟩
set_option maxRecDepth 100000 in
set_option maxHeartbeats 6000000 in
theorem rbury_any (w : World) (F : Blks) (v : Value) (l : List RGo) (x : RGo) (hv : Rows F w 3 v l.length (l.flatMap encGo)) (hl : l.length ≤ 1000000) :
    Calls Tryz.prog 90 #[v, goV x] w fun e w' => (∃ r, e = .returned r ∧ w'.ownsRow w.heap.size 94 3 r (putL RGo.pl l x).length ((putL RGo.pl l x).flatMap encGo)) ∧ Below w.heap.size w w' := by
  replace hv := hv.mono (G := fun b => b < w.heap.size) fun b _ hlt => hlt
  obtain ⟨n, hn⟩ : ∃ n, l.length = n := ⟨_, rfl⟩
  obtain ⟨a, cap, rfl, -⟩ := hv.shape
  have Hv := Lib.hid hv
  rw [hn] at hl ⊢
  have Hn := Lib.hid hn
  obtain ⟨wx, hwx⟩ : ∃ wx, wx = w.alloc (.cells #[.string ⟨x.key.toArray⟩, .int .i64 x.dev, .int .i64 x.seq] 94) := ⟨_, rfl⟩
  have hbx : Below w.heap.size w wx := by rw [hwx]; exact kept_alloc _ _
  have hzx : wx.heap.size = w.heap.size + 1 := by rw [hwx]; simp
  have HX := Lib.hid (show ∀ W, Below (w.heap.size + 1) wx W → Blk W w.heap.size [.string ⟨x.key.toArray⟩, .int .i64 x.dev, .int .i64 x.seq] 94 ∧ Rows (fun b => b < w.heap.size) W 3 (.slice a l.length cap) l.length (l.flatMap encGo) from fun W hb => by
    have hk : Blk wx w.heap.size [.string ⟨x.key.toArray⟩, .int .i64 x.dev, .int .i64 x.seq] 94 := by rw [hwx]; exact Blk.new _ _ _
    exact ⟨hk.keep (hb.block _ (by omega)), (Hv.out.keep (w' := wx) fun b _ hlt => hbx.block b hlt).keep fun b hb' hlt => hb.block b (by omega)⟩)
  have Hs := Lib.hid (show PutRel RGo.pl encGo 3 94 (w.heap.size + 1) wx l x (.slice none 0 0) (.bool false) (.int .i64 0) wx from ⟨0, false, [], by omega, rfl, rfl, World.ownsRow_nil _ _ _ _, by rw [putRest_zero]; rfl, ⟨by simp, fun _ => by simp⟩, Below.refl _ _⟩)
  have Hwx := Lib.hid hwx; have Hbx := Lib.hid hbx; have Hzx := Lib.hid hzx
  clear hv hn hwx hbx hzx
  unfold goV
  go_enter Tryz.func90, Tryz.ntmps90
  go_wp2_with fail
  rw [← Hwx.out]
  go_loopw [5, 6, 7] (fun s sd si wr => PutRel RGo.pl encGo 3 94 (w.heap.size + 1) wx l x s sd si wr) (fun _ _ si _ => n - (intOf si).toNat)
  case atStart => exact Hs.out
  case round =>
    obtain ⟨k, done, pre, hk, rfl, rfl, hown, hput, ⟨hpl, hpl2⟩, hbw⟩ := hrel
    obtain ⟨a5, c5, rfl⟩ := own_shape hown
    obtain ⟨np, hnp⟩ : ∃ np, pre.length = np := ⟨_, rfl⟩
    rw [hnp] at hown hpl hpl2 ⊢
    have Hnp := Lib.hid hnp
    have Hput := Lib.hid hput; have Hbw := Lib.hid hbw
    have Hsz := Lib.hid (show w.heap.size + 1 ≤ wr.heap.size by have := hbw.size; have := Hzx.out; omega)
    rw [Hn.out] at hk
    obtain ⟨hxb, hrw⟩ := HX.out wr hbw
    obtain ⟨x0, x1, x2⟩ := cell3 hxb
    clear hnp hput hbw Hs
    by_cases hkn : k < n
    · have hkI : (k : Int) < (n : Int) := by omega
      have hkl : k < l.length := by rw [Hn.out]; exact hkn
      obtain ⟨b, off, rfl, hFb, -, hc⟩ := go_cell hrw (by omega)
      obtain ⟨y0, y1, y2⟩ := hc k hkl
      obtain ⟨y, hy⟩ : ∃ y, l[k] = y := ⟨_, rfl⟩
      rw [hy] at y0 y1 y2
      have Hy := Lib.hid hy
      have HY := Lib.hid (show ∀ W, Below (w.heap.size + 1) wx W → W.cell? ⟨b, off + k * 3, none⟩ = some (.string ⟨y.key.toArray⟩) ∧ W.cell? ⟨b, off + k * 3 + 1, none⟩ = some (.int .i64 y.dev) ∧ W.cell? ⟨b, off + k * 3 + 2, none⟩ = some (.int .i64 y.seq) from fun W hb => by
        have hr2 := (HX.out W hb).2
        obtain ⟨b', off', hbb, -, -, hc'⟩ := go_cell hr2 (by omega)
        simp at hbb
        obtain ⟨rfl, rfl⟩ := hbb
        have := hc' k hkl
        rw [hy] at this
        exact this)
      have HO := Lib.hid hown
      clear hc hy hown hrw hxb
      have HNE := Lib.hid (fun (h : y.pl ≠ x.pl) => show (y.key ≠ x.key) ∨ (y.key = x.key ∧ y.dev ≠ x.dev) from by
        by_cases e : y.key = x.key
        · exact .inr ⟨e, fun e2 => h (Prod.ext e e2)⟩
        · exact .inl e)
      cases done with
      | true =>
        clear hpl2
        go_wp2_with fail
        refine wp_region_can Later [(0, true), (1, true), (2, true), (3, true), (4, true), (5, true), (6, true), (7, true), (8, true), (9, true), (10, true), (11, true), (12, true), (13, true), (14, true), (15, true), (16, true), (17, false), (18, true), (19, true)] (by kernel_rfl) (by kernel_rfl) later_refl later_trans ?_
        repeat (first
          | (refine can_yes (v := ?_) rfl (wanted_none rfl) (fun w' hC => ?_) (fun K hK => ?_); rotate_left; (focus (go_simp; (try simp (disch := omega) only [IntWalk.i64_in]); first | done | exact rfl)); go_simp; (try simp (disch := omega) only [IntWalk.i64_in]); refine hK _ ?_; clear hK K)
          | (refine can_guard rfl (fun A B hA hB => ?_); go_simp; first | (refine hA ⟨?_, fun w' hC => ?_, fun K hK => ?_⟩; rotate_left; (focus (go_simp; (try simp (disch := omega) only [IntWalk.i64_in]); first | done | exact rfl)); go_simp; (try simp (disch := omega) only [IntWalk.i64_in]); refine hK _ ?_; clear hK K hA hB A B) | (refine hB (fun K hK => ?_); go_simp; (try simp (disch := omega) only [IntWalk.i64_in]); refine hK _ ?_; clear hK K hA hB A B))
          | (refine can_guard_go rfl (fun A B hA hB => ?_); go_simp; refine hB (fun K hK => ?_); go_simp; (try simp (disch := omega) only [IntWalk.i64_in]); refine hK _ ?_; clear hK K hA hB A B))
        refine can_nil ?_
        obtain ⟨w8, hw8⟩ : ∃ w8, w8 = wr.drew := ⟨_, rfl⟩
        rw [← hw8]
        have HO8 := Lib.hid (show w8.ownsRow (w.heap.size + 1) 94 3 (.slice a5 np c5) np (pre.flatMap encGo) by rw [hw8]; exact HO.out)
        have HB8 := Lib.hid (show Below (w.heap.size + 1) wx w8 by rw [hw8]; exact Hbw.out.drew)
        have HS8 := Lib.hid (show w.heap.size + 1 ≤ w8.heap.size by rw [hw8]; exact Hsz.out)
        clear hw8 x0 x1 x2
        by_cases he : y.pl = x.pl
        ·
          obtain ⟨e1, e2⟩ := Prod.mk.inj he
          have c1 : (y.key == x.key) = true := by simp [show y.key = x.key from e1]
          have c2 : (y.dev == x.dev) = true := by simp [show y.dev = x.dev from e2]
          have Hst := Lib.hid (putRest_eq l x k hkl (by rw [Hy.out]; exact he))
          clear he e1 e2
          have hall : ∀ w', Later w8.drew w' → Below (w.heap.size + 1) wx w' := fun w' hh => HB8.out.drew.trans (RowKit.Below.mono hh HS8.out)
          have px0 : ∀ w', Later w8.drew w' → w'.cell? ⟨w.heap.size, 0, none⟩ = some (.string ⟨x.key.toArray⟩) := fun w' hh => (cell3 (HX.out w' (hall w' hh)).1).1
          have px1 : ∀ w', Later w8.drew w' → w'.cell? ⟨w.heap.size, 1, none⟩ = some (.int .i64 x.dev) := fun w' hh => (cell3 (HX.out w' (hall w' hh)).1).2.1
          have py0 : ∀ w', Later w8.drew w' → w'.cell? ⟨b, off + k * 3, none⟩ = some (.string ⟨y.key.toArray⟩) := fun w' hh => (HY.out w' (hall w' hh)).1
          have py1 : ∀ w', Later w8.drew w' → w'.cell? ⟨b, off + k * 3 + 1, none⟩ = some (.int .i64 y.dev) := fun w' hh => (HY.out w' (hall w' hh)).2.1
          have hs0 : IntKind.i64.wrap (k : Int) = (k : Int) := IntWalk.i64_in _ (by omega)
          go_wp2_with fail
          refine wp_region_can Later [(0, true), (1, true), (2, true), (3, true), (4, true), (5, true), (6, true), (7, true), (8, true), (9, true), (10, true), (11, true), (12, true), (13, true), (14, true), (15, true), (16, true), (17, true)] (by kernel_rfl) (by kernel_rfl) later_refl later_trans ?_
          repeat (first
            | (refine can_yes (v := ?_) rfl (wanted_none rfl) (fun w' hC => ?_) (fun K hK => ?_); rotate_left; (focus (go_simp; (try simp (disch := omega) only [IntWalk.i64_in]); first | done | exact rfl)); go_simp; (try simp (disch := omega) only [IntWalk.i64_in]); refine hK _ ?_; clear hK K)
            | (refine can_guard rfl (fun A B hA hB => ?_); go_simp; first | (refine hA ⟨?_, fun w' hC => ?_, fun K hK => ?_⟩; rotate_left; (focus (go_simp; (try simp (disch := omega) only [IntWalk.i64_in]); first | done | exact rfl)); go_simp; (try simp (disch := omega) only [IntWalk.i64_in]); refine hK _ ?_; clear hK K hA hB A B) | (refine hB (fun K hK => ?_); go_simp; (try simp (disch := omega) only [IntWalk.i64_in]); refine hK _ ?_; clear hK K hA hB A B))
            | (refine can_guard_go rfl (fun A B hA hB => ?_); go_simp; refine hB (fun K hK => ?_); go_simp; (try simp (disch := omega) only [IntWalk.i64_in]); refine hK _ ?_; clear hK K hA hB A B))
          refine can_nil ?_
          clear px0 px1 py0 py1 hall
          obtain ⟨w9, hw9⟩ : ∃ w9, w9 = w8.drew := ⟨_, rfl⟩
          rw [← hw9]
          have HO9 := Lib.hid (show w9.ownsRow (w.heap.size + 1) 94 3 (.slice a5 np c5) np ((pre).flatMap encGo) by rw [hw9]; exact HO8.out)
          have HB9 := Lib.hid (show Below (w.heap.size + 1) wx w9 by rw [hw9]; exact HB8.out.drew)
          have HS9 := Lib.hid (show w.heap.size + 1 ≤ w9.heap.size by rw [hw9]; exact HS8.out)
          clear hw9
          go_wp2_with fail
          go_roundw
          case rel => exact ⟨k + 1, true, pre, by omega, by go_num, rfl, by rw [Hnp.out]; exact HO9.out, by rw [← Hst.out]; exact Hput.out, ⟨by rw [Hnp.out]; omega, nofun⟩, HB9.out⟩
          case measure => simp [intOf]; omega
        · have Hst := Lib.hid (putRest_ne l x k hkl (by rw [Hy.out]; exact he))
          rcases HNE.out he with hky | ⟨hky, hdv⟩
          · have c1 : (y.key == x.key) = false := by simpa using hky
            clear he hky
            have hall : ∀ w', Later w8.drew w' → Below (w.heap.size + 1) wx w' := fun w' hh => HB8.out.drew.trans (RowKit.Below.mono hh HS8.out)
            have px0 : ∀ w', Later w8.drew w' → w'.cell? ⟨w.heap.size, 0, none⟩ = some (.string ⟨x.key.toArray⟩) := fun w' hh => (cell3 (HX.out w' (hall w' hh)).1).1
            have px1 : ∀ w', Later w8.drew w' → w'.cell? ⟨w.heap.size, 1, none⟩ = some (.int .i64 x.dev) := fun w' hh => (cell3 (HX.out w' (hall w' hh)).1).2.1
            have py0 : ∀ w', Later w8.drew w' → w'.cell? ⟨b, off + k * 3, none⟩ = some (.string ⟨y.key.toArray⟩) := fun w' hh => (HY.out w' (hall w' hh)).1
            have py1 : ∀ w', Later w8.drew w' → w'.cell? ⟨b, off + k * 3 + 1, none⟩ = some (.int .i64 y.dev) := fun w' hh => (HY.out w' (hall w' hh)).2.1
            have hs0 : IntKind.i64.wrap (k : Int) = (k : Int) := IntWalk.i64_in _ (by omega)
            go_wp2_with fail
            refine wp_region_can Later [(0, true), (1, true), (2, true), (3, true), (4, true), (5, true), (6, true), (7, true), (8, true), (9, true), (10, true), (11, true), (12, true), (13, true), (14, true), (15, true), (16, true), (17, true)] (by kernel_rfl) (by kernel_rfl) later_refl later_trans ?_
            repeat (first
              | (refine can_yes (v := ?_) rfl (wanted_none rfl) (fun w' hC => ?_) (fun K hK => ?_); rotate_left; (focus (go_simp; (try simp (disch := omega) only [IntWalk.i64_in]); first | done | exact rfl)); go_simp; (try simp (disch := omega) only [IntWalk.i64_in]); refine hK _ ?_; clear hK K)
              | (refine can_guard rfl (fun A B hA hB => ?_); go_simp; first | (refine hA ⟨?_, fun w' hC => ?_, fun K hK => ?_⟩; rotate_left; (focus (go_simp; (try simp (disch := omega) only [IntWalk.i64_in]); first | done | exact rfl)); go_simp; (try simp (disch := omega) only [IntWalk.i64_in]); refine hK _ ?_; clear hK K hA hB A B) | (refine hB (fun K hK => ?_); go_simp; (try simp (disch := omega) only [IntWalk.i64_in]); refine hK _ ?_; clear hK K hA hB A B))
              | (refine can_guard_go rfl (fun A B hA hB => ?_); go_simp; refine hB (fun K hK => ?_); go_simp; (try simp (disch := omega) only [IntWalk.i64_in]); refine hK _ ?_; clear hK K hA hB A B))
            refine can_nil ?_
            clear px0 px1 py0 py1 hall
            obtain ⟨w9, hw9⟩ : ∃ w9, w9 = w8.drew := ⟨_, rfl⟩
            rw [← hw9]
            have HO9 := Lib.hid (show w9.ownsRow (w.heap.size + 1) 94 3 (.slice a5 np c5) np ((pre).flatMap encGo) by rw [hw9]; exact HO8.out)
            have HB9 := Lib.hid (show Below (w.heap.size + 1) wx w9 by rw [hw9]; exact HB8.out.drew)
            have HS9 := Lib.hid (show w.heap.size + 1 ≤ w9.heap.size by rw [hw9]; exact HS8.out)
            clear hw9
            have hY9 := HY.out w9 HB9.out
            obtain ⟨g0, g1, g2⟩ := hY9
            obtain ⟨i0, t1, t2, t3, t4⟩ := info_parts infoGoR
            obtain ⟨v5, w5, hr5, hown5, hg5⟩ := run_append_one (P := Tryz.prog) w9 (w.heap.size + 1) 24 94 Tryz.underlying24 t1 t2 t3 t4 rfl (by decide) (.slice a5 np c5) np _ HO9.out #[.string ⟨y.key.toArray⟩, .int .i64 y.dev, .int .i64 y.seq] rfl (by simp [Value.oneCell']) (by unfold maxLen; omega) (by omega) HS9.out
            obtain ⟨a6, c6, rfl⟩ := own_shape hown5
            have hb5 : Below (w.heap.size + 1) wx w5 := HB9.out.trans (((Below.refl (w.heap.size + 1) w9).alloc HS9.out _).trans (Below.grownOwn (own_below HO9.out (kept_alloc _ _)) hg5 (by have := HS9.out; simp; omega) (Nat.le_refl _)))
            have hs5 : w.heap.size + 1 ≤ w5.heap.size := by have := hb5.size; have := Hzx.out; omega
            have Hown5 := Lib.hid hown5; have Hb5 := Lib.hid hb5; have Hs5 := Lib.hid hs5
            clear hown5 hg5 hb5 t1 t2 t3 t4 hs5
            go_wp2_with fail
            go_roundw
            case rel => exact ⟨k + 1, true, pre ++ [y], by omega, by go_num, rfl, by rw [List.length_append, Hnp.out, flat_snoc]; exact Hown5.out, by have := Hst.out; rw [Hy.out] at this; rw [← Hput.out, this]; simp, ⟨by rw [List.length_append, Hnp.out]; simp; omega, fun h => by first | exact absurd h (by decide) | (rw [List.length_append, Hnp.out]; simp; omega)⟩, Hb5.out⟩
            case measure => simp [intOf]; omega
          · have c1 : (y.key == x.key) = true := by simpa using hky
            have c2 : (y.dev == x.dev) = false := by simpa using hdv
            clear he hky hdv
            have hall : ∀ w', Later w8.drew w' → Below (w.heap.size + 1) wx w' := fun w' hh => HB8.out.drew.trans (RowKit.Below.mono hh HS8.out)
            have px0 : ∀ w', Later w8.drew w' → w'.cell? ⟨w.heap.size, 0, none⟩ = some (.string ⟨x.key.toArray⟩) := fun w' hh => (cell3 (HX.out w' (hall w' hh)).1).1
            have px1 : ∀ w', Later w8.drew w' → w'.cell? ⟨w.heap.size, 1, none⟩ = some (.int .i64 x.dev) := fun w' hh => (cell3 (HX.out w' (hall w' hh)).1).2.1
            have py0 : ∀ w', Later w8.drew w' → w'.cell? ⟨b, off + k * 3, none⟩ = some (.string ⟨y.key.toArray⟩) := fun w' hh => (HY.out w' (hall w' hh)).1
            have py1 : ∀ w', Later w8.drew w' → w'.cell? ⟨b, off + k * 3 + 1, none⟩ = some (.int .i64 y.dev) := fun w' hh => (HY.out w' (hall w' hh)).2.1
            have hs0 : IntKind.i64.wrap (k : Int) = (k : Int) := IntWalk.i64_in _ (by omega)
            go_wp2_with fail
            refine wp_region_can Later [(0, true), (1, true), (2, true), (3, true), (4, true), (5, true), (6, true), (7, true), (8, true), (9, true), (10, true), (11, true), (12, true), (13, true), (14, true), (15, true), (16, true), (17, true)] (by kernel_rfl) (by kernel_rfl) later_refl later_trans ?_
            repeat (first
              | (refine can_yes (v := ?_) rfl (wanted_none rfl) (fun w' hC => ?_) (fun K hK => ?_); rotate_left; (focus (go_simp; (try simp (disch := omega) only [IntWalk.i64_in]); first | done | exact rfl)); go_simp; (try simp (disch := omega) only [IntWalk.i64_in]); refine hK _ ?_; clear hK K)
              | (refine can_guard rfl (fun A B hA hB => ?_); go_simp; first | (refine hA ⟨?_, fun w' hC => ?_, fun K hK => ?_⟩; rotate_left; (focus (go_simp; (try simp (disch := omega) only [IntWalk.i64_in]); first | done | exact rfl)); go_simp; (try simp (disch := omega) only [IntWalk.i64_in]); refine hK _ ?_; clear hK K hA hB A B) | (refine hB (fun K hK => ?_); go_simp; (try simp (disch := omega) only [IntWalk.i64_in]); refine hK _ ?_; clear hK K hA hB A B))
              | (refine can_guard_go rfl (fun A B hA hB => ?_); go_simp; refine hB (fun K hK => ?_); go_simp; (try simp (disch := omega) only [IntWalk.i64_in]); refine hK _ ?_; clear hK K hA hB A B))
            refine can_nil ?_
            clear px0 px1 py0 py1 hall
            obtain ⟨w9, hw9⟩ : ∃ w9, w9 = w8.drew := ⟨_, rfl⟩
            rw [← hw9]
            have HO9 := Lib.hid (show w9.ownsRow (w.heap.size + 1) 94 3 (.slice a5 np c5) np ((pre).flatMap encGo) by rw [hw9]; exact HO8.out)
            have HB9 := Lib.hid (show Below (w.heap.size + 1) wx w9 by rw [hw9]; exact HB8.out.drew)
            have HS9 := Lib.hid (show w.heap.size + 1 ≤ w9.heap.size by rw [hw9]; exact HS8.out)
            clear hw9
            have hY9 := HY.out w9 HB9.out
            obtain ⟨g0, g1, g2⟩ := hY9
            obtain ⟨i0, t1, t2, t3, t4⟩ := info_parts infoGoR
            obtain ⟨v5, w5, hr5, hown5, hg5⟩ := run_append_one (P := Tryz.prog) w9 (w.heap.size + 1) 24 94 Tryz.underlying24 t1 t2 t3 t4 rfl (by decide) (.slice a5 np c5) np _ HO9.out #[.string ⟨y.key.toArray⟩, .int .i64 y.dev, .int .i64 y.seq] rfl (by simp [Value.oneCell']) (by unfold maxLen; omega) (by omega) HS9.out
            obtain ⟨a6, c6, rfl⟩ := own_shape hown5
            have hb5 : Below (w.heap.size + 1) wx w5 := HB9.out.trans (((Below.refl (w.heap.size + 1) w9).alloc HS9.out _).trans (Below.grownOwn (own_below HO9.out (kept_alloc _ _)) hg5 (by have := HS9.out; simp; omega) (Nat.le_refl _)))
            have hs5 : w.heap.size + 1 ≤ w5.heap.size := by have := hb5.size; have := Hzx.out; omega
            have Hown5 := Lib.hid hown5; have Hb5 := Lib.hid hb5; have Hs5 := Lib.hid hs5
            clear hown5 hg5 hb5 t1 t2 t3 t4 hs5
            go_wp2_with fail
            go_roundw
            case rel => exact ⟨k + 1, true, pre ++ [y], by omega, by go_num, rfl, by rw [List.length_append, Hnp.out, flat_snoc]; exact Hown5.out, by have := Hst.out; rw [Hy.out] at this; rw [← Hput.out, this]; simp, ⟨by rw [List.length_append, Hnp.out]; simp; omega, fun h => by first | exact absurd h (by decide) | (rw [List.length_append, Hnp.out]; simp; omega)⟩, Hb5.out⟩
            case measure => simp [intOf]; omega
      | false =>
        have hpl3 := hpl2 rfl
        clear hpl2
        have HBF := Lib.hid (fun W => before_any W y.key x.key y.dev x.dev)
        have hall : ∀ w', Later wr.drew w' → Below (w.heap.size + 1) wx w' := fun w' hh => Hbw.out.drew.trans (RowKit.Below.mono hh Hsz.out)
        have px0 : ∀ w', Later wr.drew w' → w'.cell? ⟨w.heap.size, 0, none⟩ = some (.string ⟨x.key.toArray⟩) := fun w' hh => (cell3 (HX.out w' (hall w' hh)).1).1
        have px1 : ∀ w', Later wr.drew w' → w'.cell? ⟨w.heap.size, 1, none⟩ = some (.int .i64 x.dev) := fun w' hh => (cell3 (HX.out w' (hall w' hh)).1).2.1
        have py0 : ∀ w', Later wr.drew w' → w'.cell? ⟨b, off + k * 3, none⟩ = some (.string ⟨y.key.toArray⟩) := fun w' hh => (HY.out w' (hall w' hh)).1
        have py1 : ∀ w', Later wr.drew w' → w'.cell? ⟨b, off + k * 3 + 1, none⟩ = some (.int .i64 y.dev) := fun w' hh => (HY.out w' (hall w' hh)).2.1
        have hs0 : IntKind.i64.wrap (k : Int) = (k : Int) := IntWalk.i64_in _ (by omega)
        go_wp2_with fail
        refine wp_region_can Later [(0, true), (1, true), (2, true), (3, true), (4, true), (5, true), (6, true), (7, true), (8, true), (9, true), (10, true), (11, true), (12, true), (13, true), (14, true), (15, true), (16, true), (17, false), (18, true), (19, true)] (by kernel_rfl) (by kernel_rfl) later_refl later_trans ?_
        repeat (first
          | (refine can_yes (v := ?_) rfl (wanted_none rfl) (fun w' hC => ?_) (fun K hK => ?_); rotate_left; (focus (go_simp; (try simp (disch := omega) only [IntWalk.i64_in]); first | done | exact rfl)); go_simp; (try simp (disch := omega) only [IntWalk.i64_in]); refine hK _ ?_; clear hK K)
          | (refine can_guard rfl (fun A B hA hB => ?_); go_simp; first | (refine hA ⟨?_, fun w' hC => ?_, fun K hK => ?_⟩; rotate_left; (focus (go_simp; (try simp (disch := omega) only [IntWalk.i64_in]); first | done | exact rfl)); go_simp; (try simp (disch := omega) only [IntWalk.i64_in]); refine hK _ ?_; clear hK K hA hB A B) | (refine hB (fun K hK => ?_); go_simp; (try simp (disch := omega) only [IntWalk.i64_in]); refine hK _ ?_; clear hK K hA hB A B))
          | (refine can_guard_go rfl (fun A B hA hB => ?_); go_simp; refine hB (fun K hK => ?_); go_simp; (try simp (disch := omega) only [IntWalk.i64_in]); refine hK _ ?_; clear hK K hA hB A B))
        refine can_go rfl rfl (fun KK hK => ?_)
        go_simp
        refine (HBF.out _).mono ?_
        rintro e w8 ⟨rfl, hw8⟩
        refine ⟨_, rfl, by rw [hw8]; exact later_refl _, hK _ _ ?_⟩
        clear hK KK px0 px1 py0 py1 hall HBF
        go_simp
        have HO8 := Lib.hid (show w8.ownsRow (w.heap.size + 1) 94 3 (.slice a5 np c5) np (pre.flatMap encGo) by rw [← hw8]; exact HO.out)
        have HB8 := Lib.hid (show Below (w.heap.size + 1) wx w8 by rw [← hw8]; exact Hbw.out.drew)
        have HS8 := Lib.hid (show w.heap.size + 1 ≤ w8.heap.size by rw [← hw8]; exact Hsz.out)
        clear hw8 x0 x1 x2
        by_cases hlt : plt y.pl x.pl
        · have hd : decide (plt (y.key, y.dev) (x.key, x.dev)) = true := decide_eq_true hlt
          rw [hd]
          have he : y.pl ≠ x.pl := plt_ne hlt
          have Hst := Lib.hid (putRest_lt l x k hkl (by rw [Hy.out]; exact hlt))
          clear hd hlt
          repeat (first
            | (refine can_yes (v := ?_) rfl (wanted_none rfl) (fun w' hC => ?_) (fun K hK => ?_); rotate_left; (focus (go_simp; (try simp (disch := omega) only [IntWalk.i64_in]); first | done | exact rfl)); go_simp; (try simp (disch := omega) only [IntWalk.i64_in]); refine hK _ ?_; clear hK K)
            | (refine can_guard rfl (fun A B hA hB => ?_); go_simp; first | (refine hA ⟨?_, fun w' hC => ?_, fun K hK => ?_⟩; rotate_left; (focus (go_simp; (try simp (disch := omega) only [IntWalk.i64_in]); first | done | exact rfl)); go_simp; (try simp (disch := omega) only [IntWalk.i64_in]); refine hK _ ?_; clear hK K hA hB A B) | (refine hB (fun K hK => ?_); go_simp; (try simp (disch := omega) only [IntWalk.i64_in]); refine hK _ ?_; clear hK K hA hB A B))
            | (refine can_guard_go rfl (fun A B hA hB => ?_); go_simp; refine hB (fun K hK => ?_); go_simp; (try simp (disch := omega) only [IntWalk.i64_in]); refine hK _ ?_; clear hK K hA hB A B))
          refine can_nil ?_
          rcases HNE.out he with hky | ⟨hky, hdv⟩
          · have c1 : (y.key == x.key) = false := by simpa using hky
            clear he hky
            have hall : ∀ w', Later w8.drew w' → Below (w.heap.size + 1) wx w' := fun w' hh => HB8.out.drew.trans (RowKit.Below.mono hh HS8.out)
            have px0 : ∀ w', Later w8.drew w' → w'.cell? ⟨w.heap.size, 0, none⟩ = some (.string ⟨x.key.toArray⟩) := fun w' hh => (cell3 (HX.out w' (hall w' hh)).1).1
            have px1 : ∀ w', Later w8.drew w' → w'.cell? ⟨w.heap.size, 1, none⟩ = some (.int .i64 x.dev) := fun w' hh => (cell3 (HX.out w' (hall w' hh)).1).2.1
            have py0 : ∀ w', Later w8.drew w' → w'.cell? ⟨b, off + k * 3, none⟩ = some (.string ⟨y.key.toArray⟩) := fun w' hh => (HY.out w' (hall w' hh)).1
            have py1 : ∀ w', Later w8.drew w' → w'.cell? ⟨b, off + k * 3 + 1, none⟩ = some (.int .i64 y.dev) := fun w' hh => (HY.out w' (hall w' hh)).2.1
            have hs0 : IntKind.i64.wrap (k : Int) = (k : Int) := IntWalk.i64_in _ (by omega)
            go_wp2_with fail
            refine wp_region_can Later [(0, true), (1, true), (2, true), (3, true), (4, true), (5, true), (6, true), (7, true), (8, true), (9, true), (10, true), (11, true), (12, true), (13, true), (14, true), (15, true), (16, true), (17, true)] (by kernel_rfl) (by kernel_rfl) later_refl later_trans ?_
            repeat (first
              | (refine can_yes (v := ?_) rfl (wanted_none rfl) (fun w' hC => ?_) (fun K hK => ?_); rotate_left; (focus (go_simp; (try simp (disch := omega) only [IntWalk.i64_in]); first | done | exact rfl)); go_simp; (try simp (disch := omega) only [IntWalk.i64_in]); refine hK _ ?_; clear hK K)
              | (refine can_guard rfl (fun A B hA hB => ?_); go_simp; first | (refine hA ⟨?_, fun w' hC => ?_, fun K hK => ?_⟩; rotate_left; (focus (go_simp; (try simp (disch := omega) only [IntWalk.i64_in]); first | done | exact rfl)); go_simp; (try simp (disch := omega) only [IntWalk.i64_in]); refine hK _ ?_; clear hK K hA hB A B) | (refine hB (fun K hK => ?_); go_simp; (try simp (disch := omega) only [IntWalk.i64_in]); refine hK _ ?_; clear hK K hA hB A B))
              | (refine can_guard_go rfl (fun A B hA hB => ?_); go_simp; refine hB (fun K hK => ?_); go_simp; (try simp (disch := omega) only [IntWalk.i64_in]); refine hK _ ?_; clear hK K hA hB A B))
            refine can_nil ?_
            clear px0 px1 py0 py1 hall
            obtain ⟨w9, hw9⟩ : ∃ w9, w9 = w8.drew := ⟨_, rfl⟩
            rw [← hw9]
            have HO9 := Lib.hid (show w9.ownsRow (w.heap.size + 1) 94 3 (.slice a5 np c5) np ((pre).flatMap encGo) by rw [hw9]; exact HO8.out)
            have HB9 := Lib.hid (show Below (w.heap.size + 1) wx w9 by rw [hw9]; exact HB8.out.drew)
            have HS9 := Lib.hid (show w.heap.size + 1 ≤ w9.heap.size by rw [hw9]; exact HS8.out)
            clear hw9
            have hY9 := HY.out w9 HB9.out
            obtain ⟨g0, g1, g2⟩ := hY9
            obtain ⟨i0, t1, t2, t3, t4⟩ := info_parts infoGoR
            obtain ⟨v5, w5, hr5, hown5, hg5⟩ := run_append_one (P := Tryz.prog) w9 (w.heap.size + 1) 24 94 Tryz.underlying24 t1 t2 t3 t4 rfl (by decide) (.slice a5 np c5) np _ HO9.out #[.string ⟨y.key.toArray⟩, .int .i64 y.dev, .int .i64 y.seq] rfl (by simp [Value.oneCell']) (by unfold maxLen; omega) (by omega) HS9.out
            obtain ⟨a6, c6, rfl⟩ := own_shape hown5
            have hb5 : Below (w.heap.size + 1) wx w5 := HB9.out.trans (((Below.refl (w.heap.size + 1) w9).alloc HS9.out _).trans (Below.grownOwn (own_below HO9.out (kept_alloc _ _)) hg5 (by have := HS9.out; simp; omega) (Nat.le_refl _)))
            have hs5 : w.heap.size + 1 ≤ w5.heap.size := by have := hb5.size; have := Hzx.out; omega
            have Hown5 := Lib.hid hown5; have Hb5 := Lib.hid hb5; have Hs5 := Lib.hid hs5
            clear hown5 hg5 hb5 t1 t2 t3 t4 hs5
            go_wp2_with fail
            go_roundw
            case rel => exact ⟨k + 1, false, pre ++ [y], by omega, by go_num, rfl, by rw [List.length_append, Hnp.out, flat_snoc]; exact Hown5.out, by have := Hst.out; rw [Hy.out] at this; rw [← Hput.out, this]; simp, ⟨by rw [List.length_append, Hnp.out]; simp; omega, fun h => by first | exact absurd h (by decide) | (rw [List.length_append, Hnp.out]; simp; omega)⟩, Hb5.out⟩
            case measure => simp [intOf]; omega
          · have c1 : (y.key == x.key) = true := by simpa using hky
            have c2 : (y.dev == x.dev) = false := by simpa using hdv
            clear he hky hdv
            have hall : ∀ w', Later w8.drew w' → Below (w.heap.size + 1) wx w' := fun w' hh => HB8.out.drew.trans (RowKit.Below.mono hh HS8.out)
            have px0 : ∀ w', Later w8.drew w' → w'.cell? ⟨w.heap.size, 0, none⟩ = some (.string ⟨x.key.toArray⟩) := fun w' hh => (cell3 (HX.out w' (hall w' hh)).1).1
            have px1 : ∀ w', Later w8.drew w' → w'.cell? ⟨w.heap.size, 1, none⟩ = some (.int .i64 x.dev) := fun w' hh => (cell3 (HX.out w' (hall w' hh)).1).2.1
            have py0 : ∀ w', Later w8.drew w' → w'.cell? ⟨b, off + k * 3, none⟩ = some (.string ⟨y.key.toArray⟩) := fun w' hh => (HY.out w' (hall w' hh)).1
            have py1 : ∀ w', Later w8.drew w' → w'.cell? ⟨b, off + k * 3 + 1, none⟩ = some (.int .i64 y.dev) := fun w' hh => (HY.out w' (hall w' hh)).2.1
            have hs0 : IntKind.i64.wrap (k : Int) = (k : Int) := IntWalk.i64_in _ (by omega)
            go_wp2_with fail
            refine wp_region_can Later [(0, true), (1, true), (2, true), (3, true), (4, true), (5, true), (6, true), (7, true), (8, true), (9, true), (10, true), (11, true), (12, true), (13, true), (14, true), (15, true), (16, true), (17, true)] (by kernel_rfl) (by kernel_rfl) later_refl later_trans ?_
            repeat (first
              | (refine can_yes (v := ?_) rfl (wanted_none rfl) (fun w' hC => ?_) (fun K hK => ?_); rotate_left; (focus (go_simp; (try simp (disch := omega) only [IntWalk.i64_in]); first | done | exact rfl)); go_simp; (try simp (disch := omega) only [IntWalk.i64_in]); refine hK _ ?_; clear hK K)
              | (refine can_guard rfl (fun A B hA hB => ?_); go_simp; first | (refine hA ⟨?_, fun w' hC => ?_, fun K hK => ?_⟩; rotate_left; (focus (go_simp; (try simp (disch := omega) only [IntWalk.i64_in]); first | done | exact rfl)); go_simp; (try simp (disch := omega) only [IntWalk.i64_in]); refine hK _ ?_; clear hK K hA hB A B) | (refine hB (fun K hK => ?_); go_simp; (try simp (disch := omega) only [IntWalk.i64_in]); refine hK _ ?_; clear hK K hA hB A B))
              | (refine can_guard_go rfl (fun A B hA hB => ?_); go_simp; refine hB (fun K hK => ?_); go_simp; (try simp (disch := omega) only [IntWalk.i64_in]); refine hK _ ?_; clear hK K hA hB A B))
            refine can_nil ?_
            clear px0 px1 py0 py1 hall
            obtain ⟨w9, hw9⟩ : ∃ w9, w9 = w8.drew := ⟨_, rfl⟩
            rw [← hw9]
            have HO9 := Lib.hid (show w9.ownsRow (w.heap.size + 1) 94 3 (.slice a5 np c5) np ((pre).flatMap encGo) by rw [hw9]; exact HO8.out)
            have HB9 := Lib.hid (show Below (w.heap.size + 1) wx w9 by rw [hw9]; exact HB8.out.drew)
            have HS9 := Lib.hid (show w.heap.size + 1 ≤ w9.heap.size by rw [hw9]; exact HS8.out)
            clear hw9
            have hY9 := HY.out w9 HB9.out
            obtain ⟨g0, g1, g2⟩ := hY9
            obtain ⟨i0, t1, t2, t3, t4⟩ := info_parts infoGoR
            obtain ⟨v5, w5, hr5, hown5, hg5⟩ := run_append_one (P := Tryz.prog) w9 (w.heap.size + 1) 24 94 Tryz.underlying24 t1 t2 t3 t4 rfl (by decide) (.slice a5 np c5) np _ HO9.out #[.string ⟨y.key.toArray⟩, .int .i64 y.dev, .int .i64 y.seq] rfl (by simp [Value.oneCell']) (by unfold maxLen; omega) (by omega) HS9.out
            obtain ⟨a6, c6, rfl⟩ := own_shape hown5
            have hb5 : Below (w.heap.size + 1) wx w5 := HB9.out.trans (((Below.refl (w.heap.size + 1) w9).alloc HS9.out _).trans (Below.grownOwn (own_below HO9.out (kept_alloc _ _)) hg5 (by have := HS9.out; simp; omega) (Nat.le_refl _)))
            have hs5 : w.heap.size + 1 ≤ w5.heap.size := by have := hb5.size; have := Hzx.out; omega
            have Hown5 := Lib.hid hown5; have Hb5 := Lib.hid hb5; have Hs5 := Lib.hid hs5
            clear hown5 hg5 hb5 t1 t2 t3 t4 hs5
            go_wp2_with fail
            go_roundw
            case rel => exact ⟨k + 1, false, pre ++ [y], by omega, by go_num, rfl, by rw [List.length_append, Hnp.out, flat_snoc]; exact Hown5.out, by have := Hst.out; rw [Hy.out] at this; rw [← Hput.out, this]; simp, ⟨by rw [List.length_append, Hnp.out]; simp; omega, fun h => by first | exact absurd h (by decide) | (rw [List.length_append, Hnp.out]; simp; omega)⟩, Hb5.out⟩
            case measure => simp [intOf]; omega
        · have hd : decide (plt (y.key, y.dev) (x.key, x.dev)) = false := decide_eq_false hlt
          rw [hd]
          have Hnow := Lib.hid (putRest_now l x k hkl (by rw [Hy.out]; exact hlt))
          clear hd hlt
          repeat (first
            | (refine can_yes (v := ?_) rfl (wanted_none rfl) (fun w' hC => ?_) (fun K hK => ?_); rotate_left; (focus (go_simp; (try simp (disch := omega) only [IntWalk.i64_in]); first | done | exact rfl)); go_simp; (try simp (disch := omega) only [IntWalk.i64_in]); refine hK _ ?_; clear hK K)
            | (refine can_guard rfl (fun A B hA hB => ?_); go_simp; first | (refine hA ⟨?_, fun w' hC => ?_, fun K hK => ?_⟩; rotate_left; (focus (go_simp; (try simp (disch := omega) only [IntWalk.i64_in]); first | done | exact rfl)); go_simp; (try simp (disch := omega) only [IntWalk.i64_in]); refine hK _ ?_; clear hK K hA hB A B) | (refine hB (fun K hK => ?_); go_simp; (try simp (disch := omega) only [IntWalk.i64_in]); refine hK _ ?_; clear hK K hA hB A B))
            | (refine can_guard_go rfl (fun A B hA hB => ?_); go_simp; refine hB (fun K hK => ?_); go_simp; (try simp (disch := omega) only [IntWalk.i64_in]); refine hK _ ?_; clear hK K hA hB A B))
          refine can_nil ?_
          obtain ⟨x0, x1, x2⟩ := cell3 (HX.out w8 HB8.out).1
          obtain ⟨i0, t1, t2, t3, t4⟩ := info_parts infoGoR
          obtain ⟨v5, w5, hr5, hown5, hg5⟩ := run_append_one (P := Tryz.prog) w8 (w.heap.size + 1) 24 94 Tryz.underlying24 t1 t2 t3 t4 rfl (by decide) (.slice a5 np c5) np _ HO8.out #[.string ⟨x.key.toArray⟩, .int .i64 x.dev, .int .i64 x.seq] rfl (by simp [Value.oneCell']) (by unfold maxLen; omega) (by omega) HS8.out
          obtain ⟨a6, c6, rfl⟩ := own_shape hown5
          have hb5 : Below (w.heap.size + 1) wx w5 := HB8.out.trans (((Below.refl (w.heap.size + 1) w8).alloc HS8.out _).trans (Below.grownOwn (own_below HO8.out (kept_alloc _ _)) hg5 (by have := HS8.out; simp; omega) (Nat.le_refl _)))
          have hs5 : w.heap.size + 1 ≤ w5.heap.size := by have := hb5.size; have := Hzx.out; omega
          have Hown5 := Lib.hid hown5; have Hb5 := Lib.hid hb5; have Hs5 := Lib.hid hs5
          clear hown5 hg5 hb5 t1 t2 t3 t4 hs5
          have Hput1 := Lib.hid (show (pre ++ [x]) ++ putRest RGo.pl l x k true = putL RGo.pl l x by rw [← Hput.out, Hnow.out]; simp)
          have Hnp1 := Lib.hid (show (pre ++ [x]).length = np + 1 by rw [List.length_append, Hnp.out]; rfl)
          have HO5 := Lib.hid (show w5.ownsRow (w.heap.size + 1) 94 3 (.slice a6 (np + 1) c6) (np + 1) ((pre ++ [x]).flatMap encGo) by rw [flat_snoc]; exact Hown5.out)
          clear Hown5 HO8
          by_cases he : y.pl = x.pl
          · go_wp2_with fail
            clear hr5 x0 x1 x2
            obtain ⟨e1, e2⟩ := Prod.mk.inj he
            have c1 : (y.key == x.key) = true := by simp [show y.key = x.key from e1]
            have c2 : (y.dev == x.dev) = true := by simp [show y.dev = x.dev from e2]
            have Hst := Lib.hid (putRest_eq l x k hkl (by rw [Hy.out]; exact he))
            clear he e1 e2
            have hall : ∀ w', Later w5.drew w' → Below (w.heap.size + 1) wx w' := fun w' hh => Hb5.out.drew.trans (RowKit.Below.mono hh Hs5.out)
            have px0 : ∀ w', Later w5.drew w' → w'.cell? ⟨w.heap.size, 0, none⟩ = some (.string ⟨x.key.toArray⟩) := fun w' hh => (cell3 (HX.out w' (hall w' hh)).1).1
            have px1 : ∀ w', Later w5.drew w' → w'.cell? ⟨w.heap.size, 1, none⟩ = some (.int .i64 x.dev) := fun w' hh => (cell3 (HX.out w' (hall w' hh)).1).2.1
            have py0 : ∀ w', Later w5.drew w' → w'.cell? ⟨b, off + k * 3, none⟩ = some (.string ⟨y.key.toArray⟩) := fun w' hh => (HY.out w' (hall w' hh)).1
            have py1 : ∀ w', Later w5.drew w' → w'.cell? ⟨b, off + k * 3 + 1, none⟩ = some (.int .i64 y.dev) := fun w' hh => (HY.out w' (hall w' hh)).2.1
            have hs0 : IntKind.i64.wrap (k : Int) = (k : Int) := IntWalk.i64_in _ (by omega)
            go_wp2_with fail
            refine wp_region_can Later [(0, true), (1, true), (2, true), (3, true), (4, true), (5, true), (6, true), (7, true), (8, true), (9, true), (10, true), (11, true), (12, true), (13, true), (14, true), (15, true), (16, true), (17, true)] (by kernel_rfl) (by kernel_rfl) later_refl later_trans ?_
            repeat (first
              | (refine can_yes (v := ?_) rfl (wanted_none rfl) (fun w' hC => ?_) (fun K hK => ?_); rotate_left; (focus (go_simp; (try simp (disch := omega) only [IntWalk.i64_in]); first | done | exact rfl)); go_simp; (try simp (disch := omega) only [IntWalk.i64_in]); refine hK _ ?_; clear hK K)
              | (refine can_guard rfl (fun A B hA hB => ?_); go_simp; first | (refine hA ⟨?_, fun w' hC => ?_, fun K hK => ?_⟩; rotate_left; (focus (go_simp; (try simp (disch := omega) only [IntWalk.i64_in]); first | done | exact rfl)); go_simp; (try simp (disch := omega) only [IntWalk.i64_in]); refine hK _ ?_; clear hK K hA hB A B) | (refine hB (fun K hK => ?_); go_simp; (try simp (disch := omega) only [IntWalk.i64_in]); refine hK _ ?_; clear hK K hA hB A B))
              | (refine can_guard_go rfl (fun A B hA hB => ?_); go_simp; refine hB (fun K hK => ?_); go_simp; (try simp (disch := omega) only [IntWalk.i64_in]); refine hK _ ?_; clear hK K hA hB A B))
            refine can_nil ?_
            clear px0 px1 py0 py1 hall
            obtain ⟨w9, hw9⟩ : ∃ w9, w9 = w5.drew := ⟨_, rfl⟩
            rw [← hw9]
            have HO9 := Lib.hid (show w9.ownsRow (w.heap.size + 1) 94 3 (.slice a6 (np + 1) c6) (np + 1) (((pre ++ [x])).flatMap encGo) by rw [hw9]; exact HO5.out)
            have HB9 := Lib.hid (show Below (w.heap.size + 1) wx w9 by rw [hw9]; exact Hb5.out.drew)
            have HS9 := Lib.hid (show w.heap.size + 1 ≤ w9.heap.size by rw [hw9]; exact Hs5.out)
            clear hw9
            go_wp2_with fail
            go_roundw
            case rel => exact ⟨k + 1, true, (pre ++ [x]), by omega, by go_num, rfl, by rw [Hnp1.out]; exact HO9.out, by rw [← Hst.out]; exact Hput1.out, ⟨by rw [Hnp1.out]; omega, nofun⟩, HB9.out⟩
            case measure => simp [intOf]; omega
          · have Hst := Lib.hid (putRest_ne l x k hkl (by rw [Hy.out]; exact he))
            go_wp2_with fail
            clear hr5 x0 x1 x2
            rcases HNE.out he with hky | ⟨hky, hdv⟩
            · have c1 : (y.key == x.key) = false := by simpa using hky
              clear he hky
              have hall : ∀ w', Later w5.drew w' → Below (w.heap.size + 1) wx w' := fun w' hh => Hb5.out.drew.trans (RowKit.Below.mono hh Hs5.out)
              have px0 : ∀ w', Later w5.drew w' → w'.cell? ⟨w.heap.size, 0, none⟩ = some (.string ⟨x.key.toArray⟩) := fun w' hh => (cell3 (HX.out w' (hall w' hh)).1).1
              have px1 : ∀ w', Later w5.drew w' → w'.cell? ⟨w.heap.size, 1, none⟩ = some (.int .i64 x.dev) := fun w' hh => (cell3 (HX.out w' (hall w' hh)).1).2.1
              have py0 : ∀ w', Later w5.drew w' → w'.cell? ⟨b, off + k * 3, none⟩ = some (.string ⟨y.key.toArray⟩) := fun w' hh => (HY.out w' (hall w' hh)).1
              have py1 : ∀ w', Later w5.drew w' → w'.cell? ⟨b, off + k * 3 + 1, none⟩ = some (.int .i64 y.dev) := fun w' hh => (HY.out w' (hall w' hh)).2.1
              have hs0 : IntKind.i64.wrap (k : Int) = (k : Int) := IntWalk.i64_in _ (by omega)
              go_wp2_with fail
              refine wp_region_can Later [(0, true), (1, true), (2, true), (3, true), (4, true), (5, true), (6, true), (7, true), (8, true), (9, true), (10, true), (11, true), (12, true), (13, true), (14, true), (15, true), (16, true), (17, true)] (by kernel_rfl) (by kernel_rfl) later_refl later_trans ?_
              repeat (first
                | (refine can_yes (v := ?_) rfl (wanted_none rfl) (fun w' hC => ?_) (fun K hK => ?_); rotate_left; (focus (go_simp; (try simp (disch := omega) only [IntWalk.i64_in]); first | done | exact rfl)); go_simp; (try simp (disch := omega) only [IntWalk.i64_in]); refine hK _ ?_; clear hK K)
                | (refine can_guard rfl (fun A B hA hB => ?_); go_simp; first | (refine hA ⟨?_, fun w' hC => ?_, fun K hK => ?_⟩; rotate_left; (focus (go_simp; (try simp (disch := omega) only [IntWalk.i64_in]); first | done | exact rfl)); go_simp; (try simp (disch := omega) only [IntWalk.i64_in]); refine hK _ ?_; clear hK K hA hB A B) | (refine hB (fun K hK => ?_); go_simp; (try simp (disch := omega) only [IntWalk.i64_in]); refine hK _ ?_; clear hK K hA hB A B))
                | (refine can_guard_go rfl (fun A B hA hB => ?_); go_simp; refine hB (fun K hK => ?_); go_simp; (try simp (disch := omega) only [IntWalk.i64_in]); refine hK _ ?_; clear hK K hA hB A B))
              refine can_nil ?_
              clear px0 px1 py0 py1 hall
              obtain ⟨w9, hw9⟩ : ∃ w9, w9 = w5.drew := ⟨_, rfl⟩
              rw [← hw9]
              have HO9 := Lib.hid (show w9.ownsRow (w.heap.size + 1) 94 3 (.slice a6 (np + 1) c6) (np + 1) (((pre ++ [x])).flatMap encGo) by rw [hw9]; exact HO5.out)
              have HB9 := Lib.hid (show Below (w.heap.size + 1) wx w9 by rw [hw9]; exact Hb5.out.drew)
              have HS9 := Lib.hid (show w.heap.size + 1 ≤ w9.heap.size by rw [hw9]; exact Hs5.out)
              clear hw9
              have hY9 := HY.out w9 HB9.out
              obtain ⟨g0, g1, g2⟩ := hY9
              obtain ⟨i0, t1, t2, t3, t4⟩ := info_parts infoGoR
              obtain ⟨v5, w5, hr5, hown5, hg5⟩ := run_append_one (P := Tryz.prog) w9 (w.heap.size + 1) 24 94 Tryz.underlying24 t1 t2 t3 t4 rfl (by decide) (.slice a6 (np + 1) c6) (np + 1) _ HO9.out #[.string ⟨y.key.toArray⟩, .int .i64 y.dev, .int .i64 y.seq] rfl (by simp [Value.oneCell']) (by unfold maxLen; omega) (by omega) HS9.out
              obtain ⟨a6, c6, rfl⟩ := own_shape hown5
              have hb5 : Below (w.heap.size + 1) wx w5 := HB9.out.trans (((Below.refl (w.heap.size + 1) w9).alloc HS9.out _).trans (Below.grownOwn (own_below HO9.out (kept_alloc _ _)) hg5 (by have := HS9.out; simp; omega) (Nat.le_refl _)))
              have hs5 : w.heap.size + 1 ≤ w5.heap.size := by have := hb5.size; have := Hzx.out; omega
              have Hown5 := Lib.hid hown5; have Hb5 := Lib.hid hb5; have Hs5 := Lib.hid hs5
              clear hown5 hg5 hb5 t1 t2 t3 t4 hs5
              go_wp2_with fail
              go_roundw
              case rel => exact ⟨k + 1, true, (pre ++ [x]) ++ [y], by omega, by go_num, rfl, by rw [List.length_append, Hnp1.out, flat_snoc]; exact Hown5.out, by have := Hst.out; rw [Hy.out] at this; rw [← Hput1.out, this]; simp, ⟨by rw [List.length_append, Hnp1.out]; simp; omega, fun h => by first | exact absurd h (by decide) | (rw [List.length_append, Hnp1.out]; simp; omega)⟩, Hb5.out⟩
              case measure => simp [intOf]; omega
            · have c1 : (y.key == x.key) = true := by simpa using hky
              have c2 : (y.dev == x.dev) = false := by simpa using hdv
              clear he hky hdv
              have hall : ∀ w', Later w5.drew w' → Below (w.heap.size + 1) wx w' := fun w' hh => Hb5.out.drew.trans (RowKit.Below.mono hh Hs5.out)
              have px0 : ∀ w', Later w5.drew w' → w'.cell? ⟨w.heap.size, 0, none⟩ = some (.string ⟨x.key.toArray⟩) := fun w' hh => (cell3 (HX.out w' (hall w' hh)).1).1
              have px1 : ∀ w', Later w5.drew w' → w'.cell? ⟨w.heap.size, 1, none⟩ = some (.int .i64 x.dev) := fun w' hh => (cell3 (HX.out w' (hall w' hh)).1).2.1
              have py0 : ∀ w', Later w5.drew w' → w'.cell? ⟨b, off + k * 3, none⟩ = some (.string ⟨y.key.toArray⟩) := fun w' hh => (HY.out w' (hall w' hh)).1
              have py1 : ∀ w', Later w5.drew w' → w'.cell? ⟨b, off + k * 3 + 1, none⟩ = some (.int .i64 y.dev) := fun w' hh => (HY.out w' (hall w' hh)).2.1
              have hs0 : IntKind.i64.wrap (k : Int) = (k : Int) := IntWalk.i64_in _ (by omega)
              go_wp2_with fail
              refine wp_region_can Later [(0, true), (1, true), (2, true), (3, true), (4, true), (5, true), (6, true), (7, true), (8, true), (9, true), (10, true), (11, true), (12, true), (13, true), (14, true), (15, true), (16, true), (17, true)] (by kernel_rfl) (by kernel_rfl) later_refl later_trans ?_
              repeat (first
                | (refine can_yes (v := ?_) rfl (wanted_none rfl) (fun w' hC => ?_) (fun K hK => ?_); rotate_left; (focus (go_simp; (try simp (disch := omega) only [IntWalk.i64_in]); first | done | exact rfl)); go_simp; (try simp (disch := omega) only [IntWalk.i64_in]); refine hK _ ?_; clear hK K)
                | (refine can_guard rfl (fun A B hA hB => ?_); go_simp; first | (refine hA ⟨?_, fun w' hC => ?_, fun K hK => ?_⟩; rotate_left; (focus (go_simp; (try simp (disch := omega) only [IntWalk.i64_in]); first | done | exact rfl)); go_simp; (try simp (disch := omega) only [IntWalk.i64_in]); refine hK _ ?_; clear hK K hA hB A B) | (refine hB (fun K hK => ?_); go_simp; (try simp (disch := omega) only [IntWalk.i64_in]); refine hK _ ?_; clear hK K hA hB A B))
                | (refine can_guard_go rfl (fun A B hA hB => ?_); go_simp; refine hB (fun K hK => ?_); go_simp; (try simp (disch := omega) only [IntWalk.i64_in]); refine hK _ ?_; clear hK K hA hB A B))
              refine can_nil ?_
              clear px0 px1 py0 py1 hall
              obtain ⟨w9, hw9⟩ : ∃ w9, w9 = w5.drew := ⟨_, rfl⟩
              rw [← hw9]
              have HO9 := Lib.hid (show w9.ownsRow (w.heap.size + 1) 94 3 (.slice a6 (np + 1) c6) (np + 1) (((pre ++ [x])).flatMap encGo) by rw [hw9]; exact HO5.out)
              have HB9 := Lib.hid (show Below (w.heap.size + 1) wx w9 by rw [hw9]; exact Hb5.out.drew)
              have HS9 := Lib.hid (show w.heap.size + 1 ≤ w9.heap.size by rw [hw9]; exact Hs5.out)
              clear hw9
              have hY9 := HY.out w9 HB9.out
              obtain ⟨g0, g1, g2⟩ := hY9
              obtain ⟨i0, t1, t2, t3, t4⟩ := info_parts infoGoR
              obtain ⟨v5, w5, hr5, hown5, hg5⟩ := run_append_one (P := Tryz.prog) w9 (w.heap.size + 1) 24 94 Tryz.underlying24 t1 t2 t3 t4 rfl (by decide) (.slice a6 (np + 1) c6) (np + 1) _ HO9.out #[.string ⟨y.key.toArray⟩, .int .i64 y.dev, .int .i64 y.seq] rfl (by simp [Value.oneCell']) (by unfold maxLen; omega) (by omega) HS9.out
              obtain ⟨a6, c6, rfl⟩ := own_shape hown5
              have hb5 : Below (w.heap.size + 1) wx w5 := HB9.out.trans (((Below.refl (w.heap.size + 1) w9).alloc HS9.out _).trans (Below.grownOwn (own_below HO9.out (kept_alloc _ _)) hg5 (by have := HS9.out; simp; omega) (Nat.le_refl _)))
              have hs5 : w.heap.size + 1 ≤ w5.heap.size := by have := hb5.size; have := Hzx.out; omega
              have Hown5 := Lib.hid hown5; have Hb5 := Lib.hid hb5; have Hs5 := Lib.hid hs5
              clear hown5 hg5 hb5 t1 t2 t3 t4 hs5
              go_wp2_with fail
              go_roundw
              case rel => exact ⟨k + 1, true, (pre ++ [x]) ++ [y], by omega, by go_num, rfl, by rw [List.length_append, Hnp1.out, flat_snoc]; exact Hown5.out, by have := Hst.out; rw [Hy.out] at this; rw [← Hput1.out, this]; simp, ⟨by rw [List.length_append, Hnp1.out]; simp; omega, fun h => by first | exact absurd h (by decide) | (rw [List.length_append, Hnp1.out]; simp; omega)⟩, Hb5.out⟩
              case measure => simp [intOf]; omega
    · have hkI : ¬ (k : Int) < (n : Int) := by omega
      have hke : k = l.length := by rw [Hn.out]; omega
      have HO := Lib.hid hown
      cases done with
      | true =>
        have hfin : pre = putL RGo.pl l x := by have := Hput.out; rw [hke, putRest_end_done] at this; simpa using this
        have Hfin := Lib.hid (show wr.ownsRow w.heap.size 94 3 (.slice a5 np c5) (putL RGo.pl l x).length ((putL RGo.pl l x).flatMap encGo) by rw [← hfin, Hnp.out]; exact own_base HO.out (Nat.le_succ _))
        clear hke hfin
        go_wp2_with fail
        go_ret
        exact ⟨⟨_, rfl, Hfin.out⟩, Hbx.out.trans (Hbw.out.mono (Nat.le_succ _))⟩
      | false =>
        have hfin : pre ++ [x] = putL RGo.pl l x := by have := Hput.out; rw [hke, putRest_end] at this; exact this
        obtain ⟨i0, t1, t2, t3, t4⟩ := info_parts infoGoR
        obtain ⟨v5, w5, hr5, hown5, hg5⟩ := run_append_one (P := Tryz.prog) wr (w.heap.size + 1) 24 94 Tryz.underlying24 t1 t2 t3 t4 rfl (by decide) (.slice a5 np c5) np _ HO.out #[.string ⟨x.key.toArray⟩, .int .i64 x.dev, .int .i64 x.seq] rfl (by simp [Value.oneCell']) (by unfold maxLen; omega) (by omega) Hsz.out
        obtain ⟨a6, c6, rfl⟩ := own_shape hown5
        have hb5 : Below (w.heap.size + 1) wx w5 := Hbw.out.trans (((Below.refl (w.heap.size + 1) wr).alloc Hsz.out _).trans (Below.grownOwn (own_below HO.out (kept_alloc _ _)) hg5 (by have := Hsz.out; simp; omega) (Nat.le_refl _)))
        have hs5 : w.heap.size + 1 ≤ w5.heap.size := by have := hb5.size; have := Hzx.out; omega
        have Hown5 := Lib.hid hown5; have Hb5 := Lib.hid hb5; have Hs5 := Lib.hid hs5
        clear hown5 hg5 hb5 t1 t2 t3 t4 hs5
        have Hfin := Lib.hid (show w5.ownsRow w.heap.size 94 3 (.slice a6 (np + 1) c6) (putL RGo.pl l x).length ((putL RGo.pl l x).flatMap encGo) by
          rw [← hfin, List.length_append, Hnp.out, flat_snoc]
          exact own_base Hown5.out (Nat.le_succ _))
        clear hke hfin
        go_wp2_with fail
        go_ret
        exact ⟨⟨_, rfl, Hfin.out⟩, Hbx.out.trans (Hb5.out.mono (Nat.le_succ _))⟩
end Go.Proofs.YtkkacnfpdafadaaGreatDoor
