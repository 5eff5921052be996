/- ascending. -/
import Derived.Test.YtbjkkmabafaogaaGreatDoorRKnown
namespace Go.Proofs.YtbjkkmabafaogaaGreatDoor
open Go.RowKit
set_option linter.unusedVariables false
set_option maxRecDepth 20000
attribute [local go_sem] opC upC

def AscRel {α : Type} (pl : α → RPl) (l : List α) (w : World) (i : Value) (wr : World) : Prop :=
  ∃ k : Nat, k ≤ l.length ∧ i = .int .i64 ((k : Int) + 1) ∧ (∀ j (h : j + 1 < l.length), j < k → plt (pl l[j]) (pl l[j + 1])) ∧ Below w.heap.size w wr
set_option maxRecDepth 100000 in
set_option maxHeartbeats 1500000 in
theorem ascI_any (w : World) (F : Blks) (v : Value) (l : List RIt) (h : Rows F w 4 v l.length (l.flatMap encIt)) (hl : l.length ≤ 1000000) :
    Calls Tryz.prog 44 #[v, .func (.func 45) #[] #[]] w fun e w' => e = .returned (.bool (decide (Asc RIt.pl l))) ∧ Below w.heap.size w w' := by
  obtain ⟨ok, hok⟩ : ∃ ok, decide (Asc RIt.pl l) = ok := ⟨_, rfl⟩
  rw [hok]
  have Hok := Lib.hid hok
  have Hh := Lib.hid h
  obtain ⟨a, cap, rfl, -⟩ := h.shape
  obtain ⟨n, hn⟩ : ∃ n, l.length = n := ⟨_, rfl⟩
  have Hn := Lib.hid hn
  rw [hn] at hl ⊢
  have Hs := Lib.hid (show AscRel RIt.pl l w (.int .i64 1) w from ⟨0, by omega, rfl, fun j hj hk => by omega, Below.refl _ _⟩)
  clear hok h hn
  go_enter Tryz.func44, Tryz.ntmps44
  go_wp2_with fail
  go_loopw [5] (fun i wr => AscRel RIt.pl l w i wr) (fun i _ => n + 1 - (intOf i).toNat)
  case atStart => exact Hs.out
  case round =>
    obtain ⟨k, hk, rfl, hall, hbw⟩ := hrel
    have Hall := Lib.hid hall; have Hbw := Lib.hid hbw
    clear hall hbw Hs
    by_cases hkn : k + 1 < n
    · have hkI : (k : Int) + 1 < (n : Int) := by omega
      have hm := Hh.out.keep (w' := wr) fun b _ hlt => Hbw.out.block b hlt
      obtain ⟨b, off, rfl, -, -, hc⟩ := it_cell hm (by rw [Hn.out]; omega)
      have hk0 : k < l.length := by rw [Hn.out]; omega
      have hk1 : k + 1 < l.length := by rw [Hn.out]; omega
      obtain ⟨x0, x1, x2, x3⟩ := hc k hk0
      obtain ⟨y0, y1, y2, y3⟩ := hc (k + 1) hk1
      obtain ⟨x, hx⟩ : ∃ x, l[k] = x := ⟨_, rfl⟩
      obtain ⟨y, hy⟩ : ∃ y, l[k + 1] = y := ⟨_, rfl⟩
      rw [hx] at x0 x1 x2 x3
      rw [hy] at y0 y1 y2 y3
      have p0 : ∀ w', Later wr.drew w' → w'.cell? _ = _ := fun w' hh => laterC x0 hh
      have p1 : ∀ w', Later wr.drew w' → w'.cell? _ = _ := fun w' hh => laterC x1 hh
      have p2 : ∀ w', Later wr.drew w' → w'.cell? _ = _ := fun w' hh => laterC x2 hh
      have p3 : ∀ w', Later wr.drew w' → w'.cell? _ = _ := fun w' hh => laterC x3 hh
      have q0 : ∀ w', Later wr.drew w' → w'.cell? _ = _ := fun w' hh => laterC y0 hh
      have q1 : ∀ w', Later wr.drew w' → w'.cell? _ = _ := fun w' hh => laterC y1 hh
      have q2 : ∀ w', Later wr.drew w' → w'.cell? _ = _ := fun w' hh => laterC y2 hh
      have q3 : ∀ w', Later wr.drew w' → w'.cell? _ = _ := fun w' hh => laterC y3 hh
      have Hx := Lib.hid hx; have Hy := Lib.hid hy
      have HPX := Lib.hid (show Calls Tryz.prog 45 #[.agg #[.string ⟨x.key.toArray⟩, .int .i64 x.dev, .int .i64 x.seq, .int .i64 x.val]] wr.drew _ from itPlace_any wr.drew x)
      have hs1 : IntKind.i64.wrap ((k : Int) + 1 - 1) = (k : Int) := by rw [IntWalk.i64_in _ (by omega)]; omega
      have hs0 : IntKind.i64.wrap (k : Int) = (k : Int) := IntWalk.i64_in _ (by omega)
      have hs2 : ((k : Int) + 1).toNat = k + 1 := by omega
      have hkI2 : (k : Int) < (n : Int) := by omega
      clear hc hm x0 x1 x2 x3 y0 y1 y2 y3 hx hy
      go_wp2_with fail
      refine wp_region_can Later [(0, true), (1, true), (2, true), (3, true), (4, true), (5, true), (7, true), (8, true), (9, true), (10, true), (11, true), (6, false), (12, false), (13, false), (14, true)] (by kernel_rfl) (by kernel_rfl) later_refl later_trans ?_
      repeat (first
        | (refine can_yes (v := ?_) rfl (wanted_none rfl) (fun w' hC => ?_) (fun K hK => ?_); rotate_left; (focus (go_simp; (try simp (disch := omega) only [IntWalk.i64_in]); (try simp (disch := omega) only [IntWalk.u32_in]); (try simp (disch := omega) only [IntWalk.u8_in]); (try simp (disch := omega) only [IntWalk.i64_quo]); (try simp (disch := omega) only [IntWalk.rem_in]); first | done | exact rfl)); go_simp; (try simp (disch := omega) only [IntWalk.i64_in]); (try simp (disch := omega) only [IntWalk.u32_in]); (try simp (disch := omega) only [IntWalk.u8_in]); (try simp (disch := omega) only [IntWalk.i64_quo]); (try simp (disch := omega) only [IntWalk.rem_in]); refine hK _ ?_; clear hK K)
        | (refine can_guard rfl (fun A B hA hB => ?_); go_simp; first | (refine hA ⟨?_, fun w' hC => ?_, fun K hK => ?_⟩; rotate_left; (focus (go_simp; (try simp (disch := omega) only [IntWalk.i64_in]); (try simp (disch := omega) only [IntWalk.u32_in]); (try simp (disch := omega) only [IntWalk.u8_in]); (try simp (disch := omega) only [IntWalk.i64_quo]); (try simp (disch := omega) only [IntWalk.rem_in]); first | done | exact rfl)); go_simp; (try simp (disch := omega) only [IntWalk.i64_in]); (try simp (disch := omega) only [IntWalk.u32_in]); (try simp (disch := omega) only [IntWalk.u8_in]); (try simp (disch := omega) only [IntWalk.i64_quo]); (try simp (disch := omega) only [IntWalk.rem_in]); refine hK _ ?_; clear hK K hA hB A B) | (refine hB (fun K hK => ?_); go_simp; (try simp (disch := omega) only [IntWalk.i64_in]); (try simp (disch := omega) only [IntWalk.u32_in]); (try simp (disch := omega) only [IntWalk.u8_in]); (try simp (disch := omega) only [IntWalk.i64_quo]); (try simp (disch := omega) only [IntWalk.rem_in]); refine hK _ ?_; clear hK K hA hB A B))
        | (refine can_guard_go rfl (fun A B hA hB => ?_); go_simp; refine hB (fun K hK => ?_); go_simp; (try simp (disch := omega) only [IntWalk.i64_in]); (try simp (disch := omega) only [IntWalk.u32_in]); (try simp (disch := omega) only [IntWalk.u8_in]); (try simp (disch := omega) only [IntWalk.i64_quo]); (try simp (disch := omega) only [IntWalk.rem_in]); refine hK _ ?_; clear hK K hA hB A B))
      refine can_go rfl rfl (fun KK hK => ?_)
      go_simp
      refine HPX.out.mono ?_
      rintro e w1 ⟨rfl, hb1⟩
      refine ⟨_, rfl, hb1, hK _ _ ?_⟩
      clear hK KK HPX p0 p1 p2 p3
      go_simp
      have HPY := Lib.hid (show Calls Tryz.prog 45 #[.agg #[.string ⟨y.key.toArray⟩, .int .i64 y.dev, .int .i64 y.seq, .int .i64 y.val]] w1 _ from itPlace_any w1 y)
      have Hb1 := Lib.hid (show Below wr.heap.size wr w1 from (Below.refl _ _).drew.trans hb1)
      clear hb1
      repeat (first
        | (refine can_yes (v := ?_) rfl (wanted_none rfl) (fun w' hC => ?_) (fun K hK => ?_); rotate_left; (focus (go_simp; (try simp (disch := omega) only [IntWalk.i64_in]); (try simp (disch := omega) only [IntWalk.u32_in]); (try simp (disch := omega) only [IntWalk.u8_in]); (try simp (disch := omega) only [IntWalk.i64_quo]); (try simp (disch := omega) only [IntWalk.rem_in]); first | done | exact rfl)); go_simp; (try simp (disch := omega) only [IntWalk.i64_in]); (try simp (disch := omega) only [IntWalk.u32_in]); (try simp (disch := omega) only [IntWalk.u8_in]); (try simp (disch := omega) only [IntWalk.i64_quo]); (try simp (disch := omega) only [IntWalk.rem_in]); refine hK _ ?_; clear hK K)
        | (refine can_guard rfl (fun A B hA hB => ?_); go_simp; first | (refine hA ⟨?_, fun w' hC => ?_, fun K hK => ?_⟩; rotate_left; (focus (go_simp; (try simp (disch := omega) only [IntWalk.i64_in]); (try simp (disch := omega) only [IntWalk.u32_in]); (try simp (disch := omega) only [IntWalk.u8_in]); (try simp (disch := omega) only [IntWalk.i64_quo]); (try simp (disch := omega) only [IntWalk.rem_in]); first | done | exact rfl)); go_simp; (try simp (disch := omega) only [IntWalk.i64_in]); (try simp (disch := omega) only [IntWalk.u32_in]); (try simp (disch := omega) only [IntWalk.u8_in]); (try simp (disch := omega) only [IntWalk.i64_quo]); (try simp (disch := omega) only [IntWalk.rem_in]); refine hK _ ?_; clear hK K hA hB A B) | (refine hB (fun K hK => ?_); go_simp; (try simp (disch := omega) only [IntWalk.i64_in]); (try simp (disch := omega) only [IntWalk.u32_in]); (try simp (disch := omega) only [IntWalk.u8_in]); (try simp (disch := omega) only [IntWalk.i64_quo]); (try simp (disch := omega) only [IntWalk.rem_in]); refine hK _ ?_; clear hK K hA hB A B))
        | (refine can_guard_go rfl (fun A B hA hB => ?_); go_simp; refine hB (fun K hK => ?_); go_simp; (try simp (disch := omega) only [IntWalk.i64_in]); (try simp (disch := omega) only [IntWalk.u32_in]); (try simp (disch := omega) only [IntWalk.u8_in]); (try simp (disch := omega) only [IntWalk.i64_quo]); (try simp (disch := omega) only [IntWalk.rem_in]); refine hK _ ?_; clear hK K hA hB A B))
      refine can_go rfl rfl (fun KK hK => ?_)
      go_simp
      refine HPY.out.mono ?_
      rintro e w2 ⟨rfl, hb2⟩
      refine ⟨_, rfl, hb2, hK _ _ ?_⟩
      clear hK KK HPY q0 q1 q2 q3
      go_simp
      have HC := Lib.hid (compare_any w2 x.pl y.pl)
      have Hb2 := Lib.hid (kept_trans Hb1.out hb2)
      clear hb2
      repeat (first
        | (refine can_yes (v := ?_) rfl (wanted_none rfl) (fun w' hC => ?_) (fun K hK => ?_); rotate_left; (focus (go_simp; (try simp (disch := omega) only [IntWalk.i64_in]); (try simp (disch := omega) only [IntWalk.u32_in]); (try simp (disch := omega) only [IntWalk.u8_in]); (try simp (disch := omega) only [IntWalk.i64_quo]); (try simp (disch := omega) only [IntWalk.rem_in]); first | done | exact rfl)); go_simp; (try simp (disch := omega) only [IntWalk.i64_in]); (try simp (disch := omega) only [IntWalk.u32_in]); (try simp (disch := omega) only [IntWalk.u8_in]); (try simp (disch := omega) only [IntWalk.i64_quo]); (try simp (disch := omega) only [IntWalk.rem_in]); refine hK _ ?_; clear hK K)
        | (refine can_guard rfl (fun A B hA hB => ?_); go_simp; first | (refine hA ⟨?_, fun w' hC => ?_, fun K hK => ?_⟩; rotate_left; (focus (go_simp; (try simp (disch := omega) only [IntWalk.i64_in]); (try simp (disch := omega) only [IntWalk.u32_in]); (try simp (disch := omega) only [IntWalk.u8_in]); (try simp (disch := omega) only [IntWalk.i64_quo]); (try simp (disch := omega) only [IntWalk.rem_in]); first | done | exact rfl)); go_simp; (try simp (disch := omega) only [IntWalk.i64_in]); (try simp (disch := omega) only [IntWalk.u32_in]); (try simp (disch := omega) only [IntWalk.u8_in]); (try simp (disch := omega) only [IntWalk.i64_quo]); (try simp (disch := omega) only [IntWalk.rem_in]); refine hK _ ?_; clear hK K hA hB A B) | (refine hB (fun K hK => ?_); go_simp; (try simp (disch := omega) only [IntWalk.i64_in]); (try simp (disch := omega) only [IntWalk.u32_in]); (try simp (disch := omega) only [IntWalk.u8_in]); (try simp (disch := omega) only [IntWalk.i64_quo]); (try simp (disch := omega) only [IntWalk.rem_in]); refine hK _ ?_; clear hK K hA hB A B))
        | (refine can_guard_go rfl (fun A B hA hB => ?_); go_simp; refine hB (fun K hK => ?_); go_simp; (try simp (disch := omega) only [IntWalk.i64_in]); (try simp (disch := omega) only [IntWalk.u32_in]); (try simp (disch := omega) only [IntWalk.u8_in]); (try simp (disch := omega) only [IntWalk.i64_quo]); (try simp (disch := omega) only [IntWalk.rem_in]); refine hK _ ?_; clear hK K hA hB A B))
      refine can_go rfl rfl (fun KK hK => ?_)
      go_simp
      refine HC.out.mono ?_
      rintro e w3 ⟨rfl, hb3⟩
      refine ⟨_, rfl, hb3, hK _ _ ?_⟩
      clear hK KK HC
      go_simp
      have Hb3 := Lib.hid (Hbw.out.trans ((kept_trans Hb2.out hb3).mono Hbw.out.size))
      clear hb3 hs1 hs2
      by_cases hlt : plt x.pl y.pl
      · have hv : pcmp x.pl y.pl = -1 := by unfold pcmp; rw [if_pos hlt]
        rw [hv]
        have Hlt := Lib.hid hlt
        clear hv hlt
        repeat (first
          | (refine can_yes (v := ?_) rfl (wanted_none rfl) (fun w' hC => ?_) (fun K hK => ?_); rotate_left; (focus (go_simp; (try simp (disch := omega) only [IntWalk.i64_in]); (try simp (disch := omega) only [IntWalk.u32_in]); (try simp (disch := omega) only [IntWalk.u8_in]); (try simp (disch := omega) only [IntWalk.i64_quo]); (try simp (disch := omega) only [IntWalk.rem_in]); first | done | exact rfl)); go_simp; (try simp (disch := omega) only [IntWalk.i64_in]); (try simp (disch := omega) only [IntWalk.u32_in]); (try simp (disch := omega) only [IntWalk.u8_in]); (try simp (disch := omega) only [IntWalk.i64_quo]); (try simp (disch := omega) only [IntWalk.rem_in]); refine hK _ ?_; clear hK K)
          | (refine can_guard rfl (fun A B hA hB => ?_); go_simp; first | (refine hA ⟨?_, fun w' hC => ?_, fun K hK => ?_⟩; rotate_left; (focus (go_simp; (try simp (disch := omega) only [IntWalk.i64_in]); (try simp (disch := omega) only [IntWalk.u32_in]); (try simp (disch := omega) only [IntWalk.u8_in]); (try simp (disch := omega) only [IntWalk.i64_quo]); (try simp (disch := omega) only [IntWalk.rem_in]); first | done | exact rfl)); go_simp; (try simp (disch := omega) only [IntWalk.i64_in]); (try simp (disch := omega) only [IntWalk.u32_in]); (try simp (disch := omega) only [IntWalk.u8_in]); (try simp (disch := omega) only [IntWalk.i64_quo]); (try simp (disch := omega) only [IntWalk.rem_in]); refine hK _ ?_; clear hK K hA hB A B) | (refine hB (fun K hK => ?_); go_simp; (try simp (disch := omega) only [IntWalk.i64_in]); (try simp (disch := omega) only [IntWalk.u32_in]); (try simp (disch := omega) only [IntWalk.u8_in]); (try simp (disch := omega) only [IntWalk.i64_quo]); (try simp (disch := omega) only [IntWalk.rem_in]); refine hK _ ?_; clear hK K hA hB A B))
          | (refine can_guard_go rfl (fun A B hA hB => ?_); go_simp; refine hB (fun K hK => ?_); go_simp; (try simp (disch := omega) only [IntWalk.i64_in]); (try simp (disch := omega) only [IntWalk.u32_in]); (try simp (disch := omega) only [IntWalk.u8_in]); (try simp (disch := omega) only [IntWalk.i64_quo]); (try simp (disch := omega) only [IntWalk.rem_in]); refine hK _ ?_; clear hK K hA hB A B))
        refine can_nil ?_
        go_wp2_with fail
        go_roundw
        case rel => exact ⟨k + 1, by omega, by go_num, fun j hj hjk => by
          rcases Nat.lt_succ_iff_lt_or_eq.1 hjk with h | h
          · exact Hall.out j hj h
          · subst h; rw [Hx.out, Hy.out]; exact Hlt.out, Hb3.out⟩
        case measure => simp [intOf]; omega
      · have hv : 0 ≤ pcmp x.pl y.pl := by unfold pcmp; rw [if_neg hlt]; split <;> omega
        have Hf := Lib.hid (show ok = false by
          rw [← Hok.out]
          refine decide_eq_false fun ha => hlt ?_
          have := step_of_asc RIt.pl ha k hk1
          rw [Hx.out, Hy.out] at this
          exact this)
        generalize pcmp x.pl y.pl = cv at *
        clear hlt
        have hv2 : decide (cv ≥ 0) = true := by simpa using hv
        repeat (first
          | (refine can_yes (v := ?_) rfl (wanted_none rfl) (fun w' hC => ?_) (fun K hK => ?_); rotate_left; (focus (go_simp; (try simp (disch := omega) only [IntWalk.i64_in]); (try simp (disch := omega) only [IntWalk.u32_in]); (try simp (disch := omega) only [IntWalk.u8_in]); (try simp (disch := omega) only [IntWalk.i64_quo]); (try simp (disch := omega) only [IntWalk.rem_in]); first | done | exact rfl)); go_simp; (try simp (disch := omega) only [IntWalk.i64_in]); (try simp (disch := omega) only [IntWalk.u32_in]); (try simp (disch := omega) only [IntWalk.u8_in]); (try simp (disch := omega) only [IntWalk.i64_quo]); (try simp (disch := omega) only [IntWalk.rem_in]); refine hK _ ?_; clear hK K)
          | (refine can_guard rfl (fun A B hA hB => ?_); go_simp; first | (refine hA ⟨?_, fun w' hC => ?_, fun K hK => ?_⟩; rotate_left; (focus (go_simp; (try simp (disch := omega) only [IntWalk.i64_in]); (try simp (disch := omega) only [IntWalk.u32_in]); (try simp (disch := omega) only [IntWalk.u8_in]); (try simp (disch := omega) only [IntWalk.i64_quo]); (try simp (disch := omega) only [IntWalk.rem_in]); first | done | exact rfl)); go_simp; (try simp (disch := omega) only [IntWalk.i64_in]); (try simp (disch := omega) only [IntWalk.u32_in]); (try simp (disch := omega) only [IntWalk.u8_in]); (try simp (disch := omega) only [IntWalk.i64_quo]); (try simp (disch := omega) only [IntWalk.rem_in]); refine hK _ ?_; clear hK K hA hB A B) | (refine hB (fun K hK => ?_); go_simp; (try simp (disch := omega) only [IntWalk.i64_in]); (try simp (disch := omega) only [IntWalk.u32_in]); (try simp (disch := omega) only [IntWalk.u8_in]); (try simp (disch := omega) only [IntWalk.i64_quo]); (try simp (disch := omega) only [IntWalk.rem_in]); refine hK _ ?_; clear hK K hA hB A B))
          | (refine can_guard_go rfl (fun A B hA hB => ?_); go_simp; refine hB (fun K hK => ?_); go_simp; (try simp (disch := omega) only [IntWalk.i64_in]); (try simp (disch := omega) only [IntWalk.u32_in]); (try simp (disch := omega) only [IntWalk.u8_in]); (try simp (disch := omega) only [IntWalk.i64_quo]); (try simp (disch := omega) only [IntWalk.rem_in]); refine hK _ ?_; clear hK K hA hB A B))
        refine can_nil ?_
        go_wp2_with fail
        go_ret
        exact ⟨by rw [Hf.out]; rfl, Hb3.out⟩
    · have hkI : ¬ (k : Int) + 1 < (n : Int) := by omega
      have Hokt := Lib.hid (show ok = true by
        rw [← Hok.out, decide_eq_true_iff, asc_iff_step]
        intro j hj
        exact Hall.out j hj (by rw [Hn.out] at hj; omega))
      go_wp2_with fail
      go_ret
      exact ⟨by rw [Hokt.out]; rfl, Hbw.out⟩

set_option maxRecDepth 100000 in
set_option maxHeartbeats 1500000 in
theorem ascG_any (w : World) (F : Blks) (v : Value) (l : List RGo) (h : Rows F w 3 v l.length (l.flatMap encGo)) (hl : l.length ≤ 1000000) :
    Calls Tryz.prog 46 #[v, .func (.func 47) #[] #[]] w fun e w' => e = .returned (.bool (decide (Asc RGo.pl l))) ∧ Below w.heap.size w w' := by
  obtain ⟨ok, hok⟩ : ∃ ok, decide (Asc RGo.pl l) = ok := ⟨_, rfl⟩
  rw [hok]
  have Hok := Lib.hid hok
  have Hh := Lib.hid h
  obtain ⟨a, cap, rfl, -⟩ := h.shape
  obtain ⟨n, hn⟩ : ∃ n, l.length = n := ⟨_, rfl⟩
  have Hn := Lib.hid hn
  rw [hn] at hl ⊢
  have Hs := Lib.hid (show AscRel RGo.pl l w (.int .i64 1) w from ⟨0, by omega, rfl, fun j hj hk => by omega, Below.refl _ _⟩)
  clear hok h hn
  go_enter Tryz.func46, Tryz.ntmps46
  go_wp2_with fail
  go_loopw [5] (fun i wr => AscRel RGo.pl l w i wr) (fun i _ => n + 1 - (intOf i).toNat)
  case atStart => exact Hs.out
  case round =>
    obtain ⟨k, hk, rfl, hall, hbw⟩ := hrel
    have Hall := Lib.hid hall; have Hbw := Lib.hid hbw
    clear hall hbw Hs
    by_cases hkn : k + 1 < n
    · have hkI : (k : Int) + 1 < (n : Int) := by omega
      have hm := Hh.out.keep (w' := wr) fun b _ hlt => Hbw.out.block b hlt
      obtain ⟨b, off, rfl, -, -, hc⟩ := go_cell hm (by rw [Hn.out]; omega)
      have hk0 : k < l.length := by rw [Hn.out]; omega
      have hk1 : k + 1 < l.length := by rw [Hn.out]; omega
      obtain ⟨x0, x1, x2⟩ := hc k hk0
      obtain ⟨y0, y1, y2⟩ := hc (k + 1) hk1
      obtain ⟨x, hx⟩ : ∃ x, l[k] = x := ⟨_, rfl⟩
      obtain ⟨y, hy⟩ : ∃ y, l[k + 1] = y := ⟨_, rfl⟩
      rw [hx] at x0 x1 x2
      rw [hy] at y0 y1 y2
      have p0 : ∀ w', Later wr.drew w' → w'.cell? _ = _ := fun w' hh => laterC x0 hh
      have p1 : ∀ w', Later wr.drew w' → w'.cell? _ = _ := fun w' hh => laterC x1 hh
      have p2 : ∀ w', Later wr.drew w' → w'.cell? _ = _ := fun w' hh => laterC x2 hh
      have q0 : ∀ w', Later wr.drew w' → w'.cell? _ = _ := fun w' hh => laterC y0 hh
      have q1 : ∀ w', Later wr.drew w' → w'.cell? _ = _ := fun w' hh => laterC y1 hh
      have q2 : ∀ w', Later wr.drew w' → w'.cell? _ = _ := fun w' hh => laterC y2 hh
      have Hx := Lib.hid hx; have Hy := Lib.hid hy
      have HPX := Lib.hid (show Calls Tryz.prog 47 #[.agg #[.string ⟨x.key.toArray⟩, .int .i64 x.dev, .int .i64 x.seq]] wr.drew _ from goPlace_any wr.drew x)
      have hs1 : IntKind.i64.wrap ((k : Int) + 1 - 1) = (k : Int) := by rw [IntWalk.i64_in _ (by omega)]; omega
      have hs0 : IntKind.i64.wrap (k : Int) = (k : Int) := IntWalk.i64_in _ (by omega)
      have hs2 : ((k : Int) + 1).toNat = k + 1 := by omega
      have hkI2 : (k : Int) < (n : Int) := by omega
      clear hc hm x0 x1 x2 y0 y1 y2 hx hy
      go_wp2_with fail
      refine wp_region_can Later [(0, true), (1, true), (2, true), (3, true), (4, true), (5, true), (7, true), (8, true), (9, true), (10, true), (11, true), (6, false), (12, false), (13, false), (14, true)] (by kernel_rfl) (by kernel_rfl) later_refl later_trans ?_
      repeat (first
        | (refine can_yes (v := ?_) rfl (wanted_none rfl) (fun w' hC => ?_) (fun K hK => ?_); rotate_left; (focus (go_simp; (try simp (disch := omega) only [IntWalk.i64_in]); (try simp (disch := omega) only [IntWalk.u32_in]); (try simp (disch := omega) only [IntWalk.u8_in]); (try simp (disch := omega) only [IntWalk.i64_quo]); (try simp (disch := omega) only [IntWalk.rem_in]); first | done | exact rfl)); go_simp; (try simp (disch := omega) only [IntWalk.i64_in]); (try simp (disch := omega) only [IntWalk.u32_in]); (try simp (disch := omega) only [IntWalk.u8_in]); (try simp (disch := omega) only [IntWalk.i64_quo]); (try simp (disch := omega) only [IntWalk.rem_in]); refine hK _ ?_; clear hK K)
        | (refine can_guard rfl (fun A B hA hB => ?_); go_simp; first | (refine hA ⟨?_, fun w' hC => ?_, fun K hK => ?_⟩; rotate_left; (focus (go_simp; (try simp (disch := omega) only [IntWalk.i64_in]); (try simp (disch := omega) only [IntWalk.u32_in]); (try simp (disch := omega) only [IntWalk.u8_in]); (try simp (disch := omega) only [IntWalk.i64_quo]); (try simp (disch := omega) only [IntWalk.rem_in]); first | done | exact rfl)); go_simp; (try simp (disch := omega) only [IntWalk.i64_in]); (try simp (disch := omega) only [IntWalk.u32_in]); (try simp (disch := omega) only [IntWalk.u8_in]); (try simp (disch := omega) only [IntWalk.i64_quo]); (try simp (disch := omega) only [IntWalk.rem_in]); refine hK _ ?_; clear hK K hA hB A B) | (refine hB (fun K hK => ?_); go_simp; (try simp (disch := omega) only [IntWalk.i64_in]); (try simp (disch := omega) only [IntWalk.u32_in]); (try simp (disch := omega) only [IntWalk.u8_in]); (try simp (disch := omega) only [IntWalk.i64_quo]); (try simp (disch := omega) only [IntWalk.rem_in]); refine hK _ ?_; clear hK K hA hB A B))
        | (refine can_guard_go rfl (fun A B hA hB => ?_); go_simp; refine hB (fun K hK => ?_); go_simp; (try simp (disch := omega) only [IntWalk.i64_in]); (try simp (disch := omega) only [IntWalk.u32_in]); (try simp (disch := omega) only [IntWalk.u8_in]); (try simp (disch := omega) only [IntWalk.i64_quo]); (try simp (disch := omega) only [IntWalk.rem_in]); refine hK _ ?_; clear hK K hA hB A B))
      refine can_go rfl rfl (fun KK hK => ?_)
      go_simp
      refine HPX.out.mono ?_
      rintro e w1 ⟨rfl, hb1⟩
      refine ⟨_, rfl, hb1, hK _ _ ?_⟩
      clear hK KK HPX p0 p1 p2
      go_simp
      have HPY := Lib.hid (show Calls Tryz.prog 47 #[.agg #[.string ⟨y.key.toArray⟩, .int .i64 y.dev, .int .i64 y.seq]] w1 _ from goPlace_any w1 y)
      have Hb1 := Lib.hid (show Below wr.heap.size wr w1 from (Below.refl _ _).drew.trans hb1)
      clear hb1
      repeat (first
        | (refine can_yes (v := ?_) rfl (wanted_none rfl) (fun w' hC => ?_) (fun K hK => ?_); rotate_left; (focus (go_simp; (try simp (disch := omega) only [IntWalk.i64_in]); (try simp (disch := omega) only [IntWalk.u32_in]); (try simp (disch := omega) only [IntWalk.u8_in]); (try simp (disch := omega) only [IntWalk.i64_quo]); (try simp (disch := omega) only [IntWalk.rem_in]); first | done | exact rfl)); go_simp; (try simp (disch := omega) only [IntWalk.i64_in]); (try simp (disch := omega) only [IntWalk.u32_in]); (try simp (disch := omega) only [IntWalk.u8_in]); (try simp (disch := omega) only [IntWalk.i64_quo]); (try simp (disch := omega) only [IntWalk.rem_in]); refine hK _ ?_; clear hK K)
        | (refine can_guard rfl (fun A B hA hB => ?_); go_simp; first | (refine hA ⟨?_, fun w' hC => ?_, fun K hK => ?_⟩; rotate_left; (focus (go_simp; (try simp (disch := omega) only [IntWalk.i64_in]); (try simp (disch := omega) only [IntWalk.u32_in]); (try simp (disch := omega) only [IntWalk.u8_in]); (try simp (disch := omega) only [IntWalk.i64_quo]); (try simp (disch := omega) only [IntWalk.rem_in]); first | done | exact rfl)); go_simp; (try simp (disch := omega) only [IntWalk.i64_in]); (try simp (disch := omega) only [IntWalk.u32_in]); (try simp (disch := omega) only [IntWalk.u8_in]); (try simp (disch := omega) only [IntWalk.i64_quo]); (try simp (disch := omega) only [IntWalk.rem_in]); refine hK _ ?_; clear hK K hA hB A B) | (refine hB (fun K hK => ?_); go_simp; (try simp (disch := omega) only [IntWalk.i64_in]); (try simp (disch := omega) only [IntWalk.u32_in]); (try simp (disch := omega) only [IntWalk.u8_in]); (try simp (disch := omega) only [IntWalk.i64_quo]); (try simp (disch := omega) only [IntWalk.rem_in]); refine hK _ ?_; clear hK K hA hB A B))
        | (refine can_guard_go rfl (fun A B hA hB => ?_); go_simp; refine hB (fun K hK => ?_); go_simp; (try simp (disch := omega) only [IntWalk.i64_in]); (try simp (disch := omega) only [IntWalk.u32_in]); (try simp (disch := omega) only [IntWalk.u8_in]); (try simp (disch := omega) only [IntWalk.i64_quo]); (try simp (disch := omega) only [IntWalk.rem_in]); refine hK _ ?_; clear hK K hA hB A B))
      refine can_go rfl rfl (fun KK hK => ?_)
      go_simp
      refine HPY.out.mono ?_
      rintro e w2 ⟨rfl, hb2⟩
      refine ⟨_, rfl, hb2, hK _ _ ?_⟩
      clear hK KK HPY q0 q1 q2
      go_simp
      have HC := Lib.hid (compare_any w2 x.pl y.pl)
      have Hb2 := Lib.hid (kept_trans Hb1.out hb2)
      clear hb2
      repeat (first
        | (refine can_yes (v := ?_) rfl (wanted_none rfl) (fun w' hC => ?_) (fun K hK => ?_); rotate_left; (focus (go_simp; (try simp (disch := omega) only [IntWalk.i64_in]); (try simp (disch := omega) only [IntWalk.u32_in]); (try simp (disch := omega) only [IntWalk.u8_in]); (try simp (disch := omega) only [IntWalk.i64_quo]); (try simp (disch := omega) only [IntWalk.rem_in]); first | done | exact rfl)); go_simp; (try simp (disch := omega) only [IntWalk.i64_in]); (try simp (disch := omega) only [IntWalk.u32_in]); (try simp (disch := omega) only [IntWalk.u8_in]); (try simp (disch := omega) only [IntWalk.i64_quo]); (try simp (disch := omega) only [IntWalk.rem_in]); refine hK _ ?_; clear hK K)
        | (refine can_guard rfl (fun A B hA hB => ?_); go_simp; first | (refine hA ⟨?_, fun w' hC => ?_, fun K hK => ?_⟩; rotate_left; (focus (go_simp; (try simp (disch := omega) only [IntWalk.i64_in]); (try simp (disch := omega) only [IntWalk.u32_in]); (try simp (disch := omega) only [IntWalk.u8_in]); (try simp (disch := omega) only [IntWalk.i64_quo]); (try simp (disch := omega) only [IntWalk.rem_in]); first | done | exact rfl)); go_simp; (try simp (disch := omega) only [IntWalk.i64_in]); (try simp (disch := omega) only [IntWalk.u32_in]); (try simp (disch := omega) only [IntWalk.u8_in]); (try simp (disch := omega) only [IntWalk.i64_quo]); (try simp (disch := omega) only [IntWalk.rem_in]); refine hK _ ?_; clear hK K hA hB A B) | (refine hB (fun K hK => ?_); go_simp; (try simp (disch := omega) only [IntWalk.i64_in]); (try simp (disch := omega) only [IntWalk.u32_in]); (try simp (disch := omega) only [IntWalk.u8_in]); (try simp (disch := omega) only [IntWalk.i64_quo]); (try simp (disch := omega) only [IntWalk.rem_in]); refine hK _ ?_; clear hK K hA hB A B))
        | (refine can_guard_go rfl (fun A B hA hB => ?_); go_simp; refine hB (fun K hK => ?_); go_simp; (try simp (disch := omega) only [IntWalk.i64_in]); (try simp (disch := omega) only [IntWalk.u32_in]); (try simp (disch := omega) only [IntWalk.u8_in]); (try simp (disch := omega) only [IntWalk.i64_quo]); (try simp (disch := omega) only [IntWalk.rem_in]); refine hK _ ?_; clear hK K hA hB A B))
      refine can_go rfl rfl (fun KK hK => ?_)
      go_simp
      refine HC.out.mono ?_
      rintro e w3 ⟨rfl, hb3⟩
      refine ⟨_, rfl, hb3, hK _ _ ?_⟩
      clear hK KK HC
      go_simp
      have Hb3 := Lib.hid (Hbw.out.trans ((kept_trans Hb2.out hb3).mono Hbw.out.size))
      clear hb3 hs1 hs2
      by_cases hlt : plt x.pl y.pl
      · have hv : pcmp x.pl y.pl = -1 := by unfold pcmp; rw [if_pos hlt]
        rw [hv]
        have Hlt := Lib.hid hlt
        clear hv hlt
        repeat (first
          | (refine can_yes (v := ?_) rfl (wanted_none rfl) (fun w' hC => ?_) (fun K hK => ?_); rotate_left; (focus (go_simp; (try simp (disch := omega) only [IntWalk.i64_in]); (try simp (disch := omega) only [IntWalk.u32_in]); (try simp (disch := omega) only [IntWalk.u8_in]); (try simp (disch := omega) only [IntWalk.i64_quo]); (try simp (disch := omega) only [IntWalk.rem_in]); first | done | exact rfl)); go_simp; (try simp (disch := omega) only [IntWalk.i64_in]); (try simp (disch := omega) only [IntWalk.u32_in]); (try simp (disch := omega) only [IntWalk.u8_in]); (try simp (disch := omega) only [IntWalk.i64_quo]); (try simp (disch := omega) only [IntWalk.rem_in]); refine hK _ ?_; clear hK K)
          | (refine can_guard rfl (fun A B hA hB => ?_); go_simp; first | (refine hA ⟨?_, fun w' hC => ?_, fun K hK => ?_⟩; rotate_left; (focus (go_simp; (try simp (disch := omega) only [IntWalk.i64_in]); (try simp (disch := omega) only [IntWalk.u32_in]); (try simp (disch := omega) only [IntWalk.u8_in]); (try simp (disch := omega) only [IntWalk.i64_quo]); (try simp (disch := omega) only [IntWalk.rem_in]); first | done | exact rfl)); go_simp; (try simp (disch := omega) only [IntWalk.i64_in]); (try simp (disch := omega) only [IntWalk.u32_in]); (try simp (disch := omega) only [IntWalk.u8_in]); (try simp (disch := omega) only [IntWalk.i64_quo]); (try simp (disch := omega) only [IntWalk.rem_in]); refine hK _ ?_; clear hK K hA hB A B) | (refine hB (fun K hK => ?_); go_simp; (try simp (disch := omega) only [IntWalk.i64_in]); (try simp (disch := omega) only [IntWalk.u32_in]); (try simp (disch := omega) only [IntWalk.u8_in]); (try simp (disch := omega) only [IntWalk.i64_quo]); (try simp (disch := omega) only [IntWalk.rem_in]); refine hK _ ?_; clear hK K hA hB A B))
          | (refine can_guard_go rfl (fun A B hA hB => ?_); go_simp; refine hB (fun K hK => ?_); go_simp; (try simp (disch := omega) only [IntWalk.i64_in]); (try simp (disch := omega) only [IntWalk.u32_in]); (try simp (disch := omega) only [IntWalk.u8_in]); (try simp (disch := omega) only [IntWalk.i64_quo]); (try simp (disch := omega) only [IntWalk.rem_in]); refine hK _ ?_; clear hK K hA hB A B))
        refine can_nil ?_
        go_wp2_with fail
        go_roundw
        case rel => exact ⟨k + 1, by omega, by go_num, fun j hj hjk => by
          rcases Nat.lt_succ_iff_lt_or_eq.1 hjk with h | h
          · exact Hall.out j hj h
          · subst h; rw [Hx.out, Hy.out]; exact Hlt.out, Hb3.out⟩
        case measure => simp [intOf]; omega
      · have hv : 0 ≤ pcmp x.pl y.pl := by unfold pcmp; rw [if_neg hlt]; split <;> omega
        have Hf := Lib.hid (show ok = false by
          rw [← Hok.out]
          refine decide_eq_false fun ha => hlt ?_
          have := step_of_asc RGo.pl ha k hk1
          rw [Hx.out, Hy.out] at this
          exact this)
        generalize pcmp x.pl y.pl = cv at *
        clear hlt
        have hv2 : decide (cv ≥ 0) = true := by simpa using hv
        repeat (first
          | (refine can_yes (v := ?_) rfl (wanted_none rfl) (fun w' hC => ?_) (fun K hK => ?_); rotate_left; (focus (go_simp; (try simp (disch := omega) only [IntWalk.i64_in]); (try simp (disch := omega) only [IntWalk.u32_in]); (try simp (disch := omega) only [IntWalk.u8_in]); (try simp (disch := omega) only [IntWalk.i64_quo]); (try simp (disch := omega) only [IntWalk.rem_in]); first | done | exact rfl)); go_simp; (try simp (disch := omega) only [IntWalk.i64_in]); (try simp (disch := omega) only [IntWalk.u32_in]); (try simp (disch := omega) only [IntWalk.u8_in]); (try simp (disch := omega) only [IntWalk.i64_quo]); (try simp (disch := omega) only [IntWalk.rem_in]); refine hK _ ?_; clear hK K)
          | (refine can_guard rfl (fun A B hA hB => ?_); go_simp; first | (refine hA ⟨?_, fun w' hC => ?_, fun K hK => ?_⟩; rotate_left; (focus (go_simp; (try simp (disch := omega) only [IntWalk.i64_in]); (try simp (disch := omega) only [IntWalk.u32_in]); (try simp (disch := omega) only [IntWalk.u8_in]); (try simp (disch := omega) only [IntWalk.i64_quo]); (try simp (disch := omega) only [IntWalk.rem_in]); first | done | exact rfl)); go_simp; (try simp (disch := omega) only [IntWalk.i64_in]); (try simp (disch := omega) only [IntWalk.u32_in]); (try simp (disch := omega) only [IntWalk.u8_in]); (try simp (disch := omega) only [IntWalk.i64_quo]); (try simp (disch := omega) only [IntWalk.rem_in]); refine hK _ ?_; clear hK K hA hB A B) | (refine hB (fun K hK => ?_); go_simp; (try simp (disch := omega) only [IntWalk.i64_in]); (try simp (disch := omega) only [IntWalk.u32_in]); (try simp (disch := omega) only [IntWalk.u8_in]); (try simp (disch := omega) only [IntWalk.i64_quo]); (try simp (disch := omega) only [IntWalk.rem_in]); refine hK _ ?_; clear hK K hA hB A B))
          | (refine can_guard_go rfl (fun A B hA hB => ?_); go_simp; refine hB (fun K hK => ?_); go_simp; (try simp (disch := omega) only [IntWalk.i64_in]); (try simp (disch := omega) only [IntWalk.u32_in]); (try simp (disch := omega) only [IntWalk.u8_in]); (try simp (disch := omega) only [IntWalk.i64_quo]); (try simp (disch := omega) only [IntWalk.rem_in]); refine hK _ ?_; clear hK K hA hB A B))
        refine can_nil ?_
        go_wp2_with fail
        go_ret
        exact ⟨by rw [Hf.out]; rfl, Hb3.out⟩
    · have hkI : ¬ (k : Int) + 1 < (n : Int) := by omega
      have Hokt := Lib.hid (show ok = true by
        rw [← Hok.out, decide_eq_true_iff, asc_iff_step]
        intro j hj
        exact Hall.out j hj (by rw [Hn.out] at hj; omega))
      go_wp2_with fail
      go_ret
      exact ⟨by rw [Hokt.out]; rfl, Hbw.out⟩
end Go.Proofs.YtbjkkmabafaogaaGreatDoor
