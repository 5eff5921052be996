/-
  RCod2 RCod3
-/
import Derived.Test.YtkkacnfpdafadaaGreatDoorR11
namespace Go.Proofs.YtkkacnfpdafadaaGreatDoor
open Go.RowKit
set_option linter.unusedVariables false
set_option maxRecDepth 20000
attribute [local go_sem] opC upC

theorem Bytes.cut {F : Blks} {w : World} {bb ob cap : Nat} {l : List UInt8} (h : Bytes F w (.slice (some ⟨bb, ob, none⟩) l.length cap) l) (k m : Nat) (hk : k + m ≤ l.length) : Bytes F w (.slice (some ⟨bb, ob + k, none⟩) m (cap - k)) ((l.drop k).take m) := by
  obtain ⟨a, c, hv, hc, hm, hz, h⟩ := h
  simp at hv
  obtain ⟨rfl, rfl⟩ := hv
  have hlen : ((l.drop k).take m).length = m := by simp; omega
  refine ⟨some ⟨bb, ob + k, none⟩, cap - k, by rw [hlen], by rw [hlen]; omega, by unfold maxLen at *; omega, nofun, ?_⟩
  rcases h with h | ⟨b, off, L, t, fz, e, hF, hb, hl, hr⟩
  · left; rw [h]; simp
  · simp at e
    obtain ⟨rfl, rfl⟩ := e
    refine .inr ⟨bb, ob + k, L, t, fz, rfl, hF, hb, by rw [hlen]; omega, fun i hi => ?_⟩
    rw [hlen] at hi
    have := hr (k + i) (by omega)
    rw [Nat.add_assoc, this]
    simp [List.getElem_take, List.getElem_drop]

theorem Bytes.cutI {F : Blks} {w : World} {bb ob cap : Nat} {l : List UInt8} (h : Bytes F w (.slice (some ⟨bb, ob, none⟩) l.length cap) l) (k m : Nat) (hk : k + m ≤ l.length) : Bytes F w (.slice (if cap = k then some ⟨bb, ob, none⟩ else some ⟨bb, ob + k, none⟩) m (cap - k)) ((l.drop k).take m) := by
  have h2 := h.cut k m hk
  by_cases e : cap = k
  · rw [if_pos e]
    obtain ⟨-, hc, hm, -⟩ := h.cells
    have hm0 : m = 0 := by omega
    subst hm0
    exact ⟨some ⟨bb, ob, none⟩, cap - k, by simp, by simp, by unfold maxLen at *; omega, nofun, .inl (by simp)⟩
  · rw [if_neg e]; exact h2

def CText (w : World) (R : Nat) (sl : Value) (bl : Nat) (o : Option (RKey × List UInt8)) (e : Ending) (w' : World) : Prop :=
  (match o with
    | some (k, r) => e = .returned (.string ⟨k.toArray⟩) ∧ ∃ at' : Nat, at' + r.length = bl ∧ Blk w' R [sl, .int .i64 (at' : Int)] 196
    | none => e = .panicked failP) ∧ Only (fun q => q = R) w w'
set_option maxRecDepth 100000 in
set_option maxHeartbeats 2000000 in
theorem ctext_any (w : World) (R : Nat) (F : Blks) (av : Option Addr) (cap : Nat) (b : List UInt8) (k0 : Nat) (hR : Blk w R [.slice av b.length cap, .int .i64 (k0 : Int)] 196) (hB : Bytes F w (.slice av b.length cap) b) (hF : ∀ q, F q → q ≠ R) (hk : k0 ≤ b.length) :
    Calls Tryz.prog 143 #[.pointer (some ⟨R, 0, none⟩)] w (CText w R (.slice av b.length cap) b.length (rdT (b.drop k0))) := by
  have hN := cnum_any w R F av cap b k0 hR hB hF hk
  have hbl : b.length ≤ 9223372036854775807 := by obtain ⟨-, h1, h2, -⟩ := hB.cells; unfold maxLen at h2; omega
  have HB := Lib.hid (show ∀ W, Only (fun q => q = R) w W → Bytes F W (.slice av b.length cap) b from fun W hW => hB.only hW fun q hq e => hF q hq e)
  obtain ⟨o, ho⟩ : ∃ o, rdF (b.drop k0) 9 = o := ⟨_, rfl⟩
  obtain ⟨n, hn⟩ : ∃ n, b.length = n := ⟨_, rfl⟩
  obtain ⟨ot, hot⟩ : ∃ ot, rdT (b.drop k0) = ot := ⟨_, rfl⟩
  rw [ho, hn] at hN
  rw [hot]
  rw [hn] at hbl hk ⊢
  unfold rdT at hot
  rw [ho] at hot
  have HN := Lib.hid hN; have Ho := Lib.hid ho; have Hn := Lib.hid hn; have Hot := Lib.hid hot
  clear hN hB ho hn hot hR
  go_enter Tryz.func143, Tryz.ntmps143
  go_wp2_with fail
  refine HN.out.mono ?_
  rintro e w1 hC
  clear HN
  cases o with
  | none =>
    obtain ⟨rfl, hO⟩ := hC
    obtain rfl : ot = none := Hot.out.symm
    have HO := Lib.hid hO
    clear hO
    go_wp2_with fail
    exact ⟨rfl, rfl, HO.out⟩
  | some p =>
    obtain ⟨m, r⟩ := p
    obtain ⟨⟨rfl, k1, hk1, hb1⟩, hO⟩ := hC
    have hlen := rd_len Ho.out
    obtain ⟨rl, hrl⟩ : ∃ rl, r.length = rl := ⟨_, rfl⟩
    have hdl : (b.drop k0).length = n - k0 := by rw [List.length_drop, Hn.out]
    rw [hdl, hrl] at hlen
    rw [hrl] at hk1
    have hm64 : m < 18446744073709551616 := hlen.2.2
    have hr1 : r = b.drop k1 := by
      have h1 := (rd_iff.1 Ho.out).2
      have h2 : r = (b.drop k0).drop (uvar m).length := by rw [h1]; simp
      have h3 := congrArg List.length h1
      rw [hdl, List.length_append, hrl] at h3
      rw [h2, List.drop_drop]
      congr 1
      omega
    have hkn1 : k1 ≤ n := by omega
    have hkpos : 0 < n := by omega
    obtain ⟨bb, ob, rfl⟩ : ∃ bb ob, av = some ⟨bb, ob, none⟩ := by
      obtain ⟨-, -, -, hbc⟩ := (HB.out w1 hO).cells
      obtain ⟨bb, ob, e, -⟩ := hbc.resolve_left (by intro e; rw [e] at Hn; have := Hn.out; simp at this; omega)
      exact ⟨bb, ob, e⟩
    have hbc := (HB.out w1 hO).cells
    have hcap : n ≤ cap ∧ cap ≤ maxLen := ⟨by rw [← Hn.out]; exact hbc.2.1, hbc.2.2.1⟩
    unfold maxLen at hcap
    have hncap := hcap.1
    have hcapm := hcap.2
    have hsub : IntKind.u64.wrap ((n : Int) - (k1 : Int)) = (rl : Int) := by
      rw [show (n : Int) - (k1 : Int) = (rl : Int) by omega]
      exact IntWalk.u64_in _ (by omega)
    have hsub2 : IntKind.u64.wrap (rl : Int) = (rl : Int) := IntWalk.u64_in _ (by omega)
    have hsub3 : IntKind.i64.wrap ((n : Int) - (k1 : Int)) = (rl : Int) := by
      rw [show (n : Int) - (k1 : Int) = (rl : Int) by omega]
      exact IntWalk.i64_in _ (by omega)
    have Hb1 := Lib.hid hb1; have HO := Lib.hid hO; have Hrl := Lib.hid hrl; have Hr1 := Lib.hid hr1; have Hk1 := Lib.hid hk1
    clear hb1 hO hrl hr1 hlen hdl hbc hcap
    have d0 : ∀ w', Later w1.drew w' → w'.cell? ⟨R, 0, none⟩ = some (.slice (some ⟨bb, ob, none⟩) n cap) := fun w' hh => laterC (w := w1) (by simpa using Hb1.out.cell 0) hh
    have d1 : ∀ w', Later w1.drew w' → w'.cell? ⟨R, 1, none⟩ = some (.int .i64 (k1 : Int)) := fun w' hh => laterC (w := w1) (by simpa using Hb1.out.cell 1) hh
    by_cases hmr : m ≤ rl
    · have hmI : ¬ (rl : Int) < (m : Int) := by omega
      have hm63 : IntKind.i64.wrap (m : Int) = (m : Int) := IntWalk.i64_in _ (by have := Hk1.out; omega)
      have hsum : IntKind.i64.wrap ((k1 : Int) + (m : Int)) = (k1 : Int) + (m : Int) := IntWalk.i64_in _ (by have := Hk1.out; omega)
      have Hfin := Lib.hid (show ot = some (r.take m, r.drop m) by
        rw [← Hot.out]
        show (if m ≤ r.length then some (r.take m, r.drop m) else none) = _
        rw [Hrl.out, if_pos hmr])
      have hkm : k1 + m ≤ n := by have := Hk1.out; omega
      go_wp2_with fail
      refine wp_region_can Later [(0, true), (1, true), (2, true), (3, true), (4, true), (5, true), (6, true), (7, true), (8, true), (9, true), (10, true), (11, true), (12, true)] (by kernel_rfl) (by kernel_rfl) later_refl later_trans ?_
      repeat (refine can_yes (v := ?_) rfl (wanted_none rfl) (fun w' hC => ?_) (fun K hK => ?_); rotate_left; (focus (go_simp; (try simp (disch := omega) only [IntWalk.i64_in]); first | done | exact rfl)); go_simp; (try simp (disch := omega) only [IntWalk.i64_in]); refine hK _ ?_; clear hK K)
      refine can_nil ?_
      clear d0 d1 hsub hsub2 hsub3
      obtain ⟨w8, hw8⟩ : ∃ w8, w8 = w1.drew := ⟨_, rfl⟩
      rw [← hw8]
      have HO8 := Lib.hid (show Only (fun q => q = R) w w8 by rw [hw8]; exact ⟨HO.out.os, HO.out.tape, HO.out.output, HO.out.size, HO.out.block⟩)
      have Hb8 := Lib.hid (show Blk w8 R [.slice (some ⟨bb, ob, none⟩) n cap, .int .i64 (k1 : Int)] 196 by rw [hw8]; exact Hb1.out.keep rfl)
      clear hw8
      have d0 : ∀ w', Later w8.drew w' → w'.cell? ⟨R, 0, none⟩ = some (.slice (some ⟨bb, ob, none⟩) n cap) := fun w' hh => laterC (w := w8) (by simpa using Hb8.out.cell 0) hh
      have d1 : ∀ w', Later w8.drew w' → w'.cell? ⟨R, 1, none⟩ = some (.int .i64 (k1 : Int)) := fun w' hh => laterC (w := w8) (by simpa using Hb8.out.cell 1) hh
      have hcut := (show Bytes F w8 (.slice (some ⟨bb, ob, none⟩) b.length cap) b from HB.out w8 HO8.out).cutI k1 m (by rw [Hn.out]; exact hkm)
      obtain ⟨ad, had⟩ : ∃ ad : Option Addr, (if cap = k1 then some ⟨bb, ob, none⟩ else some ⟨bb, ob + k1, none⟩) = ad := ⟨_, rfl⟩
      rw [had] at hcut
      have d2 : ∀ w', Later w8.drew w' → (convert 57 9 (.slice ad m (cap - k1))).run Tryz.prog w' = .ok (.string ⟨(r.take m).toArray⟩) w' := fun w' hh => by
        rw [Hr1.out]
        exact run_strB (hcut.keep (w' := w') fun q _ hlt => by
          have := hh.block q hlt
          exact this)
      have hb1' : (k1 : Int) ≤ (k1 : Int) + (m : Int) := by omega
      have hb2' : (k1 : Int) + (m : Int) ≤ (cap : Int) := by omega
      have htn : ((k1 : Int) + (m : Int)).toNat - k1 = m := by omega
      clear hcut
      go_wp2_with fail
      refine wp_region_can Later [(0, true), (1, true), (2, true), (3, true), (4, true), (5, true), (6, true), (7, true), (8, true), (9, true), (10, true), (11, true), (12, true), (13, true), (14, true), (15, true), (16, true), (17, true)] (by kernel_rfl) (by kernel_rfl) later_refl later_trans ?_
      repeat (refine can_yes (v := ?_) rfl (wanted_none rfl) (fun w' hC => ?_) (fun K hK => ?_); rotate_left; (focus (go_simp; (try simp (disch := omega) only [IntWalk.i64_in]); first | done | exact rfl)); go_simp; (try simp (disch := omega) only [IntWalk.i64_in]); refine hK _ ?_; clear hK K)
      refine can_nil ?_
      clear d0 d1 d2 had
      obtain ⟨w9, hw9⟩ : ∃ w9, w9 = w8.drew := ⟨_, rfl⟩
      rw [← hw9]
      have HO9 := Lib.hid (show Only (fun q => q = R) w w9 by rw [hw9]; exact ⟨HO8.out.os, HO8.out.tape, HO8.out.output, HO8.out.size, HO8.out.block⟩)
      have hb9 : Blk w9 R [.slice (some ⟨bb, ob, none⟩) n cap, .int .i64 (k1 : Int)] 196 := by rw [hw9]; exact Hb8.out.keep rfl
      obtain ⟨c0, c1⟩ : w9.cell? ⟨R, 0, none⟩ = some (.slice (some ⟨bb, ob, none⟩) n cap) ∧ w9.cell? ⟨R, 1, none⟩ = some (.int .i64 (k1 : Int)) := ⟨by simpa using hb9.cell 0, by simpa using hb9.cell 1⟩
      have fr1 := hb9.free 1
      obtain ⟨w10, hw10⟩ : ∃ w10, w10 = w9.setCell ⟨R, 1, none⟩ (.int .i64 ((k1 : Int) + (m : Int))) := ⟨_, rfl⟩
      have Hb10 := Lib.hid (show Blk w10 R [.slice (some ⟨bb, ob, none⟩) n cap, .int .i64 (((k1 + m : Nat)) : Int)] 196 by rw [hw10]; exact hb9.set 1 _)
      have HO10 := Lib.hid (show Only (fun q => q = R) w w10 by rw [hw10]; exact HO9.out.setCell (.inl rfl) _)
      have Hw10 := Lib.hid hw10
      clear hw9 hb9 hw10
      go_wp2_with fail
      rw [← Hw10.out]
      go_ret
      rw [Hfin.out]
      exact ⟨⟨rfl, k1 + m, by rw [List.length_drop, Hrl.out]; have := Hk1.out; omega, Hb10.out⟩, HO10.out⟩
    · have hmI : (rl : Int) < (m : Int) := by omega
      obtain rfl : ot = none := by
        rw [← Hot.out]
        show (if m ≤ r.length then some (r.take m, r.drop m) else none) = _
        rw [Hrl.out, if_neg hmr]
      go_wp2_with fail
      refine wp_region_can Later [(0, true), (1, true), (2, true), (3, true), (4, true), (5, true), (6, true), (7, true), (8, true), (9, true), (10, true), (11, true), (12, true)] (by kernel_rfl) (by kernel_rfl) later_refl later_trans ?_
      repeat (refine can_yes (v := ?_) rfl (wanted_none rfl) (fun w' hC => ?_) (fun K hK => ?_); rotate_left; (focus (go_simp; (try simp (disch := omega) only [IntWalk.i64_in]); first | done | exact rfl)); go_simp; (try simp (disch := omega) only [IntWalk.i64_in]); refine hK _ ?_; clear hK K)
      refine can_nil ?_
      have HO9 := Lib.hid (show Only (fun q => q = R) w w1.drew from ⟨HO.out.os, HO.out.tape, HO.out.output, HO.out.size, HO.out.block⟩)
      go_wp2_with fail
      exact ⟨rfl, rfl, HO9.out⟩
end Go.Proofs.YtkkacnfpdafadaaGreatDoor

namespace Go.Proofs.YtkkacnfpdafadaaGreatDoor
open Go.RowKit
set_option linter.unusedVariables false
set_option maxRecDepth 20000
attribute [local go_sem] opC upC

def doneP : List PanicEntry := [{ v := .iface 194 (.agg #[]), recovered := true }]
set_option maxRecDepth 100000 in
set_option maxHeartbeats 1000000 in
theorem catchU_fails (g : Nat) (x0 x1 x2 : Value) (t0 t1 t2 : TypeId) (w : World) (h0 : Blk w g [x0] t0) (h1 : Blk w (g + 1) [x1] t1) (h2 : Blk w (g + 2) [x2] t2) :
    CallsD Tryz.prog 141 #[.pointer (some ⟨g, 0, none⟩), .pointer (some ⟨g + 1, 0, none⟩), .pointer (some ⟨g + 2, 0, none⟩)] (.panicking failP) w fun e u' w' =>
      e = .returned (.tuple #[]) ∧ u' = .panicking doneP ∧ Blk w' g [.int .u64 0] t0 ∧ Blk w' (g + 1) [.int .i64 0] t1 ∧ Blk w' (g + 2) [.bool false] t2 ∧ Below g w w' := by
  refine callsD_of_wpS Tryz.func141 rfl fun c₀ cs hu => ?_
  apply wpS_seq
  apply wpS_region
  simp [wpOpsS, go_sem, recoverD, hu, Tryz.ntmps141, Exit.thenS, failP]
  refine wpS_of_wp ?_
  have hta : ∀ w, (Instr.typeAssert (.iface 194 (.agg #[])) 20 194 true).run Tryz.prog w = .ok (.tuple #[.agg #[], .bool true]) w := fun _ => by kernel_rfl
  obtain ⟨wf, hwf⟩ : ∃ wf, wf = w.alloc (.cells #[] 194) := ⟨_, rfl⟩
  have k0 : Blk wf g [x0] t0 := by rw [hwf]; exact h0.alloc _
  have k1 : Blk wf (g + 1) [x1] t1 := by rw [hwf]; exact h1.alloc _
  have k2 : Blk wf (g + 2) [x2] t2 := by rw [hwf]; exact h2.alloc _
  have y0 : wf.cell? ⟨g, 0, none⟩ = some x0 := by simpa using k0.cell 0
  have y1 : wf.cell? ⟨g + 1, 0, none⟩ = some x1 := by simpa using k1.cell 0
  have y2 : wf.cell? ⟨g + 2, 0, none⟩ = some x2 := by simpa using k2.cell 0
  have z0 := k0.free 0
  have z1 := k1.free 0
  have z2 := k2.free 0
  rw [hwf] at y0 y1 y2 z0 z1 z2
  go_wp2_with fail
  rw [← hwf]
  have hb : Below g w wf := by rw [hwf]; exact (Below.refl g w).alloc (Nat.le_of_lt h0.lt) _
  refine ⟨rfl, .panicking doneP, rfl, .tuple #[], by simp [results, Tryz.results141, go_sem], rfl, rfl, ?_, ?_, ?_, ?_⟩
  · exact ((k0.set 0 _).set_other _ (by show g ≠ g + 1; omega)).set_other _ (by show g ≠ g + 2; omega)
  · exact ((k1.set_other _ (by show g + 1 ≠ g; omega)).set 0 _).set_other _ (by show g + 1 ≠ g + 2; omega)
  · exact ((k2.set_other _ (by show g + 2 ≠ g; omega)).set_other _ (by show g + 2 ≠ g + 1; omega)).set 0 _
  · exact ((hb.setCell (p := ⟨g, 0, none⟩) (Nat.le_refl _) _).setCell (p := ⟨g + 1, 0, none⟩) (Nat.le_succ _) _).setCell (p := ⟨g + 2, 0, none⟩) (by show g ≤ g + 2; omega) _
set_option maxRecDepth 100000 in
set_option maxHeartbeats 1000000 in
theorem catchU_idle (p0 p1 p2 : Value) (w : World) :
    CallsD Tryz.prog 141 #[p0, p1, p2] .returning w fun e u' w' => e = .returned (.tuple #[]) ∧ u' = .returning ∧ w' = w := by
  refine callsD_of_wpS Tryz.func141 rfl fun c₀ cs hu => ?_
  apply wpS_seq
  apply wpS_region
  simp [wpOpsS, go_sem, recoverD, hu, Tryz.ntmps141, Exit.thenS]
  refine wpS_of_wp ?_
  go_wp2_with fail
  cases c₀
  simp_all [bodyPostS, results, Tryz.results141, go_sem]
set_option maxRecDepth 100000 in
set_option maxHeartbeats 1000000 in
theorem catchT_fails (g : Nat) (x0 x1 x2 : Value) (t0 t1 t2 : TypeId) (w : World) (h0 : Blk w g [x0] t0) (h1 : Blk w (g + 1) [x1] t1) (h2 : Blk w (g + 2) [x2] t2) :
    CallsD Tryz.prog 150 #[.pointer (some ⟨g, 0, none⟩), .pointer (some ⟨g + 1, 0, none⟩), .pointer (some ⟨g + 2, 0, none⟩)] (.panicking failP) w fun e u' w' =>
      e = .returned (.tuple #[]) ∧ u' = .panicking doneP ∧ Blk w' g [.string ⟨#[]⟩] t0 ∧ Blk w' (g + 1) [.int .i64 0] t1 ∧ Blk w' (g + 2) [.bool false] t2 ∧ Below g w w' := by
  refine callsD_of_wpS Tryz.func150 rfl fun c₀ cs hu => ?_
  apply wpS_seq
  apply wpS_region
  simp [wpOpsS, go_sem, recoverD, hu, Tryz.ntmps150, Exit.thenS, failP]
  refine wpS_of_wp ?_
  have hta : ∀ w, (Instr.typeAssert (.iface 194 (.agg #[])) 20 194 true).run Tryz.prog w = .ok (.tuple #[.agg #[], .bool true]) w := fun _ => by kernel_rfl
  obtain ⟨wf, hwf⟩ : ∃ wf, wf = w.alloc (.cells #[] 194) := ⟨_, rfl⟩
  have k0 : Blk wf g [x0] t0 := by rw [hwf]; exact h0.alloc _
  have k1 : Blk wf (g + 1) [x1] t1 := by rw [hwf]; exact h1.alloc _
  have k2 : Blk wf (g + 2) [x2] t2 := by rw [hwf]; exact h2.alloc _
  have y0 : wf.cell? ⟨g, 0, none⟩ = some x0 := by simpa using k0.cell 0
  have y1 : wf.cell? ⟨g + 1, 0, none⟩ = some x1 := by simpa using k1.cell 0
  have y2 : wf.cell? ⟨g + 2, 0, none⟩ = some x2 := by simpa using k2.cell 0
  have z0 := k0.free 0
  have z1 := k1.free 0
  have z2 := k2.free 0
  rw [hwf] at y0 y1 y2 z0 z1 z2
  go_wp2_with fail
  rw [← hwf]
  have hb : Below g w wf := by rw [hwf]; exact (Below.refl g w).alloc (Nat.le_of_lt h0.lt) _
  refine ⟨rfl, .panicking doneP, rfl, .tuple #[], by simp [results, Tryz.results150, go_sem], rfl, rfl, ?_, ?_, ?_, ?_⟩
  · exact ((k0.set 0 _).set_other _ (by show g ≠ g + 1; omega)).set_other _ (by show g ≠ g + 2; omega)
  · exact ((k1.set_other _ (by show g + 1 ≠ g; omega)).set 0 _).set_other _ (by show g + 1 ≠ g + 2; omega)
  · exact ((k2.set_other _ (by show g + 2 ≠ g; omega)).set_other _ (by show g + 2 ≠ g + 1; omega)).set 0 _
  · exact ((hb.setCell (p := ⟨g, 0, none⟩) (Nat.le_refl _) _).setCell (p := ⟨g + 1, 0, none⟩) (Nat.le_succ _) _).setCell (p := ⟨g + 2, 0, none⟩) (by show g ≤ g + 2; omega) _
set_option maxRecDepth 100000 in
set_option maxHeartbeats 1000000 in
theorem catchT_idle (p0 p1 p2 : Value) (w : World) :
    CallsD Tryz.prog 150 #[p0, p1, p2] .returning w fun e u' w' => e = .returned (.tuple #[]) ∧ u' = .returning ∧ w' = w := by
  refine callsD_of_wpS Tryz.func150 rfl fun c₀ cs hu => ?_
  apply wpS_seq
  apply wpS_region
  simp [wpOpsS, go_sem, recoverD, hu, Tryz.ntmps150, Exit.thenS]
  refine wpS_of_wp ?_
  go_wp2_with fail
  cases c₀
  simp_all [bodyPostS, results, Tryz.results150, go_sem]
end Go.Proofs.YtkkacnfpdafadaaGreatDoor
