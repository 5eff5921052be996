/- A sector is copied on both sides of a pair; any act of a pair; a pair is made. -/
import Derived.Test.YtmimplmeccoahaaDoorP9
namespace Go.Proofs.YtmimplmeccoahaaDoor
open Go.RowKit
set_option linter.unusedVariables false
set_option maxRecDepth 20000
attribute [local go_sem] opC upC
attribute [local go_sem ↓] seal_append



set_option maxRecDepth 100000 in
set_option maxHeartbeats 1500000 in
theorem pcopy_any (w : World) (p lo : Nat) (k : PK) (M : MD) (o : Option MJ) (h : Pair2 w p lo k M M o o) (hS : 0 < M.S.length) (hdn : M.down = false) (hw : M.writes < 4611686018427387904) (kind an am : Int) (v : Value) (l : List UInt8) (G : Blks) (hB : Bytes G w v l) (hG : ∀ b, G b → b < lo) (han : 0 ≤ an ∧ an ≤ 65535) (ham : 0 ≤ am ∧ am ≤ 65535) :
    Calls Tryd.prog 69 #[.pointer (some ⟨p, 0, none⟩), .agg #[.int .u8 kind, .int .u16 an, .int .u16 am, v]] w fun e w' => e = .returned (.tuple #[]) ∧ (∃ M', PairX w' p lo M' o ∧ M'.S.length = M.S.length ∧ M'.writes ≤ M.writes + 1) ∧ Below lo w w' := by
  obtain ⟨n, hn⟩ : ∃ n, M.S.length = n := ⟨_, rfl⟩
  have HkF := Lib.hid h.fF; have HkG := Lib.hid h.fG
  have hpz : p < w.heap.size := h.blk.lt
  have hlo := h.size
  obtain ⟨va, vc, rfl, -⟩ := id hB
  obtain ⟨wb, hwb⟩ : ∃ wb, wb = w.alloc (.cells #[.int .u8 kind, .int .u16 an, .int .u16 am, .slice va l.length vc] 32) := ⟨_, rfl⟩
  have hbb : Below w.heap.size w wb := by rw [hwb]; exact kept_alloc _ _
  have hzb : wb.heap.size = w.heap.size + 1 := by rw [hwb]; simp
  have hbox : Blk wb w.heap.size [.int .u8 kind, .int .u16 an, .int .u16 am, .slice va l.length vc] 32 := by rw [hwb]; exact Blk.new _ _ _
  have hpb := h.kept hbb
  have z0 : w.cell? ⟨p, 0, none⟩ = some (.pointer (some ⟨k.d, 0, none⟩)) := by simpa using h.blk.cell 0
  have z0b : wb.cell? ⟨p, 0, none⟩ = some (.pointer (some ⟨k.d, 0, none⟩)) := by simpa using hpb.blk.cell 0
  obtain ⟨K, hK0, hKF, hd, -⟩ := hpb.splitP
  have hle : M.S.length ≤ 65536 := hd.le
  rw [hn] at hle hS
  have HN := Lib.hid (size_any wb K M hd)
  rw [hn, hK0] at HN
  have b1 := hbox.cell 1
  have b2 := hbox.cell 2
  have b3 := hbox.cell 3
  simp at b1 b2 b3
  have HS := Lib.hid (sector35_any wb _ _ l (hB.keep fun b hb hlt => hbb.block b hlt))
  have Hwb := Lib.hid hwb; have Hbb := Lib.hid hbb; have Hbox := Lib.hid hbox; have Hpb := Lib.hid hpb; have Hd := Lib.hid hd; have Hn := Lib.hid hn; have HzB := Lib.hid hzb
  clear hwb hbb hbox hpb hd hn hzb h hB
  go_enter Tryd.func69, Tryd.ntmps69
  go_wp2_with fail
  rw [← Hwb.out]
  refine HN.out.mono ?_
  rintro e w1 ⟨rfl, rfl⟩
  go_wp2_with fail
  refine HS.out.mono ?_
  rintro e w2 ⟨rfl, hq2, hb2⟩
  have hbox2 : Blk w2 w.heap.size _ _ := Hbox.out.keep (hb2.block _ Hbox.out.lt)
  have b1 : w2.cell? ⟨w.heap.size, 1, none⟩ = some (.int .u16 an) := by simpa using hbox2.cell 1
  have b2 : w2.cell? ⟨w.heap.size, 2, none⟩ = some (.int .u16 am) := by simpa using hbox2.cell 2
  have hz2 := hb2.size
  have hb02 : Below w.heap.size w w2 := Hbb.out.trans (hb2.mono Hbb.out.size)
  have hp2 := Hpb.out.kept hb2
  have z0 : w2.cell? ⟨p, 0, none⟩ = some (.pointer (some ⟨k.d, 0, none⟩)) := by simpa using hp2.blk.cell 0
  have hmod : 0 ≤ am % (n : Int) := Int.emod_nonneg _ (by omega)
  have hmodlt : am % (n : Int) < (n : Int) := Int.emod_lt_of_pos _ (by omega)
  have HRd := Lib.hid (read_int w2.drew K M (am % (n : Int)) ((Hd.out.kept hb2).kept (Below.refl _ _).drew) hmod (by rw [Hn.out]; exact hmodlt) hdn)
  rw [hK0] at HRd
  clear HS HN
  by_cases h4 : am % 4 = 0
  · obtain ⟨s, hs⟩ : ∃ s, sec64 l = s := ⟨_, rfl⟩
    have Hs64 := Lib.hid (show s.length = 64 by rw [← hs]; exact sec64_length l)
    rw [hs] at hq2
    have Hs3 := Lib.hid (blk_bytes64 hq2 Hs64.out (fun b => w.heap.size ≤ b ∧ b < w2.heap.size) ⟨by have := Hbb.out.size; omega, hq2.lt⟩)
    have Hp3 := Lib.hid hp2; have Hb3 := Lib.hid hb02; have Hbox3 := Lib.hid hbox2
    have hbz4 : (am % 4 != 0) = false := by simp [h4]
    clear hq2 hp2 hb02 hbox2 hs
    obtain ⟨ya, yc, w4, hcl, hown4, hk4, hg4, hby4⟩ := run_clone w2 _ _ s Hs3.out (by rw [Hs64.out]; omega)
    rw [Hs64.out] at hcl hby4
    clear hown4 hg4
    have hz4 := hk4.size
    have hp4 := Hp3.out.kept hk4
    have hbw4 : Below w.heap.size w w4 := Hb3.out.trans (hk4.mono Hb3.out.size)
    have hbox4 : Blk w4 w.heap.size _ _ := Hbox3.out.keep (hk4.block _ (by have := Hbox3.out.lt; omega))
    have hs4 : Bytes (fun b => w.heap.size ≤ b ∧ b < w2.heap.size) w4 (.slice (some ⟨wb.heap.size, 0, none⟩) 64 64) s := Hs3.out.keep fun b hb hlt => hk4.block b hlt
    have z0 : w4.cell? ⟨p, 0, none⟩ = some (.pointer (some ⟨k.d, 0, none⟩)) := by simpa using hp4.blk.cell 0
    have c1 : w4.cell? ⟨w.heap.size, 1, none⟩ = some (.int .u16 an) := by simpa using hbox4.cell 1
    have hmod : 0 ≤ an % (n : Int) := Int.emod_nonneg _ (by omega)
    have hmodlt : an % (n : Int) < (n : Int) := Int.emod_lt_of_pos _ (by omega)
    obtain ⟨q, hq⟩ : ∃ q : Nat, an % (n : Int) = (q : Int) := Int.eq_ofNat_of_zero_le hmod
    have hqn : q < n := by omega
    have HW := Lib.hid (wr2P w4.drew p lo k M M o o (hp4.kept (Below.refl _ _).drew) q (by rw [Hn.out]; exact hqn) hw _ _ s (hs4.keep (w' := w4.drew) fun b _ _ => rfl) Hs64.out (fun b hb hx => by have := (HkF.out b hx).2.2.2; have := hb.1; omega))
    have HQ := Lib.hid hq
    have Hp4 := Lib.hid hp4; have Hbw4 := Lib.hid hbw4; have Hby4 := Lib.hid hby4; have Hbox4 := Lib.hid hbox4; have Hz4 := Lib.hid hz4
    have hpz4 : p < w4.heap.size := hp4.blk.lt
    have hbz4' : w.heap.size < w4.heap.size := hbox4.lt
    have r0 : ∀ w', LaterF (allBut p w.heap.size) w4.drew w' → w'.cell? ⟨p, 0, none⟩ = some (.pointer (some ⟨k.d, 0, none⟩)) := fun w' hh => laterX_cell hh hpz4 (not_allBut_l _ _) 0 z0
    have r1 : ∀ w', LaterF (allBut p w.heap.size) w4.drew w' → w'.cell? ⟨w.heap.size, 1, none⟩ = some (.int .u16 an) := fun w' hh => laterX_cell hh hbz4' (not_allBut_r _ _) 1 c1
    clear hp4 hbw4 hby4 hbox4 hk4 hs4 hz4 b1 z0 c1
    go_wp2_with fail
    refine wp_region_can (LaterF (allBut p w.heap.size)) [(0, true), (1, true), (2, true), (3, true), (4, true), (5, true), (6, true), (7, true), (8, true), (9, true), (10, false)] (by kernel_rfl) (by kernel_rfl) (laterF_refl _) (laterF_trans _) ?_
    clear hcl
    have hn0 : ¬ ((n : Int) = 0) := by omega
    have hnn : ¬ (n = 0) := by omega
    repeat (first
      | (refine can_yes (v := ?_) rfl (wanted_none rfl) (fun w' hC => ?_) (fun K hK => ?_); rotate_left; (focus (go_simp; (try simp (disch := omega) only [IntWalk.i64_in]); (try simp (disch := omega) only [IntWalk.u32_in]); (try simp (disch := omega) only [IntWalk.u8_in]); (try simp (disch := omega) only [IntWalk.i64_quo]); (try simp (disch := omega) only [IntWalk.rem_in]); first | done | exact rfl)); go_simp; (try simp (disch := omega) only [IntWalk.i64_in]); (try simp (disch := omega) only [IntWalk.u32_in]); (try simp (disch := omega) only [IntWalk.u8_in]); (try simp (disch := omega) only [IntWalk.i64_quo]); (try simp (disch := omega) only [IntWalk.rem_in]); refine hK _ ?_; clear hK K)
      | (refine can_guard rfl (fun A B hA hB => ?_); go_simp; first | (refine hA ⟨?_, fun w' hC => ?_, fun K hK => ?_⟩; rotate_left; (focus (go_simp; (try simp (disch := omega) only [IntWalk.i64_in]); (try simp (disch := omega) only [IntWalk.u32_in]); (try simp (disch := omega) only [IntWalk.u8_in]); (try simp (disch := omega) only [IntWalk.i64_quo]); (try simp (disch := omega) only [IntWalk.rem_in]); first | done | exact rfl)); go_simp; (try simp (disch := omega) only [IntWalk.i64_in]); (try simp (disch := omega) only [IntWalk.u32_in]); (try simp (disch := omega) only [IntWalk.u8_in]); (try simp (disch := omega) only [IntWalk.i64_quo]); (try simp (disch := omega) only [IntWalk.rem_in]); refine hK _ ?_; clear hK K hA hB A B) | (refine hB (fun K hK => ?_); go_simp; (try simp (disch := omega) only [IntWalk.i64_in]); (try simp (disch := omega) only [IntWalk.u32_in]); (try simp (disch := omega) only [IntWalk.u8_in]); (try simp (disch := omega) only [IntWalk.i64_quo]); (try simp (disch := omega) only [IntWalk.rem_in]); refine hK _ ?_; clear hK K hA hB A B))
      | (refine can_guard_go rfl (fun A B hA hB => ?_); go_simp; refine hB (fun K hK => ?_); go_simp; (try simp (disch := omega) only [IntWalk.i64_in]); (try simp (disch := omega) only [IntWalk.u32_in]); (try simp (disch := omega) only [IntWalk.u8_in]); (try simp (disch := omega) only [IntWalk.i64_quo]); (try simp (disch := omega) only [IntWalk.rem_in]); refine hK _ ?_; clear hK K hA hB A B))
    refine can_go rfl rfl (fun KK hK => ?_)
    go_simp
    refine HW.out.mono ?_
    rintro e w5 ⟨rfl, F', hp5, hF5, ho5⟩
    refine ⟨_, rfl, ho5.mono (fun b hb => ⟨(HkF.out b hb).2.1, by have := (HkF.out b hb).2.2.2; omega⟩), hK _ _ ?_⟩
    clear hK KK r0 r1
    go_simp
    have ho5' : Only k.F w4 w5 := ⟨ho5.os, ho5.tape, ho5.output, ho5.size, ho5.block⟩
    repeat (first
      | (refine can_yes (v := ?_) rfl (wanted_none rfl) (fun w' hC => ?_) (fun K hK => ?_); rotate_left; (focus (go_simp; (try simp (disch := omega) only [IntWalk.i64_in]); (try simp (disch := omega) only [IntWalk.u32_in]); (try simp (disch := omega) only [IntWalk.u8_in]); (try simp (disch := omega) only [IntWalk.i64_quo]); (try simp (disch := omega) only [IntWalk.rem_in]); first | done | exact rfl)); go_simp; (try simp (disch := omega) only [IntWalk.i64_in]); (try simp (disch := omega) only [IntWalk.u32_in]); (try simp (disch := omega) only [IntWalk.u8_in]); (try simp (disch := omega) only [IntWalk.i64_quo]); (try simp (disch := omega) only [IntWalk.rem_in]); refine hK _ ?_; clear hK K)
      | (refine can_guard rfl (fun A B hA hB => ?_); go_simp; first | (refine hA ⟨?_, fun w' hC => ?_, fun K hK => ?_⟩; rotate_left; (focus (go_simp; (try simp (disch := omega) only [IntWalk.i64_in]); (try simp (disch := omega) only [IntWalk.u32_in]); (try simp (disch := omega) only [IntWalk.u8_in]); (try simp (disch := omega) only [IntWalk.i64_quo]); (try simp (disch := omega) only [IntWalk.rem_in]); first | done | exact rfl)); go_simp; (try simp (disch := omega) only [IntWalk.i64_in]); (try simp (disch := omega) only [IntWalk.u32_in]); (try simp (disch := omega) only [IntWalk.u8_in]); (try simp (disch := omega) only [IntWalk.i64_quo]); (try simp (disch := omega) only [IntWalk.rem_in]); refine hK _ ?_; clear hK K hA hB A B) | (refine hB (fun K hK => ?_); go_simp; (try simp (disch := omega) only [IntWalk.i64_in]); (try simp (disch := omega) only [IntWalk.u32_in]); (try simp (disch := omega) only [IntWalk.u8_in]); (try simp (disch := omega) only [IntWalk.i64_quo]); (try simp (disch := omega) only [IntWalk.rem_in]); refine hK _ ?_; clear hK K hA hB A B))
      | (refine can_guard_go rfl (fun A B hA hB => ?_); go_simp; refine hB (fun K hK => ?_); go_simp; (try simp (disch := omega) only [IntWalk.i64_in]); (try simp (disch := omega) only [IntWalk.u32_in]); (try simp (disch := omega) only [IntWalk.u8_in]); (try simp (disch := omega) only [IntWalk.i64_quo]); (try simp (disch := omega) only [IntWalk.rem_in]); refine hK _ ?_; clear hK K hA hB A B))
    refine can_nil ?_
    have z2 : w5.cell? ⟨p, 2, none⟩ = some (.pointer (some ⟨k.e, 0, none⟩)) := by simpa using hp5.blk.cell 2
    have hbox5 : Blk w5 w.heap.size _ _ := Hbox4.out.keep (ho5'.block _ Hbox4.out.lt (fun hx => by have := (HkF.out _ hx).2.2.2; omega))
    have c15 : w5.cell? ⟨w.heap.size, 1, none⟩ = some (.int .u16 an) := by simpa using hbox5.cell 1
    have hby5 : Bytes (fun b => w2.heap.size ≤ b ∧ b < w4.heap.size) w5.drew (.slice ya 64 yc) s := ((Hby4.out.keep (w' := w5) fun b hb hlt => ho5'.block b hlt (fun hx => by have := (HkF.out _ hx).2.2.2; have := hb.1; have := Hb3.out.size; omega)).mono fun b hb => ⟨hb.1, hb.2.1⟩).keep (w' := w5.drew) fun b _ _ => rfl
    have HW2 := Lib.hid (wr2R w5.drew p lo _ _ M o o (hp5.kept (Below.refl _ _).drew) q (by rw [Hn.out]; exact hqn) hw _ _ s hby5 Hs64.out (fun b hb hx => by have := (HkG.out b hx).2.2; have := hb.1; have := Hb3.out.size; omega))
    have hbw5 : Below lo w w5 := (Hbw4.out.mono (by omega)).trans (ho5'.below (fun b hb => (HkF.out b hb).1) (by have := Hbw4.out.size; omega))
    have hpz5 : p < w5.heap.size := hp5.blk.lt
    have hbz5 : w.heap.size < w5.heap.size := hbox5.lt
    have r2 : ∀ w', LaterF (allBut p w.heap.size) w5.drew w' → w'.cell? ⟨p, 2, none⟩ = some (.pointer (some ⟨k.e, 0, none⟩)) := fun w' hh => laterX_cell hh hpz5 (not_allBut_l _ _) 2 z2
    have r1 : ∀ w', LaterF (allBut p w.heap.size) w5.drew w' → w'.cell? ⟨w.heap.size, 1, none⟩ = some (.int .u16 an) := fun w' hh => laterX_cell hh hbz5 (not_allBut_r _ _) 1 c15
    have Hbw5 := Lib.hid hbw5
    clear HW hp5 hF5 ho5 ho5' hbox5 hby5 hbw5 z2 c15
    go_wp2_with fail
    refine wp_region_can (LaterF (allBut p w.heap.size)) [(0, true), (1, true), (2, true), (3, true), (4, true), (5, true), (6, true), (7, true), (8, true), (9, true), (10, false)] (by kernel_rfl) (by kernel_rfl) (laterF_refl _) (laterF_trans _) ?_
    repeat (first
      | (refine can_yes (v := ?_) rfl (wanted_none rfl) (fun w' hC => ?_) (fun K hK => ?_); rotate_left; (focus (go_simp; (try simp (disch := omega) only [IntWalk.i64_in]); (try simp (disch := omega) only [IntWalk.u32_in]); (try simp (disch := omega) only [IntWalk.u8_in]); (try simp (disch := omega) only [IntWalk.i64_quo]); (try simp (disch := omega) only [IntWalk.rem_in]); first | done | exact rfl)); go_simp; (try simp (disch := omega) only [IntWalk.i64_in]); (try simp (disch := omega) only [IntWalk.u32_in]); (try simp (disch := omega) only [IntWalk.u8_in]); (try simp (disch := omega) only [IntWalk.i64_quo]); (try simp (disch := omega) only [IntWalk.rem_in]); refine hK _ ?_; clear hK K)
      | (refine can_guard rfl (fun A B hA hB => ?_); go_simp; first | (refine hA ⟨?_, fun w' hC => ?_, fun K hK => ?_⟩; rotate_left; (focus (go_simp; (try simp (disch := omega) only [IntWalk.i64_in]); (try simp (disch := omega) only [IntWalk.u32_in]); (try simp (disch := omega) only [IntWalk.u8_in]); (try simp (disch := omega) only [IntWalk.i64_quo]); (try simp (disch := omega) only [IntWalk.rem_in]); first | done | exact rfl)); go_simp; (try simp (disch := omega) only [IntWalk.i64_in]); (try simp (disch := omega) only [IntWalk.u32_in]); (try simp (disch := omega) only [IntWalk.u8_in]); (try simp (disch := omega) only [IntWalk.i64_quo]); (try simp (disch := omega) only [IntWalk.rem_in]); refine hK _ ?_; clear hK K hA hB A B) | (refine hB (fun K hK => ?_); go_simp; (try simp (disch := omega) only [IntWalk.i64_in]); (try simp (disch := omega) only [IntWalk.u32_in]); (try simp (disch := omega) only [IntWalk.u8_in]); (try simp (disch := omega) only [IntWalk.i64_quo]); (try simp (disch := omega) only [IntWalk.rem_in]); refine hK _ ?_; clear hK K hA hB A B))
      | (refine can_guard_go rfl (fun A B hA hB => ?_); go_simp; refine hB (fun K hK => ?_); go_simp; (try simp (disch := omega) only [IntWalk.i64_in]); (try simp (disch := omega) only [IntWalk.u32_in]); (try simp (disch := omega) only [IntWalk.u8_in]); (try simp (disch := omega) only [IntWalk.i64_quo]); (try simp (disch := omega) only [IntWalk.rem_in]); refine hK _ ?_; clear hK K hA hB A B))
    refine can_go rfl rfl (fun KK hK => ?_)
    go_simp
    refine HW2.out.mono ?_
    rintro e w6 ⟨rfl, G', hp6, hG6, ho6⟩
    refine ⟨_, rfl, ho6.mono (fun b hb => ⟨(HkG.out b hb).2.1, by have := (HkG.out b hb).2.2; omega⟩), hK _ _ ?_⟩
    clear hK KK r2 r1
    go_simp
    repeat (first
      | (refine can_yes (v := ?_) rfl (wanted_none rfl) (fun w' hC => ?_) (fun K hK => ?_); rotate_left; (focus (go_simp; (try simp (disch := omega) only [IntWalk.i64_in]); (try simp (disch := omega) only [IntWalk.u32_in]); (try simp (disch := omega) only [IntWalk.u8_in]); (try simp (disch := omega) only [IntWalk.i64_quo]); (try simp (disch := omega) only [IntWalk.rem_in]); first | done | exact rfl)); go_simp; (try simp (disch := omega) only [IntWalk.i64_in]); (try simp (disch := omega) only [IntWalk.u32_in]); (try simp (disch := omega) only [IntWalk.u8_in]); (try simp (disch := omega) only [IntWalk.i64_quo]); (try simp (disch := omega) only [IntWalk.rem_in]); refine hK _ ?_; clear hK K)
      | (refine can_guard rfl (fun A B hA hB => ?_); go_simp; first | (refine hA ⟨?_, fun w' hC => ?_, fun K hK => ?_⟩; rotate_left; (focus (go_simp; (try simp (disch := omega) only [IntWalk.i64_in]); (try simp (disch := omega) only [IntWalk.u32_in]); (try simp (disch := omega) only [IntWalk.u8_in]); (try simp (disch := omega) only [IntWalk.i64_quo]); (try simp (disch := omega) only [IntWalk.rem_in]); first | done | exact rfl)); go_simp; (try simp (disch := omega) only [IntWalk.i64_in]); (try simp (disch := omega) only [IntWalk.u32_in]); (try simp (disch := omega) only [IntWalk.u8_in]); (try simp (disch := omega) only [IntWalk.i64_quo]); (try simp (disch := omega) only [IntWalk.rem_in]); refine hK _ ?_; clear hK K hA hB A B) | (refine hB (fun K hK => ?_); go_simp; (try simp (disch := omega) only [IntWalk.i64_in]); (try simp (disch := omega) only [IntWalk.u32_in]); (try simp (disch := omega) only [IntWalk.u8_in]); (try simp (disch := omega) only [IntWalk.i64_quo]); (try simp (disch := omega) only [IntWalk.rem_in]); refine hK _ ?_; clear hK K hA hB A B))
      | (refine can_guard_go rfl (fun A B hA hB => ?_); go_simp; refine hB (fun K hK => ?_); go_simp; (try simp (disch := omega) only [IntWalk.i64_in]); (try simp (disch := omega) only [IntWalk.u32_in]); (try simp (disch := omega) only [IntWalk.u8_in]); (try simp (disch := omega) only [IntWalk.i64_quo]); (try simp (disch := omega) only [IntWalk.rem_in]); refine hK _ ?_; clear hK K hA hB A B))
    refine can_nil ?_
    have hbw6 : Below lo w w6 := (Hbw5.out.drew).trans (ho6.below (fun b hb => (HkG.out b hb).1) (by have := Hbw5.out.size; show lo ≤ w5.heap.size; omega))
    have Hp6 := Lib.hid hp6; have Hbw6 := Lib.hid hbw6
    clear HW2 hp6 hG6 ho6 hbw6
    go_wp2_with fail
    go_end0
    have hl := wr_len M q s
    exact ⟨rfl, ⟨_, ⟨_, Hp6.out.one⟩, hl.1, hl.2⟩, Hbw6.out⟩
  · have hbz4 : (am % 4 != 0) = true := by simp [h4]
    have hn0 : ¬ ((n : Int) = 0) := by omega
    have hnn : ¬ (n = 0) := by omega
    have r0 : ∀ w', Later w2.drew w' → w'.cell? ⟨p, 0, none⟩ = some (.pointer (some ⟨k.d, 0, none⟩)) := fun w' hh => later_cell z0 hh
    have r2 : ∀ w', Later w2.drew w' → w'.cell? ⟨w.heap.size, 2, none⟩ = some (.int .u16 am) := fun w' hh => later_cell b2 hh
    go_wp2_with fail
    refine wp_region_can Later [(0, true), (1, true), (2, true), (3, true), (4, true), (5, true), (6, true), (7, true), (8, true), (9, false), (10, true), (11, true), (12, true), (13, true)] (by kernel_rfl) (by kernel_rfl) later_refl later_trans ?_
    repeat (first
      | (refine can_yes (v := ?_) rfl (wanted_none rfl) (fun w' hC => ?_) (fun K hK => ?_); rotate_left; (focus (go_simp; (try simp (disch := omega) only [IntWalk.i64_in]); (try simp (disch := omega) only [IntWalk.u32_in]); (try simp (disch := omega) only [IntWalk.u8_in]); (try simp (disch := omega) only [IntWalk.i64_quo]); (try simp (disch := omega) only [IntWalk.rem_in]); first | done | exact rfl)); go_simp; (try simp (disch := omega) only [IntWalk.i64_in]); (try simp (disch := omega) only [IntWalk.u32_in]); (try simp (disch := omega) only [IntWalk.u8_in]); (try simp (disch := omega) only [IntWalk.i64_quo]); (try simp (disch := omega) only [IntWalk.rem_in]); refine hK _ ?_; clear hK K)
      | (refine can_guard rfl (fun A B hA hB => ?_); go_simp; first | (refine hA ⟨?_, fun w' hC => ?_, fun K hK => ?_⟩; rotate_left; (focus (go_simp; (try simp (disch := omega) only [IntWalk.i64_in]); (try simp (disch := omega) only [IntWalk.u32_in]); (try simp (disch := omega) only [IntWalk.u8_in]); (try simp (disch := omega) only [IntWalk.i64_quo]); (try simp (disch := omega) only [IntWalk.rem_in]); first | done | exact rfl)); go_simp; (try simp (disch := omega) only [IntWalk.i64_in]); (try simp (disch := omega) only [IntWalk.u32_in]); (try simp (disch := omega) only [IntWalk.u8_in]); (try simp (disch := omega) only [IntWalk.i64_quo]); (try simp (disch := omega) only [IntWalk.rem_in]); refine hK _ ?_; clear hK K hA hB A B) | (refine hB (fun K hK => ?_); go_simp; (try simp (disch := omega) only [IntWalk.i64_in]); (try simp (disch := omega) only [IntWalk.u32_in]); (try simp (disch := omega) only [IntWalk.u8_in]); (try simp (disch := omega) only [IntWalk.i64_quo]); (try simp (disch := omega) only [IntWalk.rem_in]); refine hK _ ?_; clear hK K hA hB A B))
      | (refine can_guard_go rfl (fun A B hA hB => ?_); go_simp; refine hB (fun K hK => ?_); go_simp; (try simp (disch := omega) only [IntWalk.i64_in]); (try simp (disch := omega) only [IntWalk.u32_in]); (try simp (disch := omega) only [IntWalk.u8_in]); (try simp (disch := omega) only [IntWalk.i64_quo]); (try simp (disch := omega) only [IntWalk.rem_in]); refine hK _ ?_; clear hK K hA hB A B))
    refine can_go rfl rfl (fun KK hK => ?_)
    go_simp
    refine HRd.out.mono ?_
    rintro e w3 ⟨r, rfl, hown, hb3⟩
    refine ⟨_, rfl, hb3, hK _ _ ?_⟩
    clear hK KK r0 r2
    go_simp
    repeat (first
      | (refine can_yes (v := ?_) rfl (wanted_none rfl) (fun w' hC => ?_) (fun K hK => ?_); rotate_left; (focus (go_simp; (try simp (disch := omega) only [IntWalk.i64_in]); (try simp (disch := omega) only [IntWalk.u32_in]); (try simp (disch := omega) only [IntWalk.u8_in]); (try simp (disch := omega) only [IntWalk.i64_quo]); (try simp (disch := omega) only [IntWalk.rem_in]); first | done | exact rfl)); go_simp; (try simp (disch := omega) only [IntWalk.i64_in]); (try simp (disch := omega) only [IntWalk.u32_in]); (try simp (disch := omega) only [IntWalk.u8_in]); (try simp (disch := omega) only [IntWalk.i64_quo]); (try simp (disch := omega) only [IntWalk.rem_in]); refine hK _ ?_; clear hK K)
      | (refine can_guard rfl (fun A B hA hB => ?_); go_simp; first | (refine hA ⟨?_, fun w' hC => ?_, fun K hK => ?_⟩; rotate_left; (focus (go_simp; (try simp (disch := omega) only [IntWalk.i64_in]); (try simp (disch := omega) only [IntWalk.u32_in]); (try simp (disch := omega) only [IntWalk.u8_in]); (try simp (disch := omega) only [IntWalk.i64_quo]); (try simp (disch := omega) only [IntWalk.rem_in]); first | done | exact rfl)); go_simp; (try simp (disch := omega) only [IntWalk.i64_in]); (try simp (disch := omega) only [IntWalk.u32_in]); (try simp (disch := omega) only [IntWalk.u8_in]); (try simp (disch := omega) only [IntWalk.i64_quo]); (try simp (disch := omega) only [IntWalk.rem_in]); refine hK _ ?_; clear hK K hA hB A B) | (refine hB (fun K hK => ?_); go_simp; (try simp (disch := omega) only [IntWalk.i64_in]); (try simp (disch := omega) only [IntWalk.u32_in]); (try simp (disch := omega) only [IntWalk.u8_in]); (try simp (disch := omega) only [IntWalk.i64_quo]); (try simp (disch := omega) only [IntWalk.rem_in]); refine hK _ ?_; clear hK K hA hB A B))
      | (refine can_guard_go rfl (fun A B hA hB => ?_); go_simp; refine hB (fun K hK => ?_); go_simp; (try simp (disch := omega) only [IntWalk.i64_in]); (try simp (disch := omega) only [IntWalk.u32_in]); (try simp (disch := omega) only [IntWalk.u8_in]); (try simp (disch := omega) only [IntWalk.i64_quo]); (try simp (disch := omega) only [IntWalk.rem_in]); refine hK _ ?_; clear hK K hA hB A B))
    refine can_nil ?_
    replace hb3 : Below w2.heap.size w2 w3 := (Below.refl _ _).drew.trans hb3
    obtain ⟨s, hs⟩ : ∃ s, M.S[(am % (n : Int)).toNat]'(by rw [Hn.out]; omega) = s := ⟨_, rfl⟩
    rw [hs] at hown
    have hs64 : s.length = 64 := by rw [← hs]; obtain ⟨L, _, hS⟩ := Hd.out.secs; exact hS.2.2 _ (List.getElem_mem _)
    rw [← hs64] at hown
    have hby := owns_bytes hown
    obtain ⟨xa, xc, rfl⟩ := owns_shape hown
    rw [hs64] at hby ⊢
    have Hs64 := Lib.hid hs64
    have Hs3 := Lib.hid ((hby.mono fun b hb => ⟨by have h9 : w2.heap.size ≤ b := hb.1; have := Hbb.out.size; omega, hb.2.1⟩ : Bytes (fun b => w.heap.size ≤ b ∧ b < w3.heap.size) w3 (.slice xa 64 xc) s))
    have Hp3 := Lib.hid (hp2.kept hb3); have Hb3 := Lib.hid (hb02.trans (hb3.mono (by have := Hbb.out.size; omega)))
    have Hbox3 := Lib.hid (hbox2.keep (hb3.block _ hbox2.lt))
    clear hs hs64 hown hby hp2 hb02 hbox2 hb3 HRd hq2 z0 b1 b2
    obtain ⟨ya, yc, w4, hcl, hown4, hk4, hg4, hby4⟩ := run_clone w3 _ _ s Hs3.out (by rw [Hs64.out]; omega)
    rw [Hs64.out] at hcl hby4
    clear hown4 hg4
    have hz4 := hk4.size
    have hp4 := Hp3.out.kept hk4
    have hbw4 : Below w.heap.size w w4 := Hb3.out.trans (hk4.mono Hb3.out.size)
    have hbox4 : Blk w4 w.heap.size _ _ := Hbox3.out.keep (hk4.block _ (by have := Hbox3.out.lt; omega))
    have hs4 : Bytes (fun b => w.heap.size ≤ b ∧ b < w3.heap.size) w4 (.slice xa 64 xc) s := Hs3.out.keep fun b hb hlt => hk4.block b hlt
    have z0 : w4.cell? ⟨p, 0, none⟩ = some (.pointer (some ⟨k.d, 0, none⟩)) := by simpa using hp4.blk.cell 0
    have c1 : w4.cell? ⟨w.heap.size, 1, none⟩ = some (.int .u16 an) := by simpa using hbox4.cell 1
    have hmod : 0 ≤ an % (n : Int) := Int.emod_nonneg _ (by omega)
    have hmodlt : an % (n : Int) < (n : Int) := Int.emod_lt_of_pos _ (by omega)
    obtain ⟨q, hq⟩ : ∃ q : Nat, an % (n : Int) = (q : Int) := Int.eq_ofNat_of_zero_le hmod
    have hqn : q < n := by omega
    have HW := Lib.hid (wr2P w4.drew p lo k M M o o (hp4.kept (Below.refl _ _).drew) q (by rw [Hn.out]; exact hqn) hw _ _ s (hs4.keep (w' := w4.drew) fun b _ _ => rfl) Hs64.out (fun b hb hx => by have := (HkF.out b hx).2.2.2; have := hb.1; omega))
    have HQ := Lib.hid hq
    have Hp4 := Lib.hid hp4; have Hbw4 := Lib.hid hbw4; have Hby4 := Lib.hid hby4; have Hbox4 := Lib.hid hbox4; have Hz4 := Lib.hid hz4
    have hpz4 : p < w4.heap.size := hp4.blk.lt
    have hbz4' : w.heap.size < w4.heap.size := hbox4.lt
    have r0 : ∀ w', LaterF (allBut p w.heap.size) w4.drew w' → w'.cell? ⟨p, 0, none⟩ = some (.pointer (some ⟨k.d, 0, none⟩)) := fun w' hh => laterX_cell hh hpz4 (not_allBut_l _ _) 0 z0
    have r1 : ∀ w', LaterF (allBut p w.heap.size) w4.drew w' → w'.cell? ⟨w.heap.size, 1, none⟩ = some (.int .u16 an) := fun w' hh => laterX_cell hh hbz4' (not_allBut_r _ _) 1 c1
    clear hp4 hbw4 hby4 hbox4 hk4 hs4 hz4 b1 z0 c1
    go_wp2_with fail
    refine wp_region_can (LaterF (allBut p w.heap.size)) [(0, true), (1, true), (2, true), (3, true), (4, true), (5, true), (6, true), (7, true), (8, true), (9, true), (10, false)] (by kernel_rfl) (by kernel_rfl) (laterF_refl _) (laterF_trans _) ?_
    clear hcl
    have hn0 : ¬ ((n : Int) = 0) := by omega
    have hnn : ¬ (n = 0) := by omega
    repeat (first
      | (refine can_yes (v := ?_) rfl (wanted_none rfl) (fun w' hC => ?_) (fun K hK => ?_); rotate_left; (focus (go_simp; (try simp (disch := omega) only [IntWalk.i64_in]); (try simp (disch := omega) only [IntWalk.u32_in]); (try simp (disch := omega) only [IntWalk.u8_in]); (try simp (disch := omega) only [IntWalk.i64_quo]); (try simp (disch := omega) only [IntWalk.rem_in]); first | done | exact rfl)); go_simp; (try simp (disch := omega) only [IntWalk.i64_in]); (try simp (disch := omega) only [IntWalk.u32_in]); (try simp (disch := omega) only [IntWalk.u8_in]); (try simp (disch := omega) only [IntWalk.i64_quo]); (try simp (disch := omega) only [IntWalk.rem_in]); refine hK _ ?_; clear hK K)
      | (refine can_guard rfl (fun A B hA hB => ?_); go_simp; first | (refine hA ⟨?_, fun w' hC => ?_, fun K hK => ?_⟩; rotate_left; (focus (go_simp; (try simp (disch := omega) only [IntWalk.i64_in]); (try simp (disch := omega) only [IntWalk.u32_in]); (try simp (disch := omega) only [IntWalk.u8_in]); (try simp (disch := omega) only [IntWalk.i64_quo]); (try simp (disch := omega) only [IntWalk.rem_in]); first | done | exact rfl)); go_simp; (try simp (disch := omega) only [IntWalk.i64_in]); (try simp (disch := omega) only [IntWalk.u32_in]); (try simp (disch := omega) only [IntWalk.u8_in]); (try simp (disch := omega) only [IntWalk.i64_quo]); (try simp (disch := omega) only [IntWalk.rem_in]); refine hK _ ?_; clear hK K hA hB A B) | (refine hB (fun K hK => ?_); go_simp; (try simp (disch := omega) only [IntWalk.i64_in]); (try simp (disch := omega) only [IntWalk.u32_in]); (try simp (disch := omega) only [IntWalk.u8_in]); (try simp (disch := omega) only [IntWalk.i64_quo]); (try simp (disch := omega) only [IntWalk.rem_in]); refine hK _ ?_; clear hK K hA hB A B))
      | (refine can_guard_go rfl (fun A B hA hB => ?_); go_simp; refine hB (fun K hK => ?_); go_simp; (try simp (disch := omega) only [IntWalk.i64_in]); (try simp (disch := omega) only [IntWalk.u32_in]); (try simp (disch := omega) only [IntWalk.u8_in]); (try simp (disch := omega) only [IntWalk.i64_quo]); (try simp (disch := omega) only [IntWalk.rem_in]); refine hK _ ?_; clear hK K hA hB A B))
    refine can_go rfl rfl (fun KK hK => ?_)
    go_simp
    refine HW.out.mono ?_
    rintro e w5 ⟨rfl, F', hp5, hF5, ho5⟩
    refine ⟨_, rfl, ho5.mono (fun b hb => ⟨(HkF.out b hb).2.1, by have := (HkF.out b hb).2.2.2; omega⟩), hK _ _ ?_⟩
    clear hK KK r0 r1
    go_simp
    have ho5' : Only k.F w4 w5 := ⟨ho5.os, ho5.tape, ho5.output, ho5.size, ho5.block⟩
    repeat (first
      | (refine can_yes (v := ?_) rfl (wanted_none rfl) (fun w' hC => ?_) (fun K hK => ?_); rotate_left; (focus (go_simp; (try simp (disch := omega) only [IntWalk.i64_in]); (try simp (disch := omega) only [IntWalk.u32_in]); (try simp (disch := omega) only [IntWalk.u8_in]); (try simp (disch := omega) only [IntWalk.i64_quo]); (try simp (disch := omega) only [IntWalk.rem_in]); first | done | exact rfl)); go_simp; (try simp (disch := omega) only [IntWalk.i64_in]); (try simp (disch := omega) only [IntWalk.u32_in]); (try simp (disch := omega) only [IntWalk.u8_in]); (try simp (disch := omega) only [IntWalk.i64_quo]); (try simp (disch := omega) only [IntWalk.rem_in]); refine hK _ ?_; clear hK K)
      | (refine can_guard rfl (fun A B hA hB => ?_); go_simp; first | (refine hA ⟨?_, fun w' hC => ?_, fun K hK => ?_⟩; rotate_left; (focus (go_simp; (try simp (disch := omega) only [IntWalk.i64_in]); (try simp (disch := omega) only [IntWalk.u32_in]); (try simp (disch := omega) only [IntWalk.u8_in]); (try simp (disch := omega) only [IntWalk.i64_quo]); (try simp (disch := omega) only [IntWalk.rem_in]); first | done | exact rfl)); go_simp; (try simp (disch := omega) only [IntWalk.i64_in]); (try simp (disch := omega) only [IntWalk.u32_in]); (try simp (disch := omega) only [IntWalk.u8_in]); (try simp (disch := omega) only [IntWalk.i64_quo]); (try simp (disch := omega) only [IntWalk.rem_in]); refine hK _ ?_; clear hK K hA hB A B) | (refine hB (fun K hK => ?_); go_simp; (try simp (disch := omega) only [IntWalk.i64_in]); (try simp (disch := omega) only [IntWalk.u32_in]); (try simp (disch := omega) only [IntWalk.u8_in]); (try simp (disch := omega) only [IntWalk.i64_quo]); (try simp (disch := omega) only [IntWalk.rem_in]); refine hK _ ?_; clear hK K hA hB A B))
      | (refine can_guard_go rfl (fun A B hA hB => ?_); go_simp; refine hB (fun K hK => ?_); go_simp; (try simp (disch := omega) only [IntWalk.i64_in]); (try simp (disch := omega) only [IntWalk.u32_in]); (try simp (disch := omega) only [IntWalk.u8_in]); (try simp (disch := omega) only [IntWalk.i64_quo]); (try simp (disch := omega) only [IntWalk.rem_in]); refine hK _ ?_; clear hK K hA hB A B))
    refine can_nil ?_
    have z2 : w5.cell? ⟨p, 2, none⟩ = some (.pointer (some ⟨k.e, 0, none⟩)) := by simpa using hp5.blk.cell 2
    have hbox5 : Blk w5 w.heap.size _ _ := Hbox4.out.keep (ho5'.block _ Hbox4.out.lt (fun hx => by have := (HkF.out _ hx).2.2.2; omega))
    have c15 : w5.cell? ⟨w.heap.size, 1, none⟩ = some (.int .u16 an) := by simpa using hbox5.cell 1
    have hby5 : Bytes (fun b => w3.heap.size ≤ b ∧ b < w4.heap.size) w5.drew (.slice ya 64 yc) s := ((Hby4.out.keep (w' := w5) fun b hb hlt => ho5'.block b hlt (fun hx => by have := (HkF.out _ hx).2.2.2; have := hb.1; have := Hb3.out.size; omega)).mono fun b hb => ⟨hb.1, hb.2.1⟩).keep (w' := w5.drew) fun b _ _ => rfl
    have HW2 := Lib.hid (wr2R w5.drew p lo _ _ M o o (hp5.kept (Below.refl _ _).drew) q (by rw [Hn.out]; exact hqn) hw _ _ s hby5 Hs64.out (fun b hb hx => by have := (HkG.out b hx).2.2; have := hb.1; have := Hb3.out.size; omega))
    have hbw5 : Below lo w w5 := (Hbw4.out.mono (by omega)).trans (ho5'.below (fun b hb => (HkF.out b hb).1) (by have := Hbw4.out.size; omega))
    have hpz5 : p < w5.heap.size := hp5.blk.lt
    have hbz5 : w.heap.size < w5.heap.size := hbox5.lt
    have r2 : ∀ w', LaterF (allBut p w.heap.size) w5.drew w' → w'.cell? ⟨p, 2, none⟩ = some (.pointer (some ⟨k.e, 0, none⟩)) := fun w' hh => laterX_cell hh hpz5 (not_allBut_l _ _) 2 z2
    have r1 : ∀ w', LaterF (allBut p w.heap.size) w5.drew w' → w'.cell? ⟨w.heap.size, 1, none⟩ = some (.int .u16 an) := fun w' hh => laterX_cell hh hbz5 (not_allBut_r _ _) 1 c15
    have Hbw5 := Lib.hid hbw5
    clear HW hp5 hF5 ho5 ho5' hbox5 hby5 hbw5 z2 c15
    go_wp2_with fail
    refine wp_region_can (LaterF (allBut p w.heap.size)) [(0, true), (1, true), (2, true), (3, true), (4, true), (5, true), (6, true), (7, true), (8, true), (9, true), (10, false)] (by kernel_rfl) (by kernel_rfl) (laterF_refl _) (laterF_trans _) ?_
    repeat (first
      | (refine can_yes (v := ?_) rfl (wanted_none rfl) (fun w' hC => ?_) (fun K hK => ?_); rotate_left; (focus (go_simp; (try simp (disch := omega) only [IntWalk.i64_in]); (try simp (disch := omega) only [IntWalk.u32_in]); (try simp (disch := omega) only [IntWalk.u8_in]); (try simp (disch := omega) only [IntWalk.i64_quo]); (try simp (disch := omega) only [IntWalk.rem_in]); first | done | exact rfl)); go_simp; (try simp (disch := omega) only [IntWalk.i64_in]); (try simp (disch := omega) only [IntWalk.u32_in]); (try simp (disch := omega) only [IntWalk.u8_in]); (try simp (disch := omega) only [IntWalk.i64_quo]); (try simp (disch := omega) only [IntWalk.rem_in]); refine hK _ ?_; clear hK K)
      | (refine can_guard rfl (fun A B hA hB => ?_); go_simp; first | (refine hA ⟨?_, fun w' hC => ?_, fun K hK => ?_⟩; rotate_left; (focus (go_simp; (try simp (disch := omega) only [IntWalk.i64_in]); (try simp (disch := omega) only [IntWalk.u32_in]); (try simp (disch := omega) only [IntWalk.u8_in]); (try simp (disch := omega) only [IntWalk.i64_quo]); (try simp (disch := omega) only [IntWalk.rem_in]); first | done | exact rfl)); go_simp; (try simp (disch := omega) only [IntWalk.i64_in]); (try simp (disch := omega) only [IntWalk.u32_in]); (try simp (disch := omega) only [IntWalk.u8_in]); (try simp (disch := omega) only [IntWalk.i64_quo]); (try simp (disch := omega) only [IntWalk.rem_in]); refine hK _ ?_; clear hK K hA hB A B) | (refine hB (fun K hK => ?_); go_simp; (try simp (disch := omega) only [IntWalk.i64_in]); (try simp (disch := omega) only [IntWalk.u32_in]); (try simp (disch := omega) only [IntWalk.u8_in]); (try simp (disch := omega) only [IntWalk.i64_quo]); (try simp (disch := omega) only [IntWalk.rem_in]); refine hK _ ?_; clear hK K hA hB A B))
      | (refine can_guard_go rfl (fun A B hA hB => ?_); go_simp; refine hB (fun K hK => ?_); go_simp; (try simp (disch := omega) only [IntWalk.i64_in]); (try simp (disch := omega) only [IntWalk.u32_in]); (try simp (disch := omega) only [IntWalk.u8_in]); (try simp (disch := omega) only [IntWalk.i64_quo]); (try simp (disch := omega) only [IntWalk.rem_in]); refine hK _ ?_; clear hK K hA hB A B))
    refine can_go rfl rfl (fun KK hK => ?_)
    go_simp
    refine HW2.out.mono ?_
    rintro e w6 ⟨rfl, G', hp6, hG6, ho6⟩
    refine ⟨_, rfl, ho6.mono (fun b hb => ⟨(HkG.out b hb).2.1, by have := (HkG.out b hb).2.2; omega⟩), hK _ _ ?_⟩
    clear hK KK r2 r1
    go_simp
    repeat (first
      | (refine can_yes (v := ?_) rfl (wanted_none rfl) (fun w' hC => ?_) (fun K hK => ?_); rotate_left; (focus (go_simp; (try simp (disch := omega) only [IntWalk.i64_in]); (try simp (disch := omega) only [IntWalk.u32_in]); (try simp (disch := omega) only [IntWalk.u8_in]); (try simp (disch := omega) only [IntWalk.i64_quo]); (try simp (disch := omega) only [IntWalk.rem_in]); first | done | exact rfl)); go_simp; (try simp (disch := omega) only [IntWalk.i64_in]); (try simp (disch := omega) only [IntWalk.u32_in]); (try simp (disch := omega) only [IntWalk.u8_in]); (try simp (disch := omega) only [IntWalk.i64_quo]); (try simp (disch := omega) only [IntWalk.rem_in]); refine hK _ ?_; clear hK K)
      | (refine can_guard rfl (fun A B hA hB => ?_); go_simp; first | (refine hA ⟨?_, fun w' hC => ?_, fun K hK => ?_⟩; rotate_left; (focus (go_simp; (try simp (disch := omega) only [IntWalk.i64_in]); (try simp (disch := omega) only [IntWalk.u32_in]); (try simp (disch := omega) only [IntWalk.u8_in]); (try simp (disch := omega) only [IntWalk.i64_quo]); (try simp (disch := omega) only [IntWalk.rem_in]); first | done | exact rfl)); go_simp; (try simp (disch := omega) only [IntWalk.i64_in]); (try simp (disch := omega) only [IntWalk.u32_in]); (try simp (disch := omega) only [IntWalk.u8_in]); (try simp (disch := omega) only [IntWalk.i64_quo]); (try simp (disch := omega) only [IntWalk.rem_in]); refine hK _ ?_; clear hK K hA hB A B) | (refine hB (fun K hK => ?_); go_simp; (try simp (disch := omega) only [IntWalk.i64_in]); (try simp (disch := omega) only [IntWalk.u32_in]); (try simp (disch := omega) only [IntWalk.u8_in]); (try simp (disch := omega) only [IntWalk.i64_quo]); (try simp (disch := omega) only [IntWalk.rem_in]); refine hK _ ?_; clear hK K hA hB A B))
      | (refine can_guard_go rfl (fun A B hA hB => ?_); go_simp; refine hB (fun K hK => ?_); go_simp; (try simp (disch := omega) only [IntWalk.i64_in]); (try simp (disch := omega) only [IntWalk.u32_in]); (try simp (disch := omega) only [IntWalk.u8_in]); (try simp (disch := omega) only [IntWalk.i64_quo]); (try simp (disch := omega) only [IntWalk.rem_in]); refine hK _ ?_; clear hK K hA hB A B))
    refine can_nil ?_
    have hbw6 : Below lo w w6 := (Hbw5.out.drew).trans (ho6.below (fun b hb => (HkG.out b hb).1) (by have := Hbw5.out.size; show lo ≤ w5.heap.size; omega))
    have Hp6 := Lib.hid hp6; have Hbw6 := Lib.hid hbw6
    clear HW2 hp6 hG6 ho6 hbw6
    go_wp2_with fail
    go_end0
    have hl := wr_len M q s
    exact ⟨rfl, ⟨_, ⟨_, Hp6.out.one⟩, hl.1, hl.2⟩, Hbw6.out⟩

theorem up2P (w : World) (p lo : Nat) (k : PK) (M1 M2 : MD) (o1 o2 : Option MJ) (h : Pair2 w p lo k M1 M2 o1 o2) :
    Calls Tryd.prog 29 #[.pointer (some ⟨k.d, 0, none⟩)] w fun r w' => r = .returned (.tuple #[]) ∧ StepP w p lo k { M1 with down := false } M2 o1 o2 w' := by
  obtain ⟨K, hK0, -, hd, back⟩ := h.splitP
  rw [← hK0]
  refine (up_any w K M1 hd).mono ?_
  rintro r w' ⟨rfl, hd', ho, hz⟩
  exact ⟨rfl, back w' K _ hd' hK0 (fun b hb => .inl hb) ho rfl⟩
theorem up2R (w : World) (p lo : Nat) (k : PK) (M1 M2 : MD) (o1 o2 : Option MJ) (h : Pair2 w p lo k M1 M2 o1 o2) :
    Calls Tryd.prog 43 #[.pointer (some ⟨k.e, 0, none⟩)] w fun r w' => r = .returned (.tuple #[]) ∧ StepR w p lo k M1 { M2 with down := false } o1 o2 w' := by
  obtain ⟨K, hK0, hK, hd, back⟩ := h.splitR
  rw [← hK0]
  refine (refUp_any w K M2 hd).mono ?_
  rintro r w' ⟨rfl, hd', ho, hz⟩
  exact ⟨rfl, back w' K _ hd' hK0 (fun b hb => .inl hb) (only_all ho) rfl⟩

set_option maxRecDepth 100000 in
set_option maxHeartbeats 1500000 in
theorem pact_copy (w : World) (p lo n c : Nat) (M : MD) (o : Option MJ) (hP : PairX w p lo M o) (hn : M.S.length = n) (hc : M.writes ≤ c) (hcw : c + 65536 < 4611686018427387904) (hq : Quarter w) (kind an am : Int) (v : Value) (l : List UInt8) (G : Blks) (hB : Bytes G w v l) (hG : ∀ b, G b → b < lo) (hl : l.length ≤ 3000) (hkd : 0 ≤ kind ∧ kind ≤ 255) (han : 0 ≤ an ∧ an ≤ 65535) (ham : 0 ≤ am ∧ am ≤ 65535) (hk7 : kind % 8 = 7) :
    Calls Tryd.prog 40 #[.pointer (some ⟨p, 0, none⟩), .agg #[.int .u8 kind, .int .u16 an, .int .u16 am, v]] w (ActPost w p lo n c) := by
  obtain ⟨k, hk⟩ := hP
  have h2 := hk.two
  have HkF := Lib.hid h2.fF; have HkG := Lib.hid h2.fG
  have hlo := h2.size
  have hpos := h2.pos
  have hplo := h2.lo_p
  have hplt := h2.blk.lt
  have hh0 : 0 < w.heap.size := by omega
  obtain ⟨box, hbox⟩ : ∃ box : Obj, box = .cells #[.int .u8 kind, .int .u16 an, .int .u16 am, v] 32 := ⟨_, rfl⟩
  have hb1 : Below w.heap.size w (w.alloc box) := kept_alloc _ _
  have hbb : Blk (w.alloc box) w.heap.size [.int .u8 kind, .int .u16 an, .int .u16 am, v] 32 := by rw [hbox]; exact Blk.new w _ _
  have hz1 : (w.alloc box).heap.size = w.heap.size + 1 := by simp
  have hBl : Bytes (fun b => b < lo) w v l := hB.mono hG
  have hB1 : Bytes (fun b => b < lo) (w.alloc box) v l := hBl.keep fun b hb hlt => hb1.block b hlt
  obtain ⟨xa, xc, w2, hcl, hown2, hk2, hg2, hby2⟩ := run_clone (w.alloc box) _ v l hB1 (by omega)
  have x3' : ((w.alloc box).alloc (.cells #[] 5)).cell? ⟨w.heap.size, 3, none⟩ = some v := by
    have := (hbb.alloc (.cells #[] 5)).cell 3
    simpa using this
  rw [hz1] at hcl
  have hb2 : Below w.heap.size w w2 := hb1.trans (hk2.mono (by omega))
  have hbb2 : Blk w2 w.heap.size _ _ := hbb.keep (hk2.block _ (by omega))
  have y0 : w2.cell? ⟨w.heap.size, 0, none⟩ = some (.int .u8 kind) := by simpa using hbb2.cell 0
  have y1 : w2.cell? ⟨w.heap.size, 1, none⟩ = some (.int .u16 an) := by simpa using hbb2.cell 1
  have y2 : w2.cell? ⟨w.heap.size, 2, none⟩ = some (.int .u16 am) := by simpa using hbb2.cell 2
  have y3 : w2.cell? ⟨w.heap.size, 3, none⟩ = some v := by simpa using hbb2.cell 3
  have hz2 : w.heap.size + 1 ≤ w2.heap.size := by have := hk2.size; omega
  have hp2 := h2.kept hb2
  have hq2 : Quarter w2 := hq.keep (hb2.block 0 hh0)
  have hB2 : Bytes (fun b => b < lo) w2 v l := hBl.keep fun b hb hlt => hb2.block b hlt
  obtain ⟨va, vc, rfl, -⟩ := id hB
  have Hp2 := Lib.hid hp2; have Hq2 := Lib.hid hq2; have HB2 := Lib.hid hB2; have Hb2 := Lib.hid hb2; have Hz2 := Lib.hid hz2; have Hbb2 := Lib.hid hbb2; have Hby2 := Lib.hid hby2; have Hown2 := Lib.hid hown2; have Hlo := Lib.hid hlo
  clear hp2 hq2 hB2 hb2 hz2 hbb2 hby2 hown2 hlo hk2 hg2 hB1 hBl hbb hb1 h2 hk hz1
  have hd3 : (kind % 8 == 3) = false := by simp [hk7]
  have hd4 : (kind % 8 == 4) = false := by simp [hk7]
  have hd5 : (kind % 8 == 5) = false := by simp [hk7]
  have hd6 : (kind % 8 == 6) = false := by simp [hk7]
  have hd7 : (kind % 8 == 7) = true := by simp [hk7]
  have HU := Lib.hid (up2P w2 p lo k M M o o Hp2.out)
  have z0 : w2.cell? ⟨p, 0, none⟩ = some (.pointer (some ⟨k.d, 0, none⟩)) := by simpa using Hp2.out.blk.cell 0
  subst hbox
  go_enter Tryd.func40, Tryd.ntmps40
  go_wp2_with fail
  refine HU.out.mono ?_
  rintro e w3 ⟨rfl, F', hp3, hF3, ho3⟩
  have HR := Lib.hid (up2R w3 p lo _ _ M o o hp3)
  have z2 : w3.cell? ⟨p, 2, none⟩ = some (.pointer (some ⟨k.e, 0, none⟩)) := by simpa using hp3.blk.cell 2
  have hbox3 := Hbb2.out.keep (ho3.block _ Hbb2.out.lt (fun hx => by have := (HkF.out _ hx).2.2.2; omega))
  have hb3 : Below lo w w3 := (Hb2.out.mono (by have := Hlo.out; omega)).trans (ho3.below (fun b hb => (HkF.out b hb).1) (by have := Hlo.out; have := Hb2.out.size; omega))
  have Hbox3 := Lib.hid hbox3; have Hb3 := Lib.hid hb3
  clear HU hp3 hF3 ho3 hbox3 hb3 z0 y0 y1 y2 y3 hcl x3'
  go_wp2_with fail
  refine HR.out.mono ?_
  rintro e w4 ⟨rfl, G', hp4, hG4, ho4⟩
  have hbox4 := Hbox3.out.keep (ho4.block _ Hbox3.out.lt (fun hx => by have := (HkG.out _ hx).2.2; omega))
  have hb4 : Below lo w w4 := Hb3.out.trans (ho4.below (fun b hb => (HkG.out b hb).1) (by have := Hb3.out.size; have := Hlo.out; omega))
  have q0 := hbox4.cell 0
  have q1 := hbox4.cell 1
  have q2 := hbox4.cell 2
  have q3 := hbox4.cell 3
  simp at q0 q1 q2 q3
  have hS : 0 < M.S.length := by
    obtain ⟨K, -, -, hd, -⟩ := hp4.splitP
    exact hd.pos
  have hB4 : Bytes (fun b => b < lo) w4 (.slice va l.length vc) l := (hB.mono hG).keep fun b hb _ => hb4.block b hb
  have HC := Lib.hid (pcopy_any w4 p lo _ _ o hp4 hS rfl (by show M.writes < _; omega) kind an am _ l _ hB4 (fun b hb => hb) han ham)
  have Hb4 := Lib.hid hb4
  clear HR hp4 hG4 ho4 hbox4 hb4 z2 hB4
  go_wp2_with fail
  refine HC.out.mono ?_
  rintro e w5 ⟨rfl, ⟨M', hX5, hM5, hW5⟩, hb5⟩
  have hb5' := Hb4.out.trans hb5
  have HO := Lib.hid (popen_any w5 p lo _ _ hX5 (hq.keep (hb5'.block 0 hpos)))
  have Hb5 := Lib.hid hb5'; have HM5 := Lib.hid hM5; have HW5 := Lib.hid hW5
  clear HC hX5 hb5 hb5' q0 q1 q2 q3 hM5 hW5
  go_wp2_with fail
  refine HO.out.mono ?_
  rintro e w6 ⟨rfl, hX6, hb6⟩
  have HX6 := Lib.hid hX6
  clear HO hX6
  go_wp2_with fail
  go_ret
  exact ⟨rfl, ⟨_, _, HX6.out, HM5.out.trans hn, by have : M'.writes ≤ M.writes + 1 := HW5.out; omega⟩, Hb5.out.trans hb6⟩

theorem pact_any (w : World) (p lo n c : Nat) (M : MD) (o : Option MJ) (hP : PairX w p lo M o) (hn : M.S.length = n) (hc : M.writes ≤ c) (hcw : c + 65536 < 4611686018427387904) (hq : Quarter w) (kind an am : Int) (v : Value) (l : List UInt8) (G : Blks) (hB : Bytes G w v l) (hG : ∀ b, G b → b < lo) (hl : l.length ≤ 3000) (hkd : 0 ≤ kind ∧ kind ≤ 255) (han : 0 ≤ an ∧ an ≤ 65535) (ham : 0 ≤ am ∧ am ≤ 65535) :
    Calls Tryd.prog 40 #[.pointer (some ⟨p, 0, none⟩), .agg #[.int .u8 kind, .int .u16 an, .int .u16 am, v]] w (ActPost w p lo n c) := by
  have h8 : (kind % 8 = 0 ∨ kind % 8 = 1 ∨ kind % 8 = 2) ∨ kind % 8 = 3 ∨ kind % 8 = 4 ∨ kind % 8 = 5 ∨ kind % 8 = 6 ∨ kind % 8 = 7 := by omega
  rcases h8 with h | h | h | h | h | h
  · exact pact_append w p lo n c M o hP hn hc hcw hq kind an am v l G hB hG hl hkd h
  · exact pact_replace w p lo n c M o hP hn hc hcw hq kind an am v l G hB hG hl hkd h
  · exact pact_fail w p lo n c M o hP hn hc hq kind an am v l G hB hG hl hkd han h
  · exact pact_again w p lo n c M o hP hn hc hq kind an am v l G hB hG hl hkd h
  · exact pact_up w p lo n c M o hP hn hc hq kind an am v l G hB hG hl hkd h
  · exact pact_copy w p lo n c M o hP hn hc hcw hq kind an am v l G hB hG hl hkd han ham h
end Go.Proofs.YtmimplmeccoahaaDoor
/- Two disks are formatted: start. -/
namespace Go.Proofs.YtmimplmeccoahaaDoor
open Go.RowKit
set_option linter.unusedVariables false
set_option maxRecDepth 20000
attribute [local go_sem] opC upC

theorem fmtM_len1 (M : MD) : (fmtM M).S.length = M.S.length := by
  unfold fmtM
  split
  · rfl
  · rw [formatM_def]; exact (writeAll_len _ M).1
theorem fmtM_writes (M : MD) : (fmtM M).writes ≤ M.writes + M.S.length + 1 := by
  unfold fmtM
  split
  · omega
  · rw [formatM_def]
    have h := (writeAll_len (zeroWs M.S.length ++ [(0, headB 0)]) M).2
    rw [List.length_append, zeroWs_length] at h
    simp at h
    omega

def StartPost (w : World) (n : Nat) (e : Ending) (w' : World) : Prop :=
  ∃ p M o, e = .returned (.tuple #[.pointer (some ⟨p, 0, none⟩), .bool true]) ∧ PairX w' p w.heap.size M o ∧ M.S.length = n ∧ M.writes ≤ 100 ∧ Below w.heap.size w w'

set_option maxRecDepth 100000 in
set_option maxHeartbeats 3200000 in
theorem start_any (w : World) (n : Nat) (h1 : 1 ≤ n) (h40 : n ≤ 40) (hq : Quarter w) :
    Calls Tryd.prog 39 #[.int .i64 (n : Int)] w (StartPost w n) := by
  have h0 : 0 < w.heap.size := by obtain ⟨t, fz, hh⟩ := hq; exact lt_of_block hh
  have hq' : ∀ {w' : World}, Below w.heap.size w w' → Quarter w' := fun hb => hq.keep (hb.block 0 h0)
  have Hnew := Lib.hid (new_ok w n (by omega) (by omega))
  go_enter Tryd.func39, Tryd.ntmps39
  go_wp2_with fail
  refine Hnew.out.mono ?_
  rintro e w1 ⟨K, rfl, hd, hb1, hK⟩
  have Hrnew := Lib.hid (refNew_ok w1 n (by omega) (by omega))
  have Hd := Lib.hid hd; have HK := Lib.hid hK; have Hb1 := Lib.hid hb1
  clear hd hK hb1 Hnew
  go_wp2_with fail
  refine Hrnew.out.mono ?_
  rintro e w2 ⟨KR, rfl, hr, hb2, hKR⟩
  have hz1 := Hb1.out.size
  have hT : TwinU w2 w.heap.size K.d KR.d (MD.fresh n) (MD.fresh n) := ⟨K, KR, rfl, rfl, Hd.out.kept hb2, hr, fun b hb => ⟨HK.out b hb, fun h => by have := Hd.out.lt b hb; have := hKR b h; omega⟩, fun b hb => by have := hKR b hb; omega, h0⟩
  have hbw2 := kept_trans Hb1.out hb2
  obtain ⟨dd, hdd⟩ : ∃ q, K.d = q := ⟨_, rfl⟩
  obtain ⟨ee, hee⟩ : ∃ q, KR.d = q := ⟨_, rfl⟩
  rw [hdd, hee] at hT
  rw [hdd, hee]
  obtain ⟨N, hN⟩ : ∃ N : MD, N = MD.fresh n := ⟨_, rfl⟩
  have hNS : N.S.length = n := by rw [hN]; simp [MD.fresh]
  have hNW : N.writes = 0 := by rw [hN]; rfl
  rw [← hN] at hT
  have HT6 := Lib.hid (tformatP w2 _ _ _ N N hT (hq' hbw2) (by omega))
  have Hb6 := Lib.hid hbw2; have HNS := Lib.hid hNS; have HNW := Lib.hid hNW
  clear hT hr hb2 hKR hz1 hbw2 hdd hee hN hNS hNW Hrnew Hd HK Hb1
  go_wp2_with fail
  refine HT6.out.mono ?_
  rintro e w7 ⟨x7, F7, rfl, hH7, hb7⟩
  have hb7' := Hb6.out.trans hb7
  have HR7 := Lib.hid (tformatR w7 _ _ _ _ _ _ _ N hH7 hb7'.size (by have := HNW.out; omega))
  have Hb7 := Lib.hid hb7'
  clear HT6 hH7 hb7 hb7' Hb6
  go_wp2_with fail
  refine HR7.out.mono ?_
  rintro e w8 ⟨x8, G8, rfl, hP8, hR8, hF8, hG8, hb8⟩
  have hb8' := Hb7.out.trans hb8
  obtain ⟨p, hp⟩ : ∃ p, p = w8.heap.size := ⟨_, rfl⟩
  obtain ⟨wp, hwp⟩ : ∃ wp, wp = w8.alloc (.cells #[.pointer (some ⟨dd, 0, none⟩), .pointer x7, .pointer (some ⟨ee, 0, none⟩), .pointer x8] 61) := ⟨_, rfl⟩
  have hU : PairU wp p w.heap.size dd ee (fmtM N) (fmtM N) (fmtO N) (fmtO N) := by rw [hwp, hp]; exact pair_new hP8 hR8 hF8 hG8 h0 hb8'.size
  have hbp : Below w.heap.size w wp := by rw [hwp]; exact Below.alloc hb8' hb8'.size _
  have hfS : (fmtM N).S.length = n := by rw [fmtM_len1]; exact HNS.out
  have hfW : (fmtM N).writes ≤ 100 := by have := fmtM_writes N; have := HNW.out; have := HNS.out; omega
  obtain ⟨r, hr⟩ : ∃ r, fmtR N = r := ⟨_, rfl⟩
  obtain ⟨M9, hM9⟩ : ∃ q, fmtM N = q := ⟨_, rfl⟩
  obtain ⟨o9, ho9⟩ : ∃ q, fmtO N = q := ⟨_, rfl⟩
  rw [hM9, ho9] at hU
  rw [hM9] at hfS hfW
  rw [hr]
  have HL := Lib.hid (like_any wp p _ M9 _ hU.X)
  have HU := Lib.hid hU; have Hbp := Lib.hid hbp; have HfS := Lib.hid hfS; have HfW := Lib.hid hfW
  have Hp := Lib.hid hp; have Hwp := Lib.hid hwp
  clear HR7 hP8 hR8 hF8 hG8 hb8 hb8' hwp hU hbp hfS hfW hr hM9 ho9 Hb7 HNS HNW
  go_wp2_with fail
  rw [← Hp.out, ← Hwp.out]
  clear hp
  refine HL.out.mono ?_
  rintro e w10 ⟨rfl, hb10⟩
  have HS := Lib.hid (psectors_any w10 p _ M9 _ (HU.out.kept hb10).X (by rw [HfS.out]; omega))
  have HU10 := Lib.hid (HU.out.kept hb10); have Hb10 := Lib.hid (kept_trans Hbp.out hb10)
  clear HL hb10 HU Hbp Hwp Hp
  go_wp2_with fail
  refine HS.out.mono ?_
  rintro e w11 ⟨rfl, hb11⟩
  have HU11 := Lib.hid (HU10.out.kept hb11); have Hb11 := Lib.hid (kept_trans Hb10.out hb11)
  clear HS hb11 HU10 Hb10
  go_wp2_with fail
  go_ret2
  exact ⟨p, M9, o9, rfl, HU11.out.X, HfS.out, HfW.out, Hb11.out⟩
end Go.Proofs.YtmimplmeccoahaaDoor
