/- The reference disk: Copy. -/
import Derived.Test.YtgbcpcbcikadlaaRefDisk7
namespace Go.Proofs.Ytgbcpcbcikadlaa
open Go.RowKit
set_option linter.unusedVariables false
attribute [local go_sem ↓] seal_append seal_make_bytes
attribute [local go_sem] opC upC

theorem owns_shape {w : World} {lo : Nat} {e : TypeId} {v : Value} {l : List UInt8} (h : w.ownsRow lo e 1 v l.length (l.map B)) : ∃ a cap, v = .slice a l.length cap := by
  rcases h.2 with ⟨rfl, h0⟩ | ⟨g, cap, cur, rfl, _⟩
  · exact ⟨none, 0, by rw [h0]⟩
  · exact ⟨_, cap, rfl⟩

/-- append([]byte{}, x...) in a world: the empty literal's block, then the append -/
theorem run_clone (w : World) (F : Blks) (v : Value) (l : List UInt8) (hv : Bytes F w v l) (hl : l.length ≤ 140737488355328) :
    ∃ a cap w2, (AP #[28, 28] 28 #[.slice (some ⟨w.heap.size, 0, none⟩) 0 0, v]).run Try.prog (w.alloc (.cells #[] 5)) = .ok (.slice a l.length cap) w2 ∧
      w2.ownsRow w.heap.size 5 1 (.slice a l.length cap) l.length (l.map B) ∧ Below w.heap.size w w2 ∧ (w.alloc (.cells #[] 5)).grownBy w2 (some w.heap.size) ∧
      Bytes (fun b => w.heap.size ≤ b ∧ b < w2.heap.size ∧ ∃ L fz, w2.heap[b]? = some (.cells L 5 fz)) w2 (.slice a l.length cap) l := by
  obtain ⟨v', w2, hr, hown, hgb⟩ := run_append_bytes (w.alloc (.cells #[] 5)) w.heap.size (.slice (some ⟨w.heap.size, 0, none⟩) 0 0) []
    ⟨rfl, .inr ⟨w.heap.size, 0, #[], rfl, Nat.le_refl _, by unfold World.alloc; simp, Nat.le_refl _, by unfold maxLen; omega, rfl, rfl⟩⟩ F v l (hv.keep fun b _ hb => Below.heap_alloc _ _ _ hb) (by simpa using hl) (by simp)
  rw [List.nil_append] at hown
  obtain ⟨a, cap, rfl⟩ := owns_shape hown
  refine ⟨a, cap, w2, hr, hown, (kept_alloc _ _).grown hgb (by simp) (fun k hk => by simp [Value.ownBlock] at hk; omega), hgb, ?_⟩
  have h2 := hown.2
  rcases h2 with ⟨h, h0⟩ | ⟨g, cap', cur, h, hb, hg, hc, hm, hs, ht⟩
  · simp at h
    obtain ⟨rfl, _, rfl⟩ := h
    exact ⟨none, 0, rfl, by omega, by unfold maxLen; omega, fun _ => rfl, .inl (List.length_eq_zero_iff.1 h0)⟩
  · simp at h
    obtain ⟨rfl, rfl⟩ := h
    refine ⟨_, cap, rfl, hc, hm, nofun, .inr ⟨g, 0, cur, 5, (0, 0), rfl, ⟨hb, lt_of_block hg, _, _, hg⟩, hg, by omega, fun i hi => ?_⟩⟩
    have : (cur.toList.take (l.length * 1))[i]? = (l.map B)[i]? := by rw [ht]
    rw [List.getElem?_take, if_pos (by omega)] at this
    simpa [List.getElem?_eq_getElem hi] using this

set_option maxRecDepth 100000 in
set_option maxHeartbeats 1000000 in
theorem refCopy_any (w : World) (KR : RK) (M : MD) (h : RefAt w KR M) (h0 : 0 < M.S.length) :
    Calls Try.prog 33 #[.pointer (some ⟨KR.d, 0, none⟩)] w fun e w' => ∃ K : RK, e = .returned (.pointer (some ⟨K.d, 0, none⟩)) ∧ RefAt w' K M ∧ Below w.heap.size w w' ∧ (∀ b, K.all b → w.heap.size ≤ b) := by
  have hltA := h.lt
  obtain ⟨h1, h2, h3, ⟨cap, after, tv, hc, hm, hb, ⟨L, hL, hLl, hs⟩, ⟨ct, hct, hcl, hf⟩, ha⟩, h5, h6⟩ := h
  have hct0 := hct
  obtain ⟨ta, tc, rfl, htc, htm, -, -⟩ := hct
  have hlt := hb.lt
  have hltb := hL.lt
  obtain ⟨na, nc, w2, hr, hown, hk2, hg2, hby⟩ := run_clone w.drew KR.R _ ct (hct0.keep fun b _ _ => rfl) hcl
  change (AP _ _ #[.slice (some ⟨w.heap.size, 0, none⟩) 0 0, _]).run _ (w.alloc _).drew = _ at hr
  clear hown
  have k0 : Later w.drew (w.alloc (.cells #[] 5)).drew := kept_alloc w.drew _
  have k0F : LaterF (fun b => w.heap.size ≤ b) w.drew (w.alloc (.cells #[] 5)).drew := LaterF.of_below k0
  have k1 : LaterF (fun b => w.heap.size ≤ b) (w.alloc (.cells #[] 5)).drew w2 := ⟨hg2.os, hg2.tape, hg2.output, hg2.size, fun q hq hn => hg2.block q hq (fun e => hn (by simp at e; have : w.drew.heap.size = w.heap.size := rfl; omega))⟩
  have H2 := Lib.hid h2; have Hs := Lib.hid hs; have Hf := Lib.hid hf; have H5 := Lib.hid h5; have H6 := Lib.hid h6; have HltA := Lib.hid hltA; have Hct := Lib.hid hct0
  have Hg2 := Lib.hid hg2
  clear h2 hs hf h5 h6 hltA hct0 hg2
  have cells : ∀ w', LaterF (fun b => w.heap.size ≤ b) w.drew w' → w'.cell? ⟨KR.d, 0, none⟩ = some (.slice (some ⟨KR.bs, 0, none⟩) M.S.length cap) ∧ w'.cell? ⟨KR.d, 1, none⟩ = some (.bool M.down) ∧ w'.cell? ⟨KR.d, 2, none⟩ = some (.bool M.fault.isSome) ∧ w'.cell? ⟨KR.d, 3, none⟩ = some (.int .i64 after) ∧ w'.cell? ⟨KR.d, 4, none⟩ = some (.slice ta ct.length tc) ∧ w'.cell? ⟨KR.d, 5, none⟩ = some (.int .i64 (M.writes : Int)) := fun w' hh => by
    have hw' := hb.keep (w' := w') (hh.block KR.d hlt (by omega))
    exact ⟨by simpa using hw'.cell 0, by simpa using hw'.cell 1, by simpa using hw'.cell 2, by simpa using hw'.cell 3, by simpa using hw'.cell 4, by simpa using hw'.cell 5⟩
  have q1 := fun w' hh => (cells w' hh).2.1
  have q2 := fun w' hh => (cells w' hh).2.2.1
  have q3 := fun w' hh => (cells w' hh).2.2.2.1
  have q4 := fun w' hh => (cells w' hh).2.2.2.2.1
  have q5 := fun w' hh => (cells w' hh).2.2.2.2.2
  have Cells := Lib.hid cells; clear cells
  go_enter Try.func33, Try.ntmps33
  go_wp2_with fail
  refine wp_region_can (LaterF (fun b => w.heap.size ≤ b)) [(0, true), (1, true), (2, true), (3, true), (4, true), (5, true), (6, true), (7, true), (8, true), (9, true), (10, true), (11, true), (13, true), (14, true), (15, true), (16, true), (18, true), (19, true), (20, true), (21, true), (12, false), (17, false), (22, true), (23, false), (24, true)] (by kernel_rfl) (by kernel_rfl) (laterF_refl _) (laterF_trans _) ?_
  repeat (first
    | (refine can_yes (v := ?_) rfl (wanted_none rfl) (fun w' hC => ?_) (fun K hK => ?_); rotate_left; (focus (go_simp; first | done | exact rfl)); go_simp; refine hK _ ?_; clear hK K)
    | (refine can_guard rfl (fun A B hA hB => ?_); go_simp; first | (refine hA ⟨?_, fun w' hC => ?_, fun K hK => ?_⟩; rotate_left; (focus (go_simp; first | done | exact rfl)); go_simp; refine hK _ ?_; clear hK K hA hB A B) | (refine hB (fun K hK => ?_); go_simp; refine hK _ ?_; clear hK K hA hB A B))
    | (refine can_guard_go rfl (fun A B hA hB => ?_); go_simp; refine hB (fun K hK => ?_); go_simp; refine hK _ ?_; clear hK K hA hB A B))
  refine can_go rfl rfl (fun KK hK => ?_)
  go_simp
  refine hK _ _ ?_
  clear hK KK
  go_simp
  refine can_go rfl rfl (fun KK hK => ?_)
  go_simp
  refine hK _ _ ?_
  clear hK KK
  go_simp
  repeat (first
    | (refine can_yes (v := ?_) rfl (wanted_none rfl) (fun w' hC => ?_) (fun K hK => ?_); rotate_left; (focus (go_simp; first | done | exact rfl)); go_simp; refine hK _ ?_; clear hK K)
    | (refine can_guard rfl (fun A B hA hB => ?_); go_simp; first | (refine hA ⟨?_, fun w' hC => ?_, fun K hK => ?_⟩; rotate_left; (focus (go_simp; first | done | exact rfl)); go_simp; refine hK _ ?_; clear hK K hA hB A B) | (refine hB (fun K hK => ?_); go_simp; refine hK _ ?_; clear hK K hA hB A B))
    | (refine can_guard_go rfl (fun A B hA hB => ?_); go_simp; refine hB (fun K hK => ?_); go_simp; refine hK _ ?_; clear hK K hA hB A B))
  refine can_go rfl rfl (fun KK hK => ?_)
  go_simp
  first | refine ⟨LaterF.of_below (kept_alloc _ _), hK _ _ ?_⟩ | refine hK _ _ ?_
  clear hK KK
  go_simp
  repeat (first
    | (refine can_yes (v := ?_) rfl (wanted_none rfl) (fun w' hC => ?_) (fun K hK => ?_); rotate_left; (focus (go_simp; first | done | exact rfl)); go_simp; refine hK _ ?_; clear hK K)
    | (refine can_guard rfl (fun A B hA hB => ?_); go_simp; first | (refine hA ⟨?_, fun w' hC => ?_, fun K hK => ?_⟩; rotate_left; (focus (go_simp; first | done | exact rfl)); go_simp; refine hK _ ?_; clear hK K hA hB A B) | (refine hB (fun K hK => ?_); go_simp; refine hK _ ?_; clear hK K hA hB A B))
    | (refine can_guard_go rfl (fun A B hA hB => ?_); go_simp; refine hB (fun K hK => ?_); go_simp; refine hK _ ?_; clear hK K hA hB A B))
  refine can_nil ?_
  clear q1 q2 q3 q4 q5 hr k1 k0 k0F
  have hD := Blk.new w2 #[.slice none 0 0, .bool M.down, .bool M.fault.isSome, .int .i64 after, .slice na ct.length nc, .int .i64 (M.writes : Int)] 52
  have hk3 := hk2.alloc hk2.size (.cells #[.slice none 0 0, .bool M.down, .bool M.fault.isSome, .int .i64 after, .slice na ct.length nc, .int .i64 (M.writes : Int)] 52)
  have hby3 : Bytes (fun b => w.heap.size ≤ b ∧ b < w2.heap.size) (w2.alloc (.cells #[.slice none 0 0, .bool M.down, .bool M.fault.isSome, .int .i64 after, .slice na ct.length nc, .int .i64 (M.writes : Int)] 52)) (.slice na ct.length nc) ct :=
    (hby.keep fun b hb hlt => Below.heap_alloc _ _ _ hlt).mono fun b hb => ⟨hb.1, hb.2.1⟩
  have hk3' : Below w.heap.size w (w2.alloc (.cells #[.slice none 0 0, .bool M.down, .bool M.fault.isSome, .int .i64 after, .slice na ct.length nc, .int .i64 (M.writes : Int)] 52)) := (Below.refl _ _).drew.trans hk3
  have hszD : w.heap.size ≤ w2.heap.size := hk2.size
  have HD := Lib.hid hD; have Hk3 := Lib.hid hk3'; have Hby3 := Lib.hid hby3
  clear hD hk3 hk3' hby3 hby hk2 Hg2
  obtain ⟨D, hDd⟩ : ∃ D, D = w2.heap.size := ⟨_, rfl⟩
  rw [← hDd] at HD Hby3 hszD
  go_wp2_with fail
  rw [← hDd]
  have HDd := Lib.hid hDd; clear hDd
  go_loopw [4] (fun i wr => ∃ (k : Nat) (a : Option Addr) (c : Nat) (R : Blks), k ≤ M.S.length ∧ i = .int .i64 (k : Int) ∧ Blk wr D [.slice a k c, .bool M.down, .bool M.fault.isSome, .int .i64 after, .slice na ct.length nc, .int .i64 (M.writes : Int)] 52 ∧
      RowsIn R wr (D + 1) (.slice a k c) (M.S.take k) ∧ (∀ b, R b → D + 1 ≤ b) ∧ Bytes (fun b => w.heap.size ≤ b ∧ b < D) wr (.slice na ct.length nc) ct ∧ Below w.heap.size w wr) (fun i _ => M.S.length - (intOf i).toNat)
  case atStart => exact ⟨0, none, 0, none_, by omega, rfl, HD.out, by simpa using RowsIn.nil _ _, fun b h => h.elim, Hby3.out, Hk3.out⟩
  case round =>
    obtain ⟨k, a, c, R, hk, rfl, hblk, hrows, hRlo, hbyw, hbw⟩ := hrel
    have hszw : D < wr.heap.size := hblk.lt
    have hn : (M.S.length : Int) ≤ 65536 := by omega
    have cd : wr.cell? ⟨KR.d, 0, none⟩ = some (.slice (some ⟨KR.bs, 0, none⟩) M.S.length cap) := by simpa using (hb.keep (hbw.block KR.d hlt)).cell 0
    by_cases hkn : k < M.S.length
    · have hknI : (k : Int) < (M.S.length : Int) := by omega
      obtain ⟨x, hx, hbx⟩ := Hs.out k hkn
      have h64 : (M.S[k]).length = 64 := H5.out _ (List.getElem_mem hkn)
      have hbx' : Bytes KR.R wr x M.S[k] := hbx.keep fun b hb _ => hbw.block b (H2.out b hb).2.2
      obtain ⟨xa, xc, w3, hr3, hown3, hk3, hg3, hby3⟩ := run_clone wr.drew KR.R x M.S[k] (hbx'.keep fun b _ _ => rfl) (by omega)
      change (AP _ _ #[.slice (some ⟨wr.heap.size, 0, none⟩) 0 0, _]).run _ (wr.alloc _).drew = _ at hr3
      clear hown3
      have hsz3 : wr.heap.size ≤ w3.heap.size := hk3.size
      have hrows3 : RowsIn R w3 (D + 1) (.slice a k c) (M.S.take k) := (hrows.kept (w' := wr.drew) (Below.refl _ _).drew).kept hk3
      have hlk : (M.S.take k).length = k := by simp; omega
      obtain ⟨a', c', w4, hap, hrows4, hg4⟩ := hrows3.append hby3 (fun b hb => hb.2.2) (by rw [hlk]; omega) (by omega)
      rw [hlk] at hap hrows4
      rw [← List.take_succ_eq_append_getElem hkn] at hrows4
      have hblk3 : Blk w3 D _ _ := (hblk.keep (w' := wr.drew) rfl).keep (hk3.block D hszw)
      have hob : ∀ q, Value.ownBlock (.slice a k c) = some q → D + 1 ≤ q ∧ q < wr.heap.size ∧ ¬ R q := fun q hq => (hrows.own hq)
      have hblk4 : Blk w4 D [.slice a k c, .bool M.down, .bool M.fault.isSome, .int .i64 after, .slice na ct.length nc, .int .i64 (M.writes : Int)] 52 := (hblk3.alloc _).keep (hg4.block _ (by have := hblk3.lt; simp; omega) (fun e => by have := hob _ e.symm; omega))
      have k0 : LaterF (fun b => D < b) wr.drew (wr.alloc (.cells #[] 5)).drew := LaterF.of_below (kept_alloc wr.drew _)
      have k1 : LaterF (fun b => D < b) (wr.alloc (.cells #[] 5)).drew w3 := ⟨hg3.os, hg3.tape, hg3.output, hg3.size, fun q hq hn => hg3.block q hq (fun e => hn (by simp at e; have : wr.drew.heap.size = wr.heap.size := rfl; omega))⟩
      have k2 : LaterF (fun b => D < b) w3 (w3.alloc (.cells #[.slice xa (M.S[k]).length xc] 28)) := LaterF.of_below (kept_alloc _ _)
      have k3 : LaterF (fun b => D < b) (w3.alloc (.cells #[.slice xa (M.S[k]).length xc] 28)) w4 := ⟨hg4.os, hg4.tape, hg4.output, hg4.size, fun q hq hn => hg4.block q hq (fun e => hn (by have := hob _ e.symm; omega))⟩
      have hbw4 : Below w.heap.size w w4 := ((hbw.drew.trans (hk3.mono (show w.heap.size ≤ wr.heap.size from hbw.size))).alloc (by have := hbw.size; omega) _).grown hg4 (by simp; have := hbw.size; omega) (fun q hq => by have := hob q hq; omega)
      have hby4 : Bytes (fun b => w.heap.size ≤ b ∧ b < D) w4 (.slice na ct.length nc) ct := hbyw.keep fun b hb hlt => by
        rw [hg4.block b (by simp; omega) (fun e => by have := hob _ e.symm; omega), Below.heap_alloc _ _ _ (by omega)]
        exact hk3.block b hlt
      have c0 := hblk4.cell 0
      have f0 := hblk4.free 0
      simp at c0
      have hblk5 := hblk4.set 0 (.slice a' (k + 1) c')
      have hrows5 : RowsIn _ (w4.setCell ⟨D, 0, none⟩ (.slice a' (k + 1) c')) (D + 1) (.slice a' (k + 1) c') (M.S.take (k + 1)) := hrows4.keep fun b hb _ => Below.heap_setCell _ ⟨D, 0, none⟩ _ b (by
        rcases hb with hb | hb | hb
        · have := (hrows4.own hb).1; show b ≠ D; omega
        · have := hRlo b hb; show b ≠ D; omega
        · have : wr.drew.heap.size = wr.heap.size := rfl; have := hb.1; show b ≠ D; omega)
      have hby5 : Bytes (fun b => w.heap.size ≤ b ∧ b < D) (w4.setCell ⟨D, 0, none⟩ (.slice a' (k + 1) c')) (.slice na ct.length nc) ct := hby4.keep fun b hb _ => Below.heap_setCell _ ⟨D, 0, none⟩ _ b (by show b ≠ D; omega)
      have q0 : ∀ w', LaterF (fun b => D < b) wr.drew w' → w'.cell? ⟨D, 0, none⟩ = some (.slice a k c) := fun w' hh => by
        simpa using (hblk.keep (w' := w') (hh.block D hszw (by omega))).cell 0
      have q1 : ∀ w', LaterF (fun b => D < b) wr.drew w' → w'.cell? ⟨KR.d, 0, none⟩ = some (.slice (some ⟨KR.bs, 0, none⟩) M.S.length cap) := fun w' hh => by
        rw [World.cell?_of_block (w := wr) (a := ⟨KR.d, 0, none⟩) (hh.block KR.d (show KR.d < wr.heap.size by omega) (by show ¬ D < KR.d; omega))]; exact cd
      have q2 : ∀ w', LaterF (fun b => D < b) wr.drew w' → w'.cell? ⟨KR.bs, k, none⟩ = some x := fun w' hh => by
        rw [(hL.keep ((hh.block KR.bs (show KR.bs < wr.heap.size by omega) (by show ¬ D < KR.bs; omega)).trans (hbw.block KR.bs hltb))).cell k]; exact hx
      obtain ⟨xsa, xsc, rfl, -⟩ := hbx
      have Hblk5 := Lib.hid hblk5; have Hrows5 := Lib.hid hrows5; have Hbw4 := Lib.hid hbw4; have Hby5 := Lib.hid hby5
      have H64 := Lib.hid h64
      clear hblk5 hrows5 hbw4 hby5 hby4 hrows4 hblk4 hrows3 hby3 hg4 hg3 hk3 hblk3 hrows hbx' hx hlk h64
      go_wp2_with fail
      refine wp_region_canL (LaterF (fun b => D < b)) 18 [(0, true), (1, true), (2, true), (3, true), (4, true), (6, true), (7, true), (8, true), (9, true), (10, true), (11, true), (12, true), (5, false), (13, false), (14, false), (15, false), (16, true), (17, true), (18, false)] (by kernel_rfl) (by kernel_rfl) (by kernel_rfl) (laterF_refl _) (laterF_trans _) ?_
      repeat (first
        | (refine canL_yes (v := ?_) rfl (wanted_none rfl) (fun w' hC => ?_) (fun K hK => ?_); rotate_left; (focus (go_simp; first | done | exact rfl)); go_simp; refine hK _ ?_; clear hK K)
        | (refine canL_guard rfl (fun A B hA hB => ?_); go_simp; first | (refine hA ⟨?_, fun w' hC => ?_, fun K hK => ?_⟩; rotate_left; (focus (go_simp; first | done | exact rfl)); go_simp; refine hK _ ?_; clear hK K hA hB A B) | (refine hB (fun K hK => ?_); go_simp; refine hK _ ?_; clear hK K hA hB A B))
        | (refine canL_guard_go rfl (fun A B hA hB => ?_); go_simp; refine hB (fun K hK => ?_); go_simp; refine hK _ ?_; clear hK K hA hB A B))
      refine canL_go rfl rfl (fun KK hK => ?_)
      go_simp
      refine hK _ _ ?_
      clear hK KK
      go_simp
      refine canL_go rfl rfl (fun KK hK => ?_)
      go_simp
      refine hK _ _ ?_
      clear hK KK
      go_simp
      refine canL_go rfl rfl (fun KK hK => ?_)
      go_simp
      refine hK _ _ ?_
      clear hK KK
      go_simp
      refine canL_go rfl rfl (fun KK hK => ?_)
      go_simp
      refine hK _ _ ?_
      clear hK KK
      go_simp
      repeat (first
        | (refine canL_yes (v := ?_) rfl (wanted_none rfl) (fun w' hC => ?_) (fun K hK => ?_); rotate_left; (focus (go_simp; first | done | exact rfl)); go_simp; refine hK _ ?_; clear hK K)
        | (refine canL_guard rfl (fun A B hA hB => ?_); go_simp; first | (refine hA ⟨?_, fun w' hC => ?_, fun K hK => ?_⟩; rotate_left; (focus (go_simp; first | done | exact rfl)); go_simp; refine hK _ ?_; clear hK K hA hB A B) | (refine hB (fun K hK => ?_); go_simp; refine hK _ ?_; clear hK K hA hB A B))
        | (refine canL_guard_go rfl (fun A B hA hB => ?_); go_simp; refine hB (fun K hK => ?_); go_simp; refine hK _ ?_; clear hK K hA hB A B))
      refine canL_last rfl rfl rfl (fun KK hK => ?_)
      go_simp
      refine hK _ _ ?_
      clear hK KK
      go_simp
      refine canL_nil ?_
      go_wp2_with fail
      go_roundw
      case rel => exact ⟨k + 1, a', c', _, by omega, by go_num, by simpa using Hblk5.out, Hrows5.out, (by
        rintro b (hb | hb)
        · exact hRlo b hb
        · have : wr.drew.heap.size = wr.heap.size := rfl; have := hb.1; omega), Hby5.out, Hbw4.out.setCell hszD _⟩
      case measure => simp [intOf]; omega
    · have hknI : ¬ (k : Int) < (M.S.length : Int) := by omega
      obtain rfl : k = M.S.length := by omega
      rw [List.take_of_length_le (Nat.le_refl _)] at hrows
      obtain ⟨K, hKd, hKa, hK⟩ := ref_of_rows (M := M) (w := wr) (Rt := fun b => w.heap.size ≤ b ∧ b < D) (base := w.heap.size) (lo := D + 1) (d := D) (S := M.S) (after := after) (tv := .slice na ct.length nc) (ct := ct) (cap := c) (a := a) rfl hrows h0 h3 H5.out hblk (by omega) hszD hRlo (fun b h => h) hbyw hcl Hf.out ha H6.out
      have HK := Lib.hid hK; have HKd := Lib.hid hKd
      clear hK hKd hrows hbyw hblk
      go_wp2_with fail
      go_ret
      exact ⟨K, by rw [HKd.out]; rfl, HK.out, hbw, hKa⟩
end Go.Proofs.Ytgbcpcbcikadlaa
