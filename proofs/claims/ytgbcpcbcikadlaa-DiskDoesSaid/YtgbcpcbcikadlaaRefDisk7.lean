/- The reference disk: New. -/
import Derived.Test.YtgbcpcbcikadlaaRefDisk6
import Derived.Test.YtgbcpcbcikadlaaRegion2
import Derived.Test.YtgbcpcbcikadlaaBRows
namespace Go.Proofs.Ytgbcpcbcikadlaa
open Go.RowKit
set_option linter.unusedVariables false
attribute [local go_sem ↓] seal_append seal_make_bytes
attribute [local go_sem] opC upC

theorem BytesOfOwn {R : Blks} {w : World} {lo : Nat} {v : Value} {S : List (List UInt8)} (h : RowsIn R w lo v S) (h0 : 0 < S.length) :
    ∃ g cap L, v = .slice (some ⟨g, 0, none⟩) S.length cap ∧ lo ≤ g ∧ ¬ R g ∧ S.length ≤ cap ∧ cap ≤ maxLen ∧ Blk w g L 28 ∧ L.length = cap ∧ ∀ i (h : i < S.length), ∃ v, L[i]? = some v ∧ Bytes R w v S[i] := by
  have hno := fun g hg => (h.own (g := g) hg)
  obtain ⟨vals, hown, hv, hR⟩ := h
  rcases hown.2 with ⟨rfl, h1⟩ | ⟨g, cap, cur, rfl, hlo, hb, hc, hm, hs, ht⟩
  · omega
  · refine ⟨g, cap, cur.toList, rfl, hlo, (hno g rfl).2.2, hc, hm, by unfold Blk; simpa using hb, by simpa using hs, fun i hi => ?_⟩
    obtain ⟨x, hx, hbx⟩ := hv i hi
    refine ⟨x, ?_, hbx⟩
    rw [← ht, List.getElem?_take] at hx
    split at hx
    · exact hx
    · cases hx

theorem ref_of_rows {w : World} {R Rt : Blks} {base lo d cap : Nat} {a : Option Addr} {S : List (List UInt8)} {M : MD} {after : Int} {tv : Value} {ct : List UInt8} (hS : M.S = S) (h : RowsIn R w lo (.slice a S.length cap) S) (h0 : 0 < S.length) (hn : S.length ≤ 65536) (h64 : ∀ s ∈ S, s.length = 64)
    (hd : Blk w d [.slice a S.length cap, .bool M.down, .bool M.fault.isSome, .int .i64 after, tv, .int .i64 (M.writes : Int)] 52) (hlo : d < lo) (hbd : base ≤ d) (hR : ∀ b, R b → lo ≤ b) (hRt : ∀ b, Rt b → base ≤ b ∧ b < d)
    (hct : Bytes Rt w tv ct) (hcl : ct.length ≤ 140737488355328) (hf : ∀ k t, M.fault = some (k, t) → after = (k : Int) ∧ ct = t) (ha : -9223372036854775808 ≤ after ∧ after ≤ 9223372036854775807) (h6 : ∀ k t, M.fault = some (k, t) → t.length = 64 ∧ k ≤ 9223372036854775807) :
    ∃ K : RK, K.d = d ∧ (∀ b, K.all b → base ≤ b) ∧ RefAt w K M := by
  obtain ⟨g, cap', L, hv, hlg, hRg, hc, hm, hL, hLl, hel⟩ := BytesOfOwn h h0
  simp at hv
  obtain ⟨rfl, rfl⟩ := hv
  have hRlt : ∀ b, R b → b < w.heap.size := fun b hb => by
    obtain ⟨_, _, _, hR'⟩ := h
    obtain ⟨L, fz, hL⟩ := hR' b hb
    exact lt_of_block hL
  have hdlt := hd.lt
  subst hS
  refine ⟨RK.mk d g (fun b => R b ∨ Rt b), rfl, ?_, ⟨by show d ≠ g; omega, ?_, hn, ⟨cap, after, tv, hc, hm, hd, ⟨L, hL, hLl, fun i hi => ?_⟩, ⟨ct, hct.mono fun b hb => .inr hb, hcl, hf⟩, ha⟩, h64, h6⟩⟩
  · intro b hb
    have hb : b = d ∨ b = g ∨ (R b ∨ Rt b) := hb
    rcases hb with rfl | rfl | hb | hb
    · exact hbd
    · omega
    · have := hR b hb; omega
    · exact (hRt b hb).1
  · rintro b (hb | hb)
    · exact ⟨by show b ≠ d; have := hR b hb; omega, fun e => hRg (show R g from (show b = g from e) ▸ hb), hRlt b hb⟩
    · have := hRt b hb
      exact ⟨by show b ≠ d; omega, by show b ≠ g; omega, by omega⟩
  · obtain ⟨v, hv, hbv⟩ := hel i hi
    exact ⟨v, hv, hbv.mono fun b hb => .inl hb⟩

theorem z64_replicate_succ (k : Nat) : List.replicate k (List.replicate 64 (0 : UInt8)) ++ [List.replicate 64 0] = List.replicate (k + 1) (List.replicate 64 0) := by rw [← List.replicate_succ']

theorem refNew_err (w : World) (n : Int) (h : n < 1 ∨ 65536 < n) :
    Calls Try.prog 22 #[.int .i64 n] w fun e w' => e = .returned (.tuple #[.pointer none, .int .i64 6]) ∧ w = w' := by
  by_cases h1 : n < 1
  · go_enter Try.func22, Try.ntmps22
    go_wp2_with fail
    go_ret2
    exact ⟨rfl, rfl⟩
  · have h2 : 65536 < n := by omega
    go_enter Try.func22, Try.ntmps22
    go_wp2_with fail
    go_ret2
    exact ⟨rfl, rfl⟩

set_option maxHeartbeats 1000000 in
theorem refNew_ok (w : World) (n : Nat) (h1 : 0 < n) (h2 : n ≤ 65536) :
    Calls Try.prog 22 #[.int .i64 (n : Int)] w fun e w' => ∃ K : RK, e = .returned (.tuple #[.pointer (some ⟨K.d, 0, none⟩), .int .i64 0]) ∧ RefAt w' K (MD.fresh n) ∧ Below w.heap.size w w' ∧ (∀ b, K.all b → w.heap.size ≤ b) := by
  have hn1 : 1 ≤ (n : Int) := by omega
  have hn2 : (n : Int) ≤ 65536 := by omega
  have hD := Blk.new w #[.slice none 0 0, .bool false, .bool false, .int .i64 0, .slice none 0 0, .int .i64 0] 52
  have hk1 := kept_alloc w (.cells #[.slice none 0 0, .bool false, .bool false, .int .i64 0, .slice none 0 0, .int .i64 0] 52)
  have HD := Lib.hid hD; clear hD
  go_enter Try.func22, Try.ntmps22
  go_wp2_with fail
  go_loopw [5] (fun i wr => ∃ (k : Nat) (a : Option Addr) (cap : Nat) (R : Blks), k ≤ n ∧ i = .int .i64 (k : Int) ∧ Blk wr w.heap.size [.slice a k cap, .bool false, .bool false, .int .i64 0, .slice none 0 0, .int .i64 0] 52 ∧
      RowsIn R wr (w.heap.size + 1) (.slice a k cap) (List.replicate k (List.replicate 64 0)) ∧ (∀ b, R b → w.heap.size + 1 ≤ b) ∧ Below w.heap.size w wr) (fun i _ => n - (intOf i).toNat)
  case atStart => exact ⟨0, none, 0, none_, by omega, rfl, HD.out, RowsIn.nil _ _, fun b h => h.elim, hk1⟩
  case round =>
    obtain ⟨k, a, cap, R, hk, rfl, hblk, hrows, hRlo, hbw⟩ := hrel
    clear hk1
    have hszw : w.heap.size < wr.heap.size := hblk.lt
    by_cases hkn : k < n
    · have hknI : (k : Int) < (n : Int) := by omega
      obtain ⟨w1, hmk, hz, hkz⟩ : ∃ w1, (MK 28 (.int .i64 64) (.int .i64 64)).run Try.prog wr.drew = .ok (.slice (some ⟨wr.heap.size, 0, none⟩) 64 64) w1 ∧ Blk w1 wr.heap.size (List.replicate 64 (B 0)) 5 ∧ Below wr.heap.size wr.drew w1 := run_make_bytes wr.drew 64 (by omega)
      have hsz1 := hz.lt
      have hx : Bytes (fun b => b = wr.heap.size) w1 (.slice (some ⟨wr.heap.size, 0, none⟩) 64 64) (List.replicate 64 0) := bytes_of_sector hz _ rfl
      have hrows1 : RowsIn R w1 (w.heap.size + 1) (.slice a k cap) (List.replicate k (List.replicate 64 0)) := (hrows.kept (w' := wr.drew) (Below.refl _ _).drew).kept hkz
      obtain ⟨a', cap', w2, hap, hrows2, hg2⟩ := hrows1.append hx (by rintro b rfl; exact ⟨_, _, hz⟩) (by simp; omega) (by have := hkz.size; omega)
      simp only [List.length_replicate, z64_replicate_succ] at hap hrows2
      have hblk1 : Blk w1 w.heap.size _ _ := (hblk.keep (w' := wr.drew) rfl).keep (hkz.block w.heap.size hszw)
      have hob : ∀ q, Value.ownBlock (.slice a k cap) = some q → w.heap.size + 1 ≤ q ∧ q < wr.heap.size ∧ ¬ R q := fun q hq => hrows.own hq
      have hblk2 : Blk w2 w.heap.size [.slice a k cap, .bool false, .bool false, .int .i64 0, .slice none 0 0, .int .i64 0] 52 := (hblk1.alloc _).keep (hg2.block _ (by have := hblk1.lt; simp; omega) (fun e => by have := hob _ e.symm; omega))
      have k0 : LaterF (fun b => w.heap.size < b) wr.drew w1 := LaterF.of_below hkz
      have k1 : LaterF (fun b => w.heap.size < b) w1 (w1.alloc (.cells #[.slice (some ⟨wr.heap.size, 0, none⟩) 64 64] 28)) := LaterF.of_below (kept_alloc _ _)
      have k2 : LaterF (fun b => w.heap.size < b) (w1.alloc (.cells #[.slice (some ⟨wr.heap.size, 0, none⟩) 64 64] 28)) w2 := ⟨hg2.os, hg2.tape, hg2.output, hg2.size, fun q hq hn => hg2.block q hq (fun e => hn (by have := hob _ e.symm; omega))⟩
      have hbw2 : Below w.heap.size w w2 := ((hbw.drew.trans (hkz.mono (show w.heap.size ≤ wr.heap.size from hbw.size))).alloc (by have := hblk1.lt; omega) _).grown hg2 (by simp; have := hblk1.lt; omega) (fun q hq => by have := hob q hq; omega)
      have c0 := hblk2.cell 0
      have f0 := hblk2.free 0
      simp at c0
      have hblk3 := hblk2.set 0 (.slice a' (k + 1) cap')
      have hrows3 : RowsIn _ (w2.setCell ⟨w.heap.size, 0, none⟩ (.slice a' (k + 1) cap')) (w.heap.size + 1) (.slice a' (k + 1) cap') (List.replicate (k + 1) (List.replicate 64 0)) := hrows2.keep fun b hb _ => Below.heap_setCell _ ⟨w.heap.size, 0, none⟩ _ b (by
        rcases hb with hb | hb | hb
        · have := (hrows2.own hb).1; show b ≠ w.heap.size; omega
        · have := hRlo b hb; show b ≠ w.heap.size; omega
        · show b ≠ w.heap.size; omega)
      have Hblk3 := Lib.hid hblk3; have Hrows3 := Lib.hid hrows3; have Hbw2 := Lib.hid hbw2
      clear hblk3 hrows3 hbw2 hrows2 hblk2 hrows1 hx hz hg2 hkz hblk1 hrows
      go_wp2_with fail
      have q0 : ∀ w', LaterF (fun b => w.heap.size < b) wr.drew w' → w'.cell? ⟨w.heap.size, 0, none⟩ = some (.slice a k cap) := fun w' hh => by
        rw [World.cell?_of_block (w := wr.drew) (a := ⟨w.heap.size, 0, none⟩) (hh.block w.heap.size hszw (by omega))]; simpa using (hblk.keep (w' := wr.drew) rfl).cell 0
      refine wp_region_canL (LaterF (fun b => w.heap.size < b)) 10 [(0, true), (1, true), (2, true), (3, true), (4, true), (5, false), (6, false), (7, false), (8, true), (9, true), (10, false)] (by kernel_rfl) (by kernel_rfl) (by kernel_rfl) (laterF_refl _) (laterF_trans _) ?_
      repeat (first
        | (refine canL_yes (v := ?_) rfl (wanted_none rfl) (fun w' hC => ?_) (fun K hK => ?_); rotate_left; (focus (go_simp; first | done | exact rfl)); go_simp; refine hK _ ?_; clear hK K)
        | (refine canL_guard rfl (fun A B hA hB => ?_); go_simp; first | (refine hA ⟨?_, fun w' hC => ?_, fun K hK => ?_⟩; rotate_left; (focus (go_simp; first | done | exact rfl)); go_simp; refine hK _ ?_; clear hK K hA hB A B) | (refine hB (fun K hK => ?_); go_simp; refine hK _ ?_; clear hK K hA hB A B))
        | (refine canL_guard_go rfl (fun A B hA hB => ?_); go_simp; refine hB (fun K hK => ?_); go_simp; refine hK _ ?_; clear hK K hA hB A B))
      refine canL_go rfl rfl (fun K0 hK => ?_)
      go_simp
      refine hK _ _ ?_
      clear hK K0
      go_simp
      refine canL_go rfl rfl (fun K0 hK => ?_)
      go_simp
      refine hK _ _ ?_
      clear hK K0
      go_simp
      refine canL_go rfl rfl (fun K0 hK => ?_)
      go_simp
      refine hK _ _ ?_
      clear hK K0
      go_simp
      repeat (first
        | (refine canL_yes (v := ?_) rfl (wanted_none rfl) (fun w' hC => ?_) (fun K hK => ?_); rotate_left; (focus (go_simp; first | done | exact rfl)); go_simp; refine hK _ ?_; clear hK K)
        | (refine canL_guard rfl (fun A B hA hB => ?_); go_simp; first | (refine hA ⟨?_, fun w' hC => ?_, fun K hK => ?_⟩; rotate_left; (focus (go_simp; first | done | exact rfl)); go_simp; refine hK _ ?_; clear hK K hA hB A B) | (refine hB (fun K hK => ?_); go_simp; refine hK _ ?_; clear hK K hA hB A B))
        | (refine canL_guard_go rfl (fun A B hA hB => ?_); go_simp; refine hB (fun K hK => ?_); go_simp; refine hK _ ?_; clear hK K hA hB A B))
      refine canL_last rfl rfl rfl (fun K0 hK => ?_)
      go_simp
      refine hK _ _ ?_
      clear hK K0
      go_simp
      refine canL_nil ?_
      go_wp2_with fail
      go_roundw
      case rel => exact ⟨k + 1, a', cap', _, by omega, by go_num, by simpa using Hblk3.out, Hrows3.out, (by
        rintro b (hb | hb)
        · exact hRlo b hb
        · omega), Hbw2.out.setCell (Nat.le_refl _) _⟩
      case measure => simp [intOf]; omega
    · have hknI : ¬ (k : Int) < (n : Int) := by omega
      obtain rfl : k = n := by omega
      go_wp2_with fail
      go_ret2
      have hl : (List.replicate k (List.replicate 64 (0 : UInt8))).length = k := by simp
      obtain ⟨K, hKd, hKa, hK⟩ := ref_of_rows (M := MD.fresh k) (w := wr) (Rt := none_) (base := w.heap.size) (lo := w.heap.size + 1) (d := w.heap.size) (S := List.replicate k (List.replicate 64 0)) (after := 0) (tv := .slice none 0 0) (ct := []) (cap := cap) (a := a) rfl (by rw [hl]; exact hrows) (by rw [hl]; exact h1) (by rw [hl]; exact h2) (fun s hs => by rw [List.eq_of_mem_replicate hs]; simp)
        (by rw [hl]; exact hblk) (by omega) (by omega) hRlo (fun b h => h.elim) ⟨none, 0, rfl, by simp, by unfold maxLen; omega, fun _ => rfl, .inl rfl⟩ (by simp) (fun k t h => by simp [MD.fresh] at h) (by omega) (fun k t h => by simp [MD.fresh] at h)
      exact ⟨K, by rw [hKd]; rfl, hK, hbw, hKa⟩
end Go.Proofs.Ytgbcpcbcikadlaa
