/- The acts of a life that do not write records. -/
import Derived.Test.YtmimplmeccoahaaDoorKeepC
namespace Go.Proofs.YtmimplmeccoahaaDoor
open Go.RowKit
set_option linter.unusedVariables false
set_option maxRecDepth 20000
attribute [local go_sem] opC upC

theorem laterF_cell {F : Blks} {w w' : World} (h : LaterF F w w') {b : Nat} (hb : b < w.heap.size) (hf : ¬ F b) (i : Nat) {v : Value} (hv : w.cell? ⟨b, i, none⟩ = some v) : w'.cell? ⟨b, i, none⟩ = some v := by
  have := h.block b hb hf
  unfold World.cell? at *
  rw [show (⟨b, i, none⟩ : Addr).block = b from rfl, this]
  exact hv

/-- the box of an act -/
def boxed (w : World) (kind an am : Int) (v : Value) : World := w.alloc (.cells #[.int .u8 kind, .int .u16 an, .int .u16 am, v] 32)
theorem boxed_cells (w : World) (kind an am : Int) (v : Value) : (boxed w kind an am v).cell? ⟨w.heap.size, 0, none⟩ = some (.int .u8 kind) ∧ (boxed w kind an am v).cell? ⟨w.heap.size, 1, none⟩ = some (.int .u16 an) ∧ (boxed w kind an am v).cell? ⟨w.heap.size, 2, none⟩ = some (.int .u16 am) ∧ (boxed w kind an am v).cell? ⟨w.heap.size, 3, none⟩ = some v := by
  have hb : Blk (boxed w kind an am v) w.heap.size _ _ := Blk.new w #[.int .u8 kind, .int .u16 an, .int .u16 am, v] 32
  exact ⟨hb.cell 0, hb.cell 1, hb.cell 2, hb.cell 3⟩


set_option maxRecDepth 100000 in
set_option maxHeartbeats 1500000 in
theorem act_fail (w : World) (lo N x n g c : Nat) (hL : LifeAtN w lo N x n g c) (hq : Quarter w) (kind an am : Int) (v : Value) (l : List UInt8) (G : Blks) (hB : Bytes G w v l) (hk : kind % 8 = 4) (hkd : 0 ≤ kind ∧ kind ≤ 255) (han : 0 ≤ an ∧ an ≤ 65535) :
    Calls Tryd.prog 25 #[.pointer (some ⟨x, 0, none⟩), .agg #[.int .u8 kind, .int .u16 an, .int .u16 am, v]] w fun e w' => e = .returned (.bool true) ∧ LifeAt w' lo x n g c ∧ Only (between lo N) w w' ∧ w.heap.size < w'.heap.size := by
  obtain ⟨⟨jk, M, J, F, vm, vy, op⟩, ⟨hblk, hj, hI, hT, hR, h0, hlx, hall, hfree, hn⟩, hg, hcw, hxN, hallN⟩ := hL
  dsimp only at *
  have hh0 : 0 < w.heap.size := by obtain ⟨t, fz, hh⟩ := hq; exact lt_of_block hh
  have hxlt := hblk.lt
  obtain ⟨w1, hw1⟩ : ∃ w1, w1 = boxed w kind an am v := ⟨_, rfl⟩
  have hb1 : Below w.heap.size w w1 := by rw [hw1]; exact kept_alloc _ _
  have hz1 : w1.heap.size = w.heap.size + 1 := by rw [hw1]; simp [boxed]
  obtain ⟨x0, x1, x2, x3⟩ := boxed_cells w kind an am v
  rw [← hw1] at x0 x1 x2 x3
  have hkx : ¬ jk.K.foot x := fun hf => (hall x (.inr (.inl hf))).2 rfl
  have hkb : ¬ jk.K.foot w.heap.size := fun hf => by have := hj.lt _ (.inr (.inl hf)); omega
  have hblk1 : Blk w1 x _ _ := hblk.keep (hb1.block _ hxlt)
  have c0 := hblk1.cell 0
  simp at c0
  have hd4 : (kind % 8 == 4) = true := by simp [hk]
  have s0 : ∀ w', LaterF jk.K.foot w1.drew w' → w'.cell? ⟨x, 0, none⟩ = some (.pointer (some ⟨jk.K.d, 0, none⟩)) := fun w' h => laterF_cell h (by show x < w1.heap.size; omega) hkx 0 c0
  have s1 : ∀ w', LaterF jk.K.foot w1.drew w' → w'.cell? ⟨w.heap.size, 1, none⟩ = some (.int .u16 an) := fun w' h => laterF_cell h (by show w.heap.size < w1.heap.size; omega) hkb 1 x1
  have s3 : ∀ w', LaterF jk.K.foot w1.drew w' → w'.cell? ⟨w.heap.size, 3, none⟩ = some v := fun w' h => laterF_cell h (by show w.heap.size < w1.heap.size; omega) hkb 3 x3
  have hB1 : Bytes (fun b => b < w.heap.size) w1.drew v l := by
    have h0 : Bytes (fun b => b < w.heap.size) w v l := by
      obtain ⟨a, cap, rfl, hc, hm, hz, hx⟩ := hB
      refine ⟨a, cap, rfl, hc, hm, hz, ?_⟩
      rcases hx with h | ⟨b', off, L, t, fz, h1, h2, h3, h4, h5⟩
      · exact .inl h
      · exact .inr ⟨b', off, L, t, fz, h1, lt_of_block h3, h3, h4, h5⟩
    exact h0.keep fun b hb _ => hb1.block b hb
  have hq1 : Quarter w1.drew := hq.keep (hb1.block 0 hh0)
  have HR1 := Lib.hid (recognizable_any w1.drew hq1 _ _ _ hB1)
  obtain ⟨a, cap, rfl, -⟩ := hB
  have Hj := Lib.hid hj; have HR := Lib.hid hR; have Hfree := Lib.hid hfree; have Hall := Lib.hid hall; have HallN := Lib.hid hallN; have Hblk1 := Lib.hid hblk1; have Hk := Lib.hid hk; have Hblk := Lib.hid hblk; have Hz1 := Lib.hid hz1; have Hn := Lib.hid hn
  have hw1' := hw1
  unfold boxed at hw1'
  have Hw1 := Lib.hid hw1'
  rw [hw1'] at x0
  clear hj hR hfree hall hallN hblk1 hk hblk hw1 hz1 hn
  clear hB1 c0 x1 x2 x3 hw1'
  go_enter Tryd.func25, Tryd.ntmps25
  go_wp2_with fail
  refine wp_region_can (LaterF jk.K.foot) [(0, true), (1, true), (2, true), (3, true), (4, true), (5, true), (6, true), (7, true), (8, true), (9, true), (10, false), (11, false), (12, true), (13, true)] (by kernel_rfl) (by kernel_rfl) (laterF_refl _) (laterF_trans _) ?_
  rw [← Hw1.out]
  repeat (first
    | (refine can_yes (v := ?_) rfl (wanted_none rfl) (fun w' hC => ?_) (fun K hK => ?_); rotate_left; (focus (go_simp; (try simp (disch := omega) only [IntWalk.i64_in]); (try simp (disch := omega) only [IntWalk.u32_in]); (try simp (disch := omega) only [IntWalk.u8_in]); (try simp (disch := omega) only [IntWalk.i64_quo]); (try simp (disch := omega) only [IntWalk.rem_in]); first | done | exact rfl)); go_simp; (try simp (disch := omega) only [IntWalk.i64_in]); (try simp (disch := omega) only [IntWalk.u32_in]); (try simp (disch := omega) only [IntWalk.u8_in]); (try simp (disch := omega) only [IntWalk.i64_quo]); (try simp (disch := omega) only [IntWalk.rem_in]); refine hK _ ?_; clear hK K)
    | (refine can_guard rfl (fun A B hA hB => ?_); go_simp; first | (refine hA ⟨?_, fun w' hC => ?_, fun K hK => ?_⟩; rotate_left; (focus (go_simp; (try simp (disch := omega) only [IntWalk.i64_in]); (try simp (disch := omega) only [IntWalk.u32_in]); (try simp (disch := omega) only [IntWalk.u8_in]); (try simp (disch := omega) only [IntWalk.i64_quo]); (try simp (disch := omega) only [IntWalk.rem_in]); first | done | exact rfl)); go_simp; (try simp (disch := omega) only [IntWalk.i64_in]); (try simp (disch := omega) only [IntWalk.u32_in]); (try simp (disch := omega) only [IntWalk.u8_in]); (try simp (disch := omega) only [IntWalk.i64_quo]); (try simp (disch := omega) only [IntWalk.rem_in]); refine hK _ ?_; clear hK K hA hB A B) | (refine hB (fun K hK => ?_); go_simp; (try simp (disch := omega) only [IntWalk.i64_in]); (try simp (disch := omega) only [IntWalk.u32_in]); (try simp (disch := omega) only [IntWalk.u8_in]); (try simp (disch := omega) only [IntWalk.i64_quo]); (try simp (disch := omega) only [IntWalk.rem_in]); refine hK _ ?_; clear hK K hA hB A B))
    | (refine can_guard_go rfl (fun A B hA hB => ?_); go_simp; refine hB (fun K hK => ?_); go_simp; (try simp (disch := omega) only [IntWalk.i64_in]); (try simp (disch := omega) only [IntWalk.u32_in]); (try simp (disch := omega) only [IntWalk.u8_in]); (try simp (disch := omega) only [IntWalk.i64_quo]); (try simp (disch := omega) only [IntWalk.rem_in]); refine hK _ ?_; clear hK K hA hB A B))
  refine can_go rfl rfl (fun KK hK => ?_)
  go_simp
  refine HR1.out.mono ?_
  rintro e w2 ⟨s, rfl, hs, hni, hb2, hk2⟩
  refine ⟨_, rfl, LaterF.of_below hk2, hK _ _ ?_⟩
  clear hK KK
  go_simp
  have hz1 := Hz1.out
  have hk2' : Below w.heap.size w w2 := hb1.drew.trans (hk2.mono (show w.heap.size ≤ w1.heap.size by omega))
  have hj2 : JAt w2 jk M J := Hj.out.kept hk2'
  have hf := fail_int w2 jk.K M hj2.disk (an % 50) (by omega) (by omega) (fun b => b = w1.heap.size) _ s (blk_bytes64 hb2 hs _ rfl) hs
  have Hf := Lib.hid hf; have Hj2 := Lib.hid hj2; have Hb2 := Lib.hid hb2
  have Hs := Lib.hid hs
  clear hf hj2 hb2 HR1 hz1 hs
  refine can_go rfl rfl (fun KK hK => ?_)
  go_simp
  refine Hf.out.mono ?_
  rintro e w3 ⟨rfl, ⟨K', hK', hKf, hd3⟩, ho3⟩
  refine ⟨_, rfl, ho3, hK _ _ ?_⟩
  clear hK KK
  go_simp
  repeat (first
    | (refine can_yes (v := ?_) rfl (wanted_none rfl) (fun w' hC => ?_) (fun K hK => ?_); rotate_left; (focus (go_simp; (try simp (disch := omega) only [IntWalk.i64_in]); (try simp (disch := omega) only [IntWalk.u32_in]); (try simp (disch := omega) only [IntWalk.u8_in]); (try simp (disch := omega) only [IntWalk.i64_quo]); (try simp (disch := omega) only [IntWalk.rem_in]); first | done | exact rfl)); go_simp; (try simp (disch := omega) only [IntWalk.i64_in]); (try simp (disch := omega) only [IntWalk.u32_in]); (try simp (disch := omega) only [IntWalk.u8_in]); (try simp (disch := omega) only [IntWalk.i64_quo]); (try simp (disch := omega) only [IntWalk.rem_in]); refine hK _ ?_; clear hK K)
    | (refine can_guard rfl (fun A B hA hB => ?_); go_simp; first | (refine hA ⟨?_, fun w' hC => ?_, fun K hK => ?_⟩; rotate_left; (focus (go_simp; (try simp (disch := omega) only [IntWalk.i64_in]); (try simp (disch := omega) only [IntWalk.u32_in]); (try simp (disch := omega) only [IntWalk.u8_in]); (try simp (disch := omega) only [IntWalk.i64_quo]); (try simp (disch := omega) only [IntWalk.rem_in]); first | done | exact rfl)); go_simp; (try simp (disch := omega) only [IntWalk.i64_in]); (try simp (disch := omega) only [IntWalk.u32_in]); (try simp (disch := omega) only [IntWalk.u8_in]); (try simp (disch := omega) only [IntWalk.i64_quo]); (try simp (disch := omega) only [IntWalk.rem_in]); refine hK _ ?_; clear hK K hA hB A B) | (refine hB (fun K hK => ?_); go_simp; (try simp (disch := omega) only [IntWalk.i64_in]); (try simp (disch := omega) only [IntWalk.u32_in]); (try simp (disch := omega) only [IntWalk.u8_in]); (try simp (disch := omega) only [IntWalk.i64_quo]); (try simp (disch := omega) only [IntWalk.rem_in]); refine hK _ ?_; clear hK K hA hB A B))
    | (refine can_guard_go rfl (fun A B hA hB => ?_); go_simp; refine hB (fun K hK => ?_); go_simp; (try simp (disch := omega) only [IntWalk.i64_in]); (try simp (disch := omega) only [IntWalk.u32_in]); (try simp (disch := omega) only [IntWalk.u8_in]); (try simp (disch := omega) only [IntWalk.i64_quo]); (try simp (disch := omega) only [IntWalk.rem_in]); refine hK _ ?_; clear hK K hA hB A B))
  refine can_nil ?_
  go_wp2_with fail
  go_ret
  have hz1 := Hz1.out; have hn := Hn.out
  have hj3 := Hj2.out.onDisk hd3 hK' hKf ho3 rfl
  have hz2 := hk2'.size
  have hz3 := ho3.size
  have ho : Only (between lo N) w w3 := (Only.of_below (F := between lo N) hk2').trans (ho3.mono (G := between lo N) fun b hb => ⟨(Hall.out b (.inr (.inl hb))).1, HallN.out b (.inr (.inl hb))⟩) (fun i hi => .inl hi)
  have hF3 : ∀ b, F b → w3.heap[b]? = w.heap[b]? := fun b hb => by
    have h1 := Hfree.out b hb
    rw [ho3.block b (by omega) (fun h => h1.2.2 (.inr (.inl h))), hk2'.block b h1.1]
  refine ⟨rfl, ⟨⟨⟨jk.j, K', jk.O⟩, { M with fault := some ((an % 50).toNat, s) }, J, F, vm, vy, op⟩, ⟨?_, hj3, hI, ?_, HR.out.keep (fun b hb _ => hF3 b hb) (by omega), h0, hlx, fun b hb => ?_, fun b hb => ?_, hn⟩, hg, hcw⟩, ho, by have : w1.heap.size ≤ w2.heap.size := hk2.size; omega⟩
  · have e : K'.d = jk.K.d := hK'
    show Blk w3 x [.pointer (some ⟨K'.d, 0, none⟩), _, _, _, _] _
    rw [e]
    exact (Hblk.out.keep (hk2'.block _ hxlt)).only ho3 hkx
  · intro n' t' e
    simp at e
    rw [← e.2]
    exact hni
  · rcases hb with hb | hb | hb
    · exact Hall.out b (.inl hb)
    · rcases hKf b hb with h | h
      · exact Hall.out b (.inr (.inl h))
      · exact ⟨by omega, by omega⟩
    · exact Hall.out b (.inr (.inr hb))
  · have h1 := Hfree.out b hb
    refine ⟨by show b < w3.heap.size; omega, h1.2.1, fun hb' => ?_⟩
    rcases hb' with hb' | hb' | hb'
    · exact h1.2.2 (.inl hb')
    · rcases hKf b hb' with h | h
      · exact h1.2.2 (.inr (.inl h))
      · omega
    · exact h1.2.2 (.inr (.inr hb'))

set_option maxRecDepth 100000 in
set_option maxHeartbeats 1500000 in
theorem act_up (w : World) (lo N x n g c : Nat) (hL : LifeAtN w lo N x n g c) (hq : Quarter w) (kind an am : Int) (v : Value) (hk : kind % 8 = 6) (hkd : 0 ≤ kind ∧ kind ≤ 255) :
    Calls Tryd.prog 25 #[.pointer (some ⟨x, 0, none⟩), .agg #[.int .u8 kind, .int .u16 an, .int .u16 am, v]] w fun e w' => e = .returned (.bool true) ∧ LifeAt w' lo x n g c ∧ Only (between lo N) w w' ∧ w.heap.size < w'.heap.size := by
  obtain ⟨⟨jk, M, J, F, vm, vy, op⟩, ⟨hblk, hj, hI, hT, hR, h0, hlx, hall, hfree, hn⟩, hg, hcw, hxN, hallN⟩ := hL
  dsimp only at *
  have hh0 : 0 < w.heap.size := by obtain ⟨t, fz, hh⟩ := hq; exact lt_of_block hh
  have hxlt := hblk.lt
  obtain ⟨w1, hw1⟩ : ∃ w1, w1 = boxed w kind an am v := ⟨_, rfl⟩
  have hb1 : Below w.heap.size w w1 := by rw [hw1]; exact kept_alloc _ _
  have hz1 : w1.heap.size = w.heap.size + 1 := by rw [hw1]; simp [boxed]
  obtain ⟨x0, x1, x2, x3⟩ := boxed_cells w kind an am v
  rw [← hw1] at x0 x1 x2 x3
  have hkx : ¬ jk.K.foot x := fun hf => (hall x (.inr (.inl hf))).2 rfl
  have hkb : ¬ jk.K.foot w.heap.size := fun hf => by have := hj.lt _ (.inr (.inl hf)); omega
  have hblk1 : Blk w1 x _ _ := hblk.keep (hb1.block _ hxlt)
  have c0 := hblk1.cell 0
  simp at c0
  have hd4 : (kind % 8 == 4) = false := by simp [hk]
  have hd5 : (kind % 8 == 5) = false := by simp [hk]
  have hd7 : (kind % 8 == 7) = false := by simp [hk]
  have hd6 : (kind % 8 == 6) = true := by simp [hk]
  have hj1 : JAt w1 jk M J := hj.kept hb1
  have Hup := Lib.hid (up_any w1 jk.K M hj1.disk)
  have Hj1 := Lib.hid hj1
  have Hj := Lib.hid hj; have HR := Lib.hid hR; have Hfree := Lib.hid hfree; have Hall := Lib.hid hall; have HallN := Lib.hid hallN; have Hblk1 := Lib.hid hblk1; have Hk := Lib.hid hk; have Hblk := Lib.hid hblk; have Hz1 := Lib.hid hz1; have Hn := Lib.hid hn
  have hw1' := hw1
  unfold boxed at hw1'
  have Hw1 := Lib.hid hw1'
  rw [hw1'] at x0
  clear hj hR hfree hall hallN hblk1 hk hblk hw1 hz1 hn
  rw [hw1'] at c0
  clear x1 x2 x3 hw1' hj1
  go_enter Tryd.func25, Tryd.ntmps25
  go_wp2_with fail
  rw [← Hw1.out]
  refine Hup.out.mono ?_
  rintro e w2 ⟨rfl, hd2, ho2, hz2⟩
  go_wp2_with fail
  go_ret
  have hz1 := Hz1.out; have hn := Hn.out
  have hj2 := Hj1.out.onDisk hd2 rfl (fun b hb => .inl hb) ho2 rfl
  have ho : Only (between lo N) w w2 := (Only.of_below (F := between lo N) hb1).trans (ho2.mono (G := between lo N) fun b hb => ⟨(Hall.out b (.inr (.inl hb))).1, HallN.out b (.inr (.inl hb))⟩) (fun i hi => .inl hi)
  have hF2 : ∀ b, F b → w2.heap[b]? = w.heap[b]? := fun b hb => by
    have h1 := Hfree.out b hb
    rw [ho2.block b (by omega) (fun h => h1.2.2 (.inr (.inl h))), hb1.block b h1.1]
  exact ⟨rfl, ⟨⟨jk, { M with down := false }, J, F, vm, vy, op⟩, ⟨Hblk1.out.only ho2 hkx, hj2, hI, hT, HR.out.keep (fun b hb _ => hF2 b hb) (by omega), h0, hlx, Hall.out, fun b hb => ⟨by have := (Hfree.out b hb).1; show b < w2.heap.size; omega, (Hfree.out b hb).2⟩, hn⟩, hg, hcw⟩, ho, by omega⟩

set_option maxRecDepth 100000 in
set_option maxHeartbeats 1500000 in
theorem act_again (w : World) (lo N x n g c : Nat) (hL : LifeAtN w lo N x n g c) (hq : Quarter w) (kind an am : Int) (v : Value) (hk : kind % 8 = 5 ∨ kind % 8 = 7) (hkd : 0 ≤ kind ∧ kind ≤ 255) :
    Calls Tryd.prog 25 #[.pointer (some ⟨x, 0, none⟩), .agg #[.int .u8 kind, .int .u16 an, .int .u16 am, v]] w fun e w' => e = .returned (.bool true) ∧ LifeAt w' lo x n g c ∧ Only (between lo N) w w' ∧ w.heap.size < w'.heap.size := by
  have hL0 := hL
  obtain ⟨⟨jk, M, J, F, vm, vy, op⟩, ⟨hblk, hj, hI, hT, hR, h0, hlx, hall, hfree, hn⟩, hg, hcw, hxN, hallN⟩ := hL
  dsimp only at *
  have hh0 : 0 < w.heap.size := by obtain ⟨t, fz, hh⟩ := hq; exact lt_of_block hh
  have hxlt := hblk.lt
  obtain ⟨w1, hw1⟩ : ∃ w1, w1 = boxed w kind an am v := ⟨_, rfl⟩
  have hb1 : Below w.heap.size w w1 := by rw [hw1]; exact kept_alloc _ _
  have hz1 : w1.heap.size = w.heap.size + 1 := by rw [hw1]; simp [boxed]
  obtain ⟨x0, x1, x2, x3⟩ := boxed_cells w kind an am v
  rw [← hw1] at x0 x1 x2 x3
  have hkx : ¬ jk.K.foot x := fun hf => (hall x (.inr (.inl hf))).2 rfl
  have hkb : ¬ jk.K.foot w.heap.size := fun hf => by have := hj.lt _ (.inr (.inl hf)); omega
  have hblk1 : Blk w1 x _ _ := hblk.keep (hb1.block _ hxlt)
  have c0 := hblk1.cell 0
  simp at c0
  have hd4 : (kind % 8 == 4) = false := by rcases hk with h | h <;> simp [h]
  have hq1 : Quarter w1 := hq.keep (hb1.block 0 hh0)
  have Hag := Lib.hid (again_any w1 lo N x n g c (hL0.kept hb1) hq1)
  have Hj := Lib.hid hj; have HR := Lib.hid hR; have Hfree := Lib.hid hfree; have Hall := Lib.hid hall; have HallN := Lib.hid hallN; have Hblk1 := Lib.hid hblk1; have Hk := Lib.hid hk; have Hblk := Lib.hid hblk; have Hz1 := Lib.hid hz1; have Hn := Lib.hid hn
  have hw1' := hw1
  unfold boxed at hw1'
  have Hw1 := Lib.hid hw1'
  rw [hw1'] at x0
  clear hj hR hfree hall hallN hblk1 hk hblk hw1 hz1 hn
  rw [hw1'] at c0
  clear x1 x2 x3 hw1' hL0
  have ho : ∀ {w2 : World}, Only (between lo N) w1 w2 → Only (between lo N) w w2 := fun ho2 => (Only.of_below (F := between lo N) hb1).trans ho2 (fun i hi => .inl hi)
  rcases Hk.out with h5 | h7
  · have hd5 : (kind % 8 == 5) = true := by simp [h5]
    clear h5
    go_enter Tryd.func25, Tryd.ntmps25
    go_wp2_with fail
    rw [← Hw1.out]
    refine Hag.out.mono ?_
    rintro e w2 ⟨rfl, hL2, ho2⟩
    go_wp2_with fail
    go_ret
    exact ⟨rfl, hL2, ho ho2, by have := ho2.size; have := Hz1.out; omega⟩
  · have hd5 : (kind % 8 == 5) = false := by simp [h7]
    have hd7 : (kind % 8 == 7) = true := by simp [h7]
    clear h7
    go_enter Tryd.func25, Tryd.ntmps25
    go_wp2_with fail
    rw [← Hw1.out]
    refine Hag.out.mono ?_
    rintro e w2 ⟨rfl, hL2, ho2⟩
    go_wp2_with fail
    go_ret
    exact ⟨rfl, hL2, ho ho2, by have := ho2.size; have := Hz1.out; omega⟩
end Go.Proofs.YtmimplmeccoahaaDoor
