/- Format. -/
import Derived.Test.YtmimplmeccoahaaDoorJ8
import Derived.Test.YtmimplmeccoahaaDoorDisk9
namespace Go.Proofs.YtmimplmeccoahaaDoor
open Go.RowKit
set_option linter.unusedVariables false
set_option maxRecDepth 20000
attribute [local go_sem] opC upC

theorem seal_alloc_sector (h : Bool) (old : Value) : Instr.alloc 78 h old = AL 78 h old := rfl
attribute [local go_sem ↓] seal_alloc_sector

theorem run_AL_sector (w : World) : (AL 78 true (.tuple #[])).run Tryd.prog w = .ok (.pointer (some ⟨w.heap.size, 0, none⟩)) (w.alloc (.cells (zero64.map B).toArray 78)) := by kernel_rfl

def zeroWs (n : Nat) : List (Nat × List UInt8) := (List.range n).map fun i => (i, List.replicate 64 0)
theorem zeroWs_length (n : Nat) : (zeroWs n).length = n := by simp [zeroWs]
theorem zeroWs_take (n i : Nat) (h : i < n) : (zeroWs n).take (i + 1) = (zeroWs n).take i ++ [(i, List.replicate 64 0)] := by
  rw [List.take_succ_eq_append_getElem (by rw [zeroWs_length]; exact h)]
  simp [zeroWs]

theorem formatM_def (M : MD) : formatM M = writeAll M (zeroWs M.S.length ++ [(0, headB 0)]) := rfl

theorem format_nil (w : World) :
    Calls Tryd.prog 21 #[.pointer none] w fun e w' => e = .returned (.tuple #[.pointer none, .int .i64 9]) ∧ w = w' := by
  have hc := Lib.hid (jcheck_nil w)
  go_enter Tryd.func21, Tryd.ntmps21
  go_wp2_with fail
  refine hc.out.mono ?_
  rintro e w' ⟨rfl, rfl⟩
  go_wp2_with fail
  go_ret2
  exact ⟨rfl, rfl⟩

theorem format_small (w : World) (K : DK) (M : MD) (hd : DiskAt w K M) (h8 : M.S.length < 8) :
    Calls Tryd.prog 21 #[.pointer (some ⟨K.d, 0, none⟩)] w fun e w' => e = .returned (.tuple #[.pointer none, .int .i64 6]) ∧ w = w' := by
  have hc := jcheck_any w K M hd
  rw [if_pos h8] at hc
  have hc := Lib.hid hc
  go_enter Tryd.func21, Tryd.ntmps21
  go_wp2_with fail
  refine hc.out.mono ?_
  rintro e w' ⟨rfl, rfl⟩
  go_wp2_with fail
  go_ret2
  exact ⟨rfl, rfl⟩

set_option maxHeartbeats 2000000 in
theorem format_any (w : World) (K : DK) (M : MD) (hd : DiskAt w K M) (h8 : 8 ≤ M.S.length) (hq : Quarter w) (h00 : ¬ K.foot 0) (hw : M.writes + 65540 < 4611686018427387904) :
    Calls Tryd.prog 21 #[.pointer (some ⟨K.d, 0, none⟩)] w fun e w' => ∃ K', K'.d = K.d ∧ (∀ b, K'.foot b → K.foot b) ∧ Only K.foot w w' ∧
      (((formatM M).2 = 0 ∧ ∃ jb, e = .returned (.tuple #[.pointer (some ⟨jb, 0, none⟩), .int .i64 0]) ∧ w.heap.size ≤ jb ∧ JAt w' ⟨jb, K', none_⟩ (formatM M).1 ⟨0, [], false⟩) ∨
       ((formatM M).2 ≠ 0 ∧ e = .returned (.tuple #[.pointer none, .int .i64 (formatM M).2]) ∧ DiskAt w' K' (formatM M).1)) := by
  have hle := hd.le
  have hc := jcheck_any w K M hd
  rw [if_neg (by omega)] at hc
  have hal := run_AL_sector w
  obtain ⟨w1, hw1⟩ : ∃ w1, w1 = w.alloc (.cells (zero64.map B).toArray 78) := ⟨_, rfl⟩
  have hs1 : Blk w1 w.heap.size (List.replicate 64 (B 0)) 78 := by rw [hw1]; have := (SecAt.new w zero64 zero64_length).1; simpa [zero64] using this
  have hk1 : Below w.heap.size w w1 := by rw [hw1]; exact kept_alloc _ _
  have hz1 : w1.heap.size = w.heap.size + 1 := by rw [hw1]; simp
  have hd1 := hd.kept hk1
  have ho1 : Only K.foot w w1 := Only.of_below hk1
  rw [← hw1] at hal
  clear hw1
  have hKlt := hd.lt
  have hsz := size_any w1 K M hd1
  have hq0 : ∀ w', Only K.foot w w' → Quarter w' := fun w' ho => hq.keep (ho.block 0 (by obtain ⟨t, fz, hh⟩ := hq; exact lt_of_block hh) h00)
  have h0lt : 0 < w.heap.size := by obtain ⟨t, fz, hh⟩ := hq; exact lt_of_block hh
  rw [formatM_def]
  obtain ⟨ws, hws⟩ : ∃ ws, ws = zeroWs M.S.length := ⟨_, rfl⟩
  have hwsl : ws.length = M.S.length := by rw [hws, zeroWs_length]
  have hwst : ∀ i, i < M.S.length → ws.take (i + 1) = ws.take i ++ [(i, List.replicate 64 0)] := fun i hi => by rw [hws]; exact zeroWs_take _ i hi
  rw [← hws]
  clear hws
  generalize hn : M.S.length = n at *
  have hnI : (n : Int) ≤ 65536 := by omega
  have Hc := Lib.hid hc; have Hsz := Lib.hid hsz; have Hwst := Lib.hid hwst
  clear hc hsz hwst
  go_enter Tryd.func21, Tryd.ntmps21
  go_wp2_with fail
  refine Hc.out.mono ?_
  rintro e w' ⟨rfl, rfl⟩
  go_wp2_with fail
  refine Hsz.out.mono ?_
  rintro e w' ⟨rfl, rfl⟩
  go_wp2_with fail
  go_loopw [16] (fun i wr => ∃ k K' M', k ≤ n ∧ i = .int .i64 (k : Int) ∧ K'.d = K.d ∧ (∀ b, K'.foot b → K.foot b) ∧ DiskAt wr K' M' ∧ writeAll M (ws.take k) = (M', 0) ∧ Blk wr w.heap.size (List.replicate 64 (B 0)) 78 ∧ Only K.foot w wr ∧ M'.S.length = n ∧ M'.writes ≤ M.writes + k) (fun i _ => n - (intOf i).toNat)
  case atStart => exact ⟨0, K, M, by omega, rfl, rfl, fun _ h => h, hd1, rfl, hs1, ho1, hn, by omega⟩
  case round =>
    obtain ⟨k, K', M', hk, rfl, hKd, hKf, hdW, hwa, hblk, honly, hlen, hwr⟩ := hrel
    clear hd1 hs1 ho1 hal hk1
    by_cases hkl : k < n
    · have hklI : (k : Int) < (n : Int) := by omega
      have hby : Bytes (fun b => b = w.heap.size) wr (.slice (some ⟨w.heap.size, 0, none⟩) 64 64) (List.replicate 64 0) := bytes_of_sector hblk _ rfl
      have hwrc := wr_any wr K' M' hdW k (by omega) (by omega) _ _ _ hby (by simp) (fun b e h => by have := hKlt b (hKf b h); omega)
      rw [hKd] at hwrc
      have hsn := writeAll_snoc M (ws.take k) k (List.replicate 64 0) (by rw [hwa])
      rw [← Hwst.out k hkl, hwa] at hsn
      have hwl := wr_len M' k (List.replicate 64 0)
      generalize M'.wr k (List.replicate 64 0) = mq at *
      obtain ⟨M2, r⟩ := mq
      dsimp only at hwrc hwl
      have Hwrc := Lib.hid hwrc; have Hsn := Lib.hid hsn
      clear hwrc hsn
      go_wp2_with fail
      refine Hwrc.out.mono ?_
      rintro e w2 ⟨rfl, ⟨K2, hK2, hKf2, hd2⟩, ho2, hs2⟩
      have hon2 := honly.trans ho2 fun i hi => .inl (hKf i hi)
      have hblk2 := hblk.keep (ho2.block _ hblk.lt fun h => by have := hKlt _ (hKf _ h); omega)
      by_cases hr : r = 0
      · subst hr
        have Hd2 := Lib.hid hd2; have Hon2 := Lib.hid hon2; have Hb2 := Lib.hid hblk2
        clear hd2 hon2 hblk2 hblk honly hdW
        go_wp2_with fail
        go_roundw
        case rel => exact ⟨k + 1, K2, M2, by omega, by go_num, by rw [hK2], fun b hb => hKf b (hKf2 b hb), Hd2.out, Hsn.out, Hb2.out, Hon2.out, by omega, by omega⟩
        case measure => simp [intOf]; omega
      · have hrb : (r != 0) = true := bne_iff_ne.2 hr
        have hfail : writeAll M (ws ++ [(0, headB 0)]) = (M2, r) := by
          refine writeAll_fail M M2 r _ (k + 1) ?_ hr
          rw [List.take_append_of_le_length (by omega)]
          exact Hsn.out
        have Hd2 := Lib.hid hd2; have Hon2 := Lib.hid hon2; have Hfail := Lib.hid hfail
        clear hd2 hon2 hblk2 hblk honly hdW hfail
        go_wp2_with fail
        go_ret2
        rw [Hfail.out]
        exact ⟨K2, by rw [hK2], fun b hb => hKf b (hKf2 b hb), Hon2.out, .inr ⟨hr, rfl, Hd2.out⟩⟩
    · have hklI : ¬ (k : Int) < (n : Int) := by omega
      have hkn : k = n := by omega
      subst hkn
      rw [List.take_of_length_le (by omega)] at hwa
      have hhead := head_any wr (hq0 wr honly) (by have := honly.size; omega) 0 (by omega)
      have hsnoc := writeAll_snoc M ws 0 (headB 0) (by rw [hwa])
      rw [hwa] at hsnoc
      have Hhead := Lib.hid hhead; have Hsnoc := Lib.hid hsnoc
      clear hhead hsnoc hblk
      go_wp2_with fail
      refine Hhead.out.mono ?_
      rintro e w4 ⟨sb, rfl, hsb, hsec, hb4⟩
      have hd4 := hdW.kept hb4
      have hon4 : Only K.foot w w4 := honly.trans (Only.of_below (F := none_) hb4) fun i hi => hi.elim
      have hwrc := wr_any w4 K' M' hd4 0 (by omega) (by omega) _ _ _ hsec.bytes hsec.2 (fun b e h => by have := hKlt b (hKf b h); have := honly.size; omega)
      rw [hKd] at hwrc
      have hsn := Hsnoc.out
      have hwl := wr_len M' 0 (headB 0)
      try dsimp only at hsn
      generalize M'.wr 0 (headB 0) = mq at *
      obtain ⟨M2, r⟩ := mq
      dsimp only at hwrc hwl
      have Hwrc := Lib.hid hwrc; have Hsn2 := Lib.hid hsn
      clear hwrc hsn Hsnoc
      go_wp2_with fail
      refine Hwrc.out.mono ?_
      rintro e w2 ⟨rfl, ⟨K2, hK2, hKf2, hd2⟩, ho2, hs2⟩
      have hon2 := hon4.trans ho2 fun i hi => .inl (hKf i hi)
      have Hd2 := Lib.hid hd2; have Hon2 := Lib.hid hon2
      clear hd2 hon2 honly hdW hd4 hon4
      by_cases hr : r = 0
      · subst hr
        go_wp2_with fail
        go_ret2
        rw [Hsn2.out]
        refine ⟨K2, by rw [hK2], fun b hb => hKf b (hKf2 b hb), Hon2.out.alloc _, .inl ⟨rfl, _, rfl, by have := Hon2.out.size; omega, ?_⟩⟩
        refine ⟨Hd2.out.kept (kept_alloc _ _), ⟨none, 0, none_, ?_, RowsIn.nil _ 0, fun b hb => by rcases hb with hb | hb; exact absurd hb (by simp [Value.ownBlock]); exact hb.elim⟩, ⟨fun h => by have h1 := hKlt _ (hKf _ (hKf2 _ h)); have := Hon2.out.size; dsimp only at h1; omega, fun b hb => hb.elim⟩, by show 8 ≤ M2.S.length; omega, by simp [takenL], by simp, fun b hb => by simp at hb⟩
        have := Blk.new w2 #[.pointer (some ⟨K.d, 0, none⟩), .int .u32 0, .slice none 0 0, .int .i64 0, .bool false] 69
        rw [hs2] at this
        simpa [JBlk, takenL, hK2] using this
      · have hrb : (r != 0) = true := bne_iff_ne.2 hr
        go_wp2_with fail
        go_ret2
        rw [Hsn2.out]
        exact ⟨K2, by rw [hK2], fun b hb => hKf b (hKf2 b hb), Hon2.out, .inr ⟨hr, rfl, Hd2.out⟩⟩
end Go.Proofs.YtmimplmeccoahaaDoor
