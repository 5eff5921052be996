/- The reference journal: numbers as bytes, sealed sectors, heads. -/
import Derived.Test.YtmimplmeccoahaaDoorRJ3
import Derived.Lib.AppendZerosOnto
import Derived.Test.YtmimplmeccoahaaDoorSec35
import Derived.Test.YtmimplmeccoahaaDoorJ9
import Derived.Test.YtmimplmeccoahaaDoorP2
namespace Go.Proofs.YtmimplmeccoahaaDoor
open Go.RowKit
set_option linter.unusedVariables false
set_option maxRecDepth 20000
attribute [local go_sem ↓] seal_append
attribute [local go_sem] run_conv_const

theorem zeroCells_u8 (n : Nat) : (Builtin.zeroCells #[Value.int .u8 0] n).toList = List.replicate n (B 0) := by
  apply List.ext_getElem
  · simp [Builtin.zeroCells]
  · intro i h1 h2
    simp [Builtin.zeroCells, Nat.mod_one]
    rfl

/-- append(v, make([]byte, n)...) to a row of the call's own -/
theorem run_append_zeros (W : World) (base : Nat) (v : Value) (xs : List UInt8) (hown : W.ownsRow base 5 1 v xs.length (xs.map B)) (hx : 0 < xs.length) (n : Nat) (hn : 0 < n) (hlen : xs.length + n ≤ 140737488355328) (hbase : base ≤ W.heap.size) :
    ∃ v' w', (AP #[30, 3] 30 #[v, .int .i64 (n : Int)]).run Tryd.prog W = .ok v' w' ∧ w'.ownsRow base 5 1 v' (xs ++ List.replicate n 0).length ((xs ++ List.replicate n 0).map B) ∧ W.grownBy w' v.ownBlock := by
  obtain ⟨i0, hi, hz0, hz1, hz2⟩ := info_parts infoU8
  have hl : (xs ++ List.replicate n (0 : UInt8)).length = xs.length + n := by simp
  have hmap : ((xs ++ List.replicate n (0 : UInt8)).map B) = xs.map B ++ List.replicate n (B 0) := by simp
  rw [hl, hmap]
  obtain ⟨h1, h2⟩ := hown
  rcases h2 with ⟨rfl, h0⟩ | ⟨g, cap, cur, rfl, hbg, hg, hnc, hcm, hcs, htake⟩
  · omega
  · by_cases hroom : xs.length + n ≤ cap
    · have hfit : xs.length + (List.replicate n (B 0)).length ≤ cur.size := by rw [List.length_replicate, hcs]; omega
      have hst := run_storeCells_at (P := Tryd.prog) g xs.length 5 (List.replicate n (B 0)) 0 cur W hg (by simpa using hfit) (fun v hv => by obtain ⟨_, rfl⟩ := List.mem_replicate.1 hv; rfl)
      simp only [Nat.add_zero] at hst
      have hw : IntKind.i64.wrap (n : Int) = n := by rw [IntKind.wrap_i64]; omega
      have hneg : ¬ ((n : Int) < 0) := by omega
      have h48 : ¬ (281474976710656 < (n : Int)) := by omega
      have hk : n ≠ 0 := by omega
      have hzc : (Builtin.zeroCells #[Value.int .u8 0] n).toList = List.replicate n (B 0) := zeroCells_u8 n
      refine ⟨.slice (some ⟨g, 0, none⟩) (xs.length + n) cap, W.setRow g (List.take xs.length cur.toList ++ (List.replicate n (B 0) ++ List.drop (xs.length + n) cur.toList)).toArray, by
        unfold AP
        simp [Builtin.append_, run_underlying Tryd.underlying30, run_underlying Tryd.underlying3, sizeOf, typeInfo, zeroValue, hi, hz0, hz1, hz2, asInt, asIntOf, hw, hneg, h48, hk, hroom, Addr.add_lit, Value.cells, hzc, hst], ?_, ?_⟩
      · refine ⟨by simp, .inr ⟨g, cap, _, rfl, hbg, setRow_heap W g cur _ _ _ hg, hroom, hcm, ?_, ?_⟩⟩
        · simp
          rw [hcs]; omega
        · rw [show (cur.toList.take xs.length) = xs.map B from by simpa using htake]
          rw [show (xs.length + n) * 1 = (xs.map B ++ List.replicate n (B 0)).length from by simp, ← List.append_assoc]
          exact List.take_left
      · exact ⟨rfl, rfl, rfl, by simp, fun k _ hk => setRow_other W g k _ (fun e => hk (by simp [Value.ownBlock, e]))⟩
    · have holds : (Builtin.firstCells i0.size xs.length (.slice (some ⟨g, 0, none⟩) xs.length cap)).run Tryd.prog W.drew = .ok (xs.map B).toArray W.drew :=
        run_firstCells_some W.drew i0.size xs.length ⟨g, 0, none⟩ xs.length cap (xs.map B) (by rw [hz1]; simp) (fun j u hj => by
          have := (show W.ownsRow base 5 1 (.slice (some ⟨g, 0, none⟩) xs.length cap) xs.length (xs.map B) from ⟨h1, .inr ⟨g, cap, cur, rfl, hbg, hg, hnc, hcm, hcs, htake⟩⟩).cells (g := g) rfl j u hj
          simpa using this)
      have hr := Lib.run_append_grow_zeros (P := Tryd.prog) W 30 3 30 5 i0 _ .i64 .i64 Tryd.underlying30 Tryd.underlying3 hi hz0 (some ⟨g, 0, none⟩) xs.length cap (xs.map B) holds n hn (by omega) (by omega) (by omega) (by rw [hz2]; omega) (by rw [hz2]; exact growslice_fits (by omega) (by omega))
      have hge := grownCap_ge W (xs.length + n) cap 5
      refine ⟨_, _, hr, ?_, ?_⟩
      · refine ⟨by simp, .inr ⟨W.heap.size, _, _, rfl, hbase, heap_alloc_new W.drew _, hge, grownCap_le_maxLen W _ _ _ (by unfold maxLen; omega), ?_, ?_⟩⟩
        · simp [size_zeroCells, Value.cells]
          omega
        · have hzc := zeroCells_u8 n
          simp only [Array.toList_append, List.append_assoc]
          rw [show Value.cells (Value.int .u8 0) = #[Value.int .u8 0] from rfl, hzc, ← List.append_assoc, show (xs.length + n) * 1 = (xs.map B ++ List.replicate n (B 0)).length from by simp]
          exact List.take_left
      · exact ⟨rfl, rfl, rfl, by simp, fun k hk _ => Go.heap_alloc_old W.drew _ hk⟩

/-- append to a full row that nothing else is known of -/
theorem run_append_full (W : World) (base b1 : Nat) (xs : List UInt8) (c1 : ∀ j u, (xs.map B)[j]? = some u → W.cell? ⟨b1, j, none⟩ = some u) (F : Blks) (x : Value) (l : List UInt8) (hx : Bytes F W x l) (hl : 0 < l.length) (hlen : xs.length + l.length ≤ 100000) (hbase : base ≤ W.heap.size) :
    ∃ v' w', (AP #[30, 30] 30 #[.slice (some ⟨b1, 0, none⟩) xs.length xs.length, x]).run Tryd.prog W = .ok v' w' ∧ w'.ownsRow base 5 1 v' (xs ++ l).length ((xs ++ l).map B) ∧ W.grownBy w' none := by
  obtain ⟨i0, hi, hz0, hz1, hz2⟩ := info_parts infoU8
  obtain ⟨a, cap, rfl, hc, hm, hz, hx⟩ := hx
  obtain ⟨b, off, L, t, fz, rfl, hF, hg, hle, hr⟩ := hx.resolve_left (by rintro rfl; simp at hl)
  have hrun := run_append_grow (P := Tryd.prog) W 30 30 5 i0 _ Tryd.underlying30 hi hz0 ⟨b1, 0, none⟩ xs.length xs.length (xs.map B) (by rw [hz1]; simp) (fun j u hj => by rw [Addr.add_lit, Nat.zero_add]; exact c1 j u hj)
    ⟨b, off, none⟩ l.length cap (l.map B) (by rw [hz1]; simp) (fun j u hj => by
      have hjl : j < l.length := by have := (List.getElem?_eq_some_iff.1 hj).1; simpa using this
      rw [Addr.add_lit, cell_of_row W b (off + j) L t fz hg, hr j hjl]
      simp [List.getElem?_eq_getElem hjl] at hj
      simp [hj]) (by omega) (by omega) (by rw [hz2]; exact growslice_fits (by omega) (by omega))
  have hge := grownCap_ge W (xs.length + l.length) xs.length 5
  refine ⟨_, _, hrun, ?_, ⟨rfl, rfl, rfl, by simp, fun k hk _ => Go.heap_alloc_old W.drew _ hk⟩⟩
  rw [show (xs ++ l).length = xs.length + l.length from by simp]
  refine ⟨by simp, .inr ⟨W.heap.size, _, _, rfl, hbase, heap_alloc_new W.drew _, hge, grownCap_le_maxLen W _ _ _ (by unfold maxLen; omega), ?_, ?_⟩⟩
  · simp [size_zeroCells, Value.cells]
    omega
  · simp only [Array.toList_append, List.append_assoc]
    rw [← List.append_assoc, show (xs.length + l.length) * 1 = (xs.map B ++ l.map B).length from by simp, List.map_append]
    exact List.take_left

theorem num4_map (n : Nat) : (num4 n).map B = [.int .u8 ((n : Int) % 256), .int .u8 ((n : Int) / 256 % 256), .int .u8 ((n : Int) / 65536 % 256), .int .u8 ((n : Int) / 16777216 % 256)] := by
  simp [num4, B_ofNat]

theorem rnumber_any (w : World) (n : Nat) (hn : n ≤ 4294967295) :
    Calls Tryd.prog 85 #[.int .i64 (n : Int)] w fun e w' => e = .returned (.slice (some ⟨w.heap.size, 0, none⟩) 4 4) ∧ Blk w' w.heap.size ((num4 n).map B) 5 ∧ Below w.heap.size w w' := by
  have hb := Blk.new w #[.int .u8 ((n : Int) % 256), .int .u8 ((n : Int) / 256 % 256), .int .u8 ((n : Int) / 65536 % 256), .int .u8 ((n : Int) / 16777216 % 256)] 5
  have hk := kept_alloc w (.cells #[.int .u8 ((n : Int) % 256), .int .u8 ((n : Int) / 256 % 256), .int .u8 ((n : Int) / 65536 % 256), .int .u8 ((n : Int) / 16777216 % 256)] 5)
  rw [num4_map]
  have q1 := IntWalk.i64_in ((n : Int) / 256) (by omega)
  have q2 := IntWalk.i64_in ((n : Int) / 65536) (by omega)
  have q3 := IntWalk.i64_in ((n : Int) / 16777216) (by omega)
  have Hb := Lib.hid hb; have Hk := Lib.hid hk; have Hn := Lib.hid hn
  clear hb hk hn
  go_enter Tryd.func85, Tryd.ntmps85
  go_wp2_with fail
  go_ret
  exact ⟨rfl, Hb.out, Hk.out⟩

theorem num4_bytes {w : World} {g : Nat} {n : Nat} (h : Blk w g ((num4 n).map B) 5) (F : Blks) (hF : F g) : Bytes F w (.slice (some ⟨g, 0, none⟩) 4 4) (num4 n) := by
  have := bytes_of_blk h (by rw [num4_length]; unfold maxLen; omega) F hF
  rw [num4_length] at this
  exact this

theorem rsealed_any (w : World) (F : Blks) (v : Value) (l : List UInt8) (hv : Bytes F w v l) (hl : l.length = 60) :
    Calls Tryd.prog 86 #[v] w fun e w' => ∃ r, e = .returned r ∧ w'.ownsRow w.heap.size 5 1 r 64 ((sealed l).map B) ∧ Below w.heap.size w w' := by
  have hv0 : Bytes (fun b => b < w.heap.size) w v l := by
    obtain ⟨a, cap, rfl, hc, hm, hz, hx⟩ := hv
    refine ⟨a, cap, rfl, hc, hm, hz, ?_⟩
    rcases hx with h | ⟨b', off, L, t, fz, h1, h2, h3, h4, h5⟩
    · exact .inl h
    · exact .inr ⟨b', off, L, t, fz, h1, lt_of_block h3, h3, h4, h5⟩
  obtain ⟨xa, xc, w2, hr, hown, hk, hg, hby⟩ := run_clone w _ v l hv0 (by omega)
  have hsum := refSum_any w2 _ v l (hv0.keep fun b hb _ => hk.block b hb)
  have hz2 := hk.size
  obtain ⟨a, cap, rfl, -⟩ := id hv
  have hclt := crc_lt l
  obtain ⟨c, hc⟩ : ∃ c, crc l = c := ⟨_, rfl⟩
  rw [hc] at hsum hclt
  have Hsum := Lib.hid hsum; have Hown := Lib.hid hown; have Hk := Lib.hid hk; have Hc := Lib.hid hc; have Hl := Lib.hid hl
  have hwr := IntWalk.i64_in (c : Int) (by omega)
  have Hclt := Lib.hid hclt
  have Hn := Lib.hid (rnumber_any w2 c (by omega))
  clear hsum hown hk hg hby hv hv0 hc hl hclt
  go_enter Tryd.func86, Tryd.ntmps86
  go_wp2_with fail
  refine Hsum.out.mono ?_
  rintro e w' ⟨rfl, rfl⟩
  go_wp2_with fail
  refine Hn.out.mono ?_
  rintro e w3 ⟨rfl, hb3, hk3⟩
  have hown3 := owns_kept Hown.out hk3
  obtain ⟨v4, w4, hap, hown4, hg4⟩ := run_append_bytes w3 w.heap.size _ _ hown3 _ _ _ (num4_bytes hb3 (fun b => b = w2.heap.size) rfl) (by rw [Hl.out, num4_length]; omega) (by have := hk3.size; omega)
  have hb4 : Below w.heap.size w w4 := (Hk.out.trans (hk3.mono hz2)).grown hg4 (by have := hk3.size; omega) (fun q hq => by
    rcases hown3.2 with ⟨h, _⟩ | ⟨g', cap', cur, h, hlo, _⟩
    · rw [h] at hq; cases hq
    · rw [h] at hq; simp [Value.ownBlock] at hq; omega)
  have hs : l ++ num4 c = sealed l := by unfold sealed; rw [Hc.out]
  rw [hs] at hown4
  have hl4 : (sealed l).length = 64 := by unfold sealed; rw [List.length_append, Hl.out, num4_length]
  rw [hl4] at hown4
  have Hown4 := Lib.hid hown4; have Hb4 := Lib.hid hb4
  clear hown4 hb4 hown3 hb3 hg4 hs hl4
  go_wp2_with fail
  go_ret
  exact ⟨_, rfl, Hown4.out, Hb4.out⟩

theorem rhead_any (w : World) (g : Nat) (hg : g ≤ 4294967295) :
    Calls Tryd.prog 71 #[.int .i64 (g : Int)] w fun e w' => ∃ r, e = .returned r ∧ w'.ownsRow w.heap.size 5 1 r 64 ((headB g).map B) ∧ Below w.heap.size w w' := by
  obtain ⟨w1, hw1⟩ : ∃ w1, w1 = w.alloc (.cells #[.int .u8 72, .int .u8 78, .int .u8 75, .int .u8 74] 5 (4, 5)) := ⟨_, rfl⟩
  have hz1 : w1.heap.size = w.heap.size + 1 := by rw [hw1]; simp
  have hb1 : Below w.heap.size w w1 := by rw [hw1]; exact kept_alloc _ _
  have hc1 : ∀ j u, (magicB.map B)[j]? = some u → w1.cell? ⟨w.heap.size, j, none⟩ = some u := fun j u hj => by
    rw [hw1]
    unfold World.cell? World.alloc
    simp
    exact hj
  obtain ⟨w2, hw2⟩ : ∃ w2, w2 = w1.alloc (.cells ((num4 g).map B).toArray 5) := ⟨_, rfl⟩
  have Hn := Lib.hid (rnumber_any w1 g hg)
  have Hz1 := Lib.hid hz1; have Hb1 := Lib.hid hb1; have Hc1 := Lib.hid hc1
  clear hz1 hb1 hc1 hw2
  go_enter Tryd.func71, Tryd.ntmps71
  go_wp2_with fail
  rw [← hw1]
  refine Hn.out.mono ?_
  rintro e w3 ⟨rfl, hb3, hk3⟩
  have hz3 := hk3.size
  have hz1 := Hz1.out
  obtain ⟨v4, w4, hap, hown4, hg4⟩ := run_append_full w3 w.heap.size w.heap.size magicB (fun j u hj => by rw [hk3.cell (p := ⟨w.heap.size, j, none⟩) (show w.heap.size < w1.heap.size by omega)]; exact Hc1.out j u hj) _ _ _ (num4_bytes hb3 (fun b => b = w1.heap.size) rfl) (by rw [num4_length]; omega) (by rw [num4_length]; simp [magicB]) (by omega)
  rw [show magicB.length = 4 from rfl, hz1] at hap
  have hb4 : Below w.heap.size w w4 := (Hb1.out.trans (hk3.mono (by omega))).grown hg4 (by omega) (fun q hq => by cases hq)
  rw [show (magicB ++ num4 g).length = 8 from by simp [magicB, num4_length]] at hown4
  have Hown4 := Lib.hid hown4; have Hb4 := Lib.hid hb4
  clear hown4 hb4 hb3 hk3 hg4 hz3 hz1
  have hown4 := Hown4.out
  have hz4 : w.heap.size ≤ w4.heap.size := Hb4.out.size
  obtain ⟨v5, w5, hap5, hown5, hg5⟩ := run_append_zeros w4 w.heap.size v4 (magicB ++ num4 g) (by rw [show (magicB ++ num4 g).length = 8 from by simp [magicB, num4_length]]; exact hown4) (by simp [magicB]) 52 (by omega) (by simp [magicB, num4_length]) hz4
  rw [show ((52 : Nat) : Int) = 52 from rfl] at hap5
  have hb5 : Below w.heap.size w w5 := Hb4.out.grown hg5 hz4 (fun q hq => by
    rcases hown4.2 with ⟨h, _⟩ | ⟨g', cap', cur, h, hlo, _⟩
    · rw [h] at hq; cases hq
    · rw [h] at hq; simp [Value.ownBlock] at hq; omega)
  have hl60 : (magicB ++ num4 g ++ List.replicate 52 0).length = 60 := by simp [magicB, num4_length]
  have hby5 : Bytes (fun b => w.heap.size ≤ b) w5 v5 (magicB ++ num4 g ++ List.replicate 52 0) := Bytes.of_owns hown5 _ (fun k hk _ => hk)
  have Hs := Lib.hid (rsealed_any w5 _ v5 _ hby5 hl60)
  have Hb5 := Lib.hid hb5
  clear hown4 hown5 hby5 hb5 hg5 hl60 hz4
  go_wp2_with fail
  refine Hs.out.mono ?_
  rintro e w6 ⟨r, rfl, hown6, hb6⟩
  have Hown6 := Lib.hid hown6; have Hb6 := Lib.hid hb6
  clear hown6 hb6
  go_wp2_with fail
  go_ret
  have hz5 := Hb5.out.size
  refine ⟨_, rfl, ?_, Hb5.out.trans (Hb6.out.mono hz5)⟩
  obtain ⟨h1, h2⟩ := Hown6.out
  refine ⟨h1, ?_⟩
  rcases h2 with h2 | ⟨g', cap', cur, e, hlo, h3⟩
  · exact .inl h2
  · exact .inr ⟨g', cap', cur, e, by omega, h3⟩

/-- Write of the reference's disk, whatever its power -/
theorem rwr_any (w : World) (K : RK) (M : MD) (h : RefAt w K M) (i : Nat) (hi : i < M.S.length) (hw : M.writes < 4611686018427387904) (F : Blks) (v : Value) (l : List UInt8) (hv : Bytes F w v l) (hl : l.length = 64) (hF : ∀ b, F b → b ≠ K.d) :
    Calls Tryd.prog 35 #[.pointer (some ⟨K.d, 0, none⟩), .int .i64 (i : Int), v] w fun e w' => e = .returned (.int .i64 (M.wr i l).2) ∧
      (∃ K', K'.d = K.d ∧ (∀ b, K'.all b → K.all b ∨ w.heap.size ≤ b) ∧ RefAt w' K' (M.wr i l).1) ∧ Only K.foot w w' := by
  by_cases hd : M.down = true
  · have hc : M.chk (i : Int) = 341 := by unfold MD.chk; rw [if_pos hd]
    refine (refWrite_chk w K M i v h (by rw [hc]; omega)).mono ?_
    rintro e w' ⟨rfl, rfl⟩
    have e1 : M.wr i l = (M, 341) := by unfold MD.wr; rw [if_pos hd]
    rw [e1, hc]
    exact ⟨rfl, ⟨K, rfl, fun b hb => .inl hb, h⟩, Only.refl _ _⟩
  · have e1 : M.wr i l = M.write i l := by unfold MD.wr; rw [if_neg hd]
    rw [e1]
    exact refWrite_ok w K M h i hi (by simpa using hd) hw F v l hv hl hF
end Go.Proofs.YtmimplmeccoahaaDoor
/- The reference journal: Format. -/
namespace Go.Proofs.YtmimplmeccoahaaDoor
open Go.RowKit
set_option linter.unusedVariables false
set_option maxRecDepth 20000
attribute [local go_sem] opC upC
attribute [local go_sem ↓] seal_make_bytes

theorem rformat_nil (w : World) :
    Calls Tryd.prog 42 #[.pointer none] w fun e w' => e = .returned (.tuple #[.pointer none, .int .i64 9]) ∧ w = w' := by
  go_enter Tryd.func42, Tryd.ntmps42
  go_wp2_with fail
  go_ret2
  exact ⟨rfl, rfl⟩

theorem rformat_small (w : World) (K : RK) (M : MD) (h : RefAt w K M) (h8 : M.S.length < 8) :
    Calls Tryd.prog 42 #[.pointer (some ⟨K.d, 0, none⟩)] w fun e w' => e = .returned (.tuple #[.pointer none, .int .i64 6]) ∧ w = w' := by
  have hle := h.len
  obtain ⟨cap, hcap, c0, c1, -⟩ := h.row
  have h8I : (M.S.length : Int) < 8 := by omega
  clear h
  go_enter Tryd.func42, Tryd.ntmps42
  go_wp2_with fail
  go_ret2
  exact ⟨rfl, rfl⟩

def RFormRel (w : World) (d : Nat) (M : MD) (All : Blks) (n : Nat) (ws : List (Nat × List UInt8)) (i : Value) (wr : World) : Prop :=
  ∃ k K' M', k ≤ n ∧ i = .int .i64 (k : Int) ∧ K'.d = d ∧ (∀ b, RK.all K' b → All b ∨ w.heap.size ≤ b) ∧ RefAt wr K' M' ∧ writeAll M (ws.take k) = (M', 0) ∧ Only All w wr ∧ M'.S.length = n ∧ M'.writes ≤ M.writes + k

set_option maxHeartbeats 2000000 in
theorem rformat_any (w : World) (K : RK) (M : MD) (h : RefAt w K M) (h8 : 8 ≤ M.S.length) (hw : M.writes + 65540 < 4611686018427387904) :
    Calls Tryd.prog 42 #[.pointer (some ⟨K.d, 0, none⟩)] w fun e w' => ∃ K' : RK, K'.d = K.d ∧ (∀ b, K'.all b → K.all b ∨ w.heap.size ≤ b) ∧ Only K.all w w' ∧
      (((formatM M).2 = 0 ∧ ∃ jb, e = .returned (.tuple #[.pointer (some ⟨jb, 0, none⟩), .int .i64 0]) ∧ w.heap.size ≤ jb ∧ RJAt w' ⟨jb, K', none_⟩ (formatM M).1 ⟨0, [], false⟩) ∨
       ((formatM M).2 ≠ 0 ∧ e = .returned (.tuple #[.pointer none, .int .i64 (formatM M).2]) ∧ RefAt w' K' (formatM M).1)) := by
  have hle := h.len
  have hdlt := h.lt K.d (.inl rfl)
  obtain ⟨cap, hcap, c0, -⟩ := h.row
  rw [formatM_def]
  obtain ⟨ws, hws⟩ : ∃ ws, ws = zeroWs M.S.length := ⟨_, rfl⟩
  have hwsl : ws.length = M.S.length := by rw [hws, zeroWs_length]
  have hwst : ∀ i, i < M.S.length → ws.take (i + 1) = ws.take i ++ [(i, List.replicate 64 0)] := fun i hi => by rw [hws]; exact zeroWs_take _ i hi
  rw [← hws]
  clear hws
  obtain ⟨n, hn⟩ : ∃ n, M.S.length = n := ⟨_, rfl⟩
  rw [hn] at h8 hle hcap c0 hwsl hwst
  try rw [hn]
  have h8I : ¬ (n : Int) < 8 := by omega
  have hnI : (n : Int) ≤ 65536 := by omega
  have H0 : Hid (RFormRel w K.d M K.all n ws (.int .i64 0) w) := Lib.hid ⟨0, K, M, by omega, rfl, rfl, fun b hb => .inl hb, h, rfl, Only.refl _ _, hn, by omega⟩
  have Hwst := Lib.hid hwst; have Hwsl := Lib.hid hwsl; have Hdlt := Lib.hid hdlt
  clear hwst hwsl hn h hcap hdlt
  go_enter Tryd.func42, Tryd.ntmps42
  go_wp2_with fail
  go_loopw [4] (fun i wr => RFormRel w K.d M K.all n ws i wr) (fun i _ => n - (intOf i).toNat)
  case atStart => exact H0.out
  case round =>
    obtain ⟨k, K', M', hk, rfl, hKd, hKf, hdW, hwa, honly, hlen, hwr⟩ := hrel
    clear c0
    obtain ⟨cap', hcap', c0, -⟩ := hdW.row
    rw [hKd, hlen] at c0
    have hlt' := hdW.lt
    have honz := honly.size
    by_cases hkl : k < n
    · have hklI : (k : Int) < (n : Int) := by omega
      obtain ⟨w1, hmk, hb1, hk1⟩ := run_make_bytes wr 64 (by omega)
      rw [show ((64 : Nat) : Int) = 64 from rfl] at hmk
      have hby : Bytes (fun b => b = wr.heap.size) w1 (.slice (some ⟨wr.heap.size, 0, none⟩) 64 64) (List.replicate 64 0) := blk_bytes64 (s := List.replicate 64 0) (by simpa using hb1) (by simp) _ rfl
      have hwrc := rwr_any w1 K' M' (hdW.kept hk1) k (by omega) (by omega) _ _ _ hby (by simp) (fun b e h => by have := hlt' _ (.inl rfl); omega)
      rw [hKd] at hwrc
      have hsn := writeAll_snoc M (ws.take k) k (List.replicate 64 0) (by rw [hwa])
      rw [← Hwst.out k hkl, hwa] at hsn
      have hwl := wr_len M' k (List.replicate 64 0)
      generalize M'.wr k (List.replicate 64 0) = mq at *
      obtain ⟨M2, r⟩ := mq
      dsimp only at hwrc hwl
      have hz1 := hk1.size
      have ho1 : Only K.all w w1 := honly.trans (Only.of_below (F := none_) hk1) fun i hi => hi.elim
      have Hwrc := Lib.hid hwrc; have Hsn := Lib.hid hsn; have Ho1 := Lib.hid ho1; have Hz1 := Lib.hid hz1; have Hwl := Lib.hid hwl; have Hlen := Lib.hid hlen
      clear hwrc hsn hb1 hk1 ho1 honly hz1 hdW hby hwl hlen
      go_wp2_with fail
      refine Hwrc.out.mono ?_
      rintro e w2 ⟨rfl, ⟨K2, hK2, hKf2, hd2⟩, ho2⟩
      have hz1 := Hz1.out
      have hon2 := Ho1.out.trans ho2 fun i hi => by
        rcases hKf i (RefAt.foot_all hi) with h | h
        · exact .inl h
        · exact .inr h
      have hf2 : ∀ b, RK.all K2 b → K.all b ∨ w.heap.size ≤ b := fun b hb => by
        rcases hKf2 b hb with h | h
        · exact hKf b h
        · exact .inr (by omega)
      by_cases hr : r = 0
      · subst hr
        have hrel' : RFormRel w K.d M K.all n ws (.int .i64 ((k : Int) + 1)) w2 := ⟨k + 1, K2, M2, by omega, by simp, by rw [hK2], hf2, hd2, Hsn.out, hon2, by have := Hwl.out; have := Hlen.out; omega, by have := Hwl.out; omega⟩
        have Hrel' := Lib.hid hrel'
        clear hrel' hd2 hon2 hf2 hKf2 hz1 ho2
        go_wp2_with fail
        go_roundw
        case rel => exact Hrel'.out
        case measure => simp [intOf]; omega
      · have hrb : (r != 0) = true := bne_iff_ne.2 hr
        have hfail : writeAll M (ws ++ [(0, headB 0)]) = (M2, r) := by
          refine writeAll_fail M M2 r _ (k + 1) ?_ hr
          rw [List.take_append_of_le_length (by have := Hwsl.out; omega)]
          exact Hsn.out
        have Hd2 := Lib.hid hd2; have Hon2 := Lib.hid hon2; have Hfail := Lib.hid hfail
        clear hd2 hon2 hfail hz1 ho2
        go_wp2_with fail
        go_ret2
        rw [Hfail.out]
        exact ⟨K2, by rw [hK2], hf2, Hon2.out, .inr ⟨hr, rfl, Hd2.out⟩⟩
    · have hklI : ¬ (k : Int) < (n : Int) := by omega
      have hkn : k = n := by omega
      subst hkn
      rw [List.take_of_length_le (by have := Hwsl.out; omega)] at hwa
      have hsnoc := writeAll_snoc M ws 0 (headB 0) (by rw [hwa])
      rw [hwa] at hsnoc
      have hhead := rhead_any wr 0 (by omega)
      have Hhead := Lib.hid hhead; have Hsnoc := Lib.hid hsnoc; have Hon := Lib.hid honly; have HdW := Lib.hid hdW; have Hlen := Lib.hid hlen
      clear hhead hsnoc honly hdW hlen
      go_wp2_with fail
      refine Hhead.out.mono ?_
      rintro e w4 ⟨v, rfl, hown, hb4⟩
      have hd4 := HdW.out.kept hb4
      have hon4 : Only K.all w w4 := Hon.out.trans (Only.of_below (F := none_) hb4) fun i hi => hi.elim
      have hl64 := headB_length 0
      have hown' := hown
      rw [← hl64] at hown'
      have hby := Bytes.of_owns hown' (fun b => wr.heap.size ≤ b) (fun k hk _ => hk)
      have hwrc := rwr_any w4 K' M' hd4 0 (by have := Hlen.out; omega) (by omega) _ _ _ hby hl64 (fun b e h => by have := hlt' _ (.inl rfl); omega)
      rw [hKd] at hwrc
      have hsn := Hsnoc.out
      have hwl := wr_len M' 0 (headB 0)
      have hz4 := hb4.size
      try dsimp only at hsn
      generalize M'.wr 0 (headB 0) = mq at *
      obtain ⟨M2, r⟩ := mq
      dsimp only at hwrc hwl
      have Hwrc := Lib.hid hwrc; have Hsn2 := Lib.hid hsn; have Hon4 := Lib.hid hon4; have Hwl := Lib.hid hwl; have Hz4 := Lib.hid hz4
      clear hwrc hsn Hsnoc hon4 hwl hz4 hd4 hby hown hown' hl64 hb4
      go_wp2_with fail
      refine Hwrc.out.mono ?_
      rintro e w2 ⟨rfl, ⟨K2, hK2, hKf2, hd2⟩, ho2⟩
      have hz4 := Hz4.out
      have hon2 := Hon4.out.trans ho2 fun i hi => by
        rcases hKf i (RefAt.foot_all hi) with h | h
        · exact .inl h
        · exact .inr h
      have hf2 : ∀ b, RK.all K2 b → K.all b ∨ w.heap.size ≤ b := fun b hb => by
        rcases hKf2 b hb with h | h
        · exact hKf b h
        · exact .inr (by omega)
      have Hd2 := Lib.hid hd2; have Hon2 := Lib.hid hon2
      clear hd2 hon2 ho2 hz4
      by_cases hr : r = 0
      · subst hr
        go_wp2_with fail
        go_ret2
        rw [Hsn2.out]
        have hd2 := Hd2.out
        have hlt2 := hd2.lt
        refine ⟨K2, by rw [hK2], hf2, Hon2.out.alloc _, .inl ⟨rfl, _, rfl, by have := Hon2.out.size; omega, ?_⟩⟩
        refine ⟨hd2.kept (kept_alloc _ _), ⟨none, 0, none_, ?_, RowsIn.nil _ 0, fun b hb => by rcases hb with hb | hb; exact absurd hb (by simp [Value.ownBlock]); exact hb.elim⟩, ⟨fun h => by have h1 := hlt2 _ h; dsimp only at h1; omega, fun b hb => hb.elim⟩, by have := Hwl.out; have := Hlen.out; show 8 ≤ M2.S.length; omega, by simp [takenL], by simp, fun b hb => by simp at hb⟩
        show RJBlk _ w2.heap.size K2.d 0 (.slice none 0 0) false
        rw [hK2]
        exact Blk.new w2 #[.pointer (some ⟨K.d, 0, none⟩), .int .i64 0, .slice none 0 0, .bool false] 98
      · have hrb : (r != 0) = true := bne_iff_ne.2 hr
        go_wp2_with fail
        go_ret2
        rw [Hsn2.out]
        exact ⟨K2, by rw [hK2], hf2, Hon2.out, .inr ⟨hr, rfl, Hd2.out⟩⟩
end Go.Proofs.YtmimplmeccoahaaDoor
/- A pair whose sides are changed one after the other. -/
namespace Go.Proofs.YtmimplmeccoahaaDoor
open Go.RowKit
set_option linter.unusedVariables false
set_option maxRecDepth 20000
attribute [local go_sem] opC upC

structure Pair2 (w : World) (p lo : Nat) (k : PK) (M1 M2 : MD) (o1 o2 : Option MJ) : Prop where
  blk : Blk w p [.pointer (some ⟨k.d, 0, none⟩), k.jv, .pointer (some ⟨k.e, 0, none⟩), k.kv] 61
  ps : PSide w k.F k.d k.jv M1 o1
  rs : RSide w k.G k.e k.kv M2 o2
  fF : ∀ b, k.F b → lo ≤ b ∧ b ≠ p ∧ ¬ k.G b ∧ b < w.heap.size
  fG : ∀ b, k.G b → lo ≤ b ∧ b ≠ p ∧ b < w.heap.size
  pos : 0 < lo
  lo_p : lo ≤ p

theorem PairOf.two {w : World} {p lo : Nat} {k : PK} {M : MD} {o : Option MJ} (h : PairOf w p lo k M o) : Pair2 w p lo k M M o o := ⟨h.blk, h.ps, h.rs, h.fF, h.fG, h.pos, h.lo_p⟩
theorem Pair2.one {w : World} {p lo : Nat} {k : PK} {M : MD} {o : Option MJ} (h : Pair2 w p lo k M M o o) : PairOf w p lo k M o := ⟨h.blk, h.ps, h.rs, h.fF, h.fG, h.pos, h.lo_p⟩

theorem Pair2.kept {w w' : World} {p lo : Nat} {k : PK} {M1 M2 : MD} {o1 o2 : Option MJ} (h : Pair2 w p lo k M1 M2 o1 o2) (hb : Below w.heap.size w w') : Pair2 w' p lo k M1 M2 o1 o2 := by
  obtain ⟨h1, h2, h3, h4, h5, h6, h7⟩ := h
  exact ⟨h1.keep (hb.block _ h1.lt), h2.keep (fun b _ hlt => hb.block b hlt) hb.size, h3.keep (fun b _ hlt => hb.block b hlt) hb.size, fun b hb' => ⟨(h4 b hb').1, (h4 b hb').2.1, (h4 b hb').2.2.1, Nat.lt_of_lt_of_le (h4 b hb').2.2.2 hb.size⟩, fun b hb' => ⟨(h5 b hb').1, (h5 b hb').2.1, Nat.lt_of_lt_of_le (h5 b hb').2.2 hb.size⟩, h6, h7⟩
theorem Pair2.size {w : World} {p lo : Nat} {k : PK} {M1 M2 : MD} {o1 o2 : Option MJ} (h : Pair2 w p lo k M1 M2 o1 o2) : lo < w.heap.size := by
  have h1 := h.blk.lt
  have h2 := h.lo_p
  omega

theorem PSide.shrink {w : World} {F : Blks} {d : Nat} {jv : Value} {M : MD} {o : Option MJ} (h : PSide w F d jv M o) : PSide w (fun b => F b ∧ b < w.heap.size) d jv M o := by
  cases o with
  | none => obtain ⟨h1, K, h2, h3, h4⟩ := h; exact ⟨h1, K, h2, fun b hb => ⟨h3 b hb, h4.lt b hb⟩, h4⟩
  | some J => obtain ⟨jk, h1, h2, h3, h4⟩ := h; exact ⟨jk, h1, h2, fun b hb => ⟨h3 b hb, h4.lt b hb⟩, h4⟩
theorem RSide.shrink {w : World} {F : Blks} {d : Nat} {jv : Value} {M : MD} {o : Option MJ} (h : RSide w F d jv M o) : RSide w (fun b => F b ∧ b < w.heap.size) d jv M o := by
  cases o with
  | none => obtain ⟨h1, K, h2, h3, h4⟩ := h; exact ⟨h1, K, h2, fun b hb => ⟨h3 b hb, h4.lt b hb⟩, h4⟩
  | some J => obtain ⟨jk, h1, h2, h3, h4⟩ := h; exact ⟨jk, h1, h2, fun b hb => ⟨h3 b hb, h4.lt b hb⟩, h4⟩

/-- the program's side steps -/
theorem Pair2.stepP {w w' : World} {p lo : Nat} {k : PK} {M1 M2 M1' : MD} {o1 o2 o1' : Option MJ} (h : Pair2 w p lo k M1 M2 o1 o2) {F' : Blks} (hs : PSide w' F' k.d k.jv M1' o1') (hF : ∀ b, F' b → k.F b ∨ w.heap.size ≤ b) (ho : Only k.F w w') :
    Pair2 w' p lo { k with F := fun b => F' b ∧ b < w'.heap.size } M1' M2 o1' o2 ∧ Below lo w w' := by
  have hsz := h.size
  obtain ⟨h1, h2, h3, h4, h5, h6, h7⟩ := h
  have hp := h1.lt
  have hz := ho.size
  refine ⟨⟨h1.keep (ho.block _ hp fun hx => (h4 p hx).2.1 rfl), hs.shrink, h3.keep (fun b hb hlt => ho.block b hlt fun hx => (h4 b hx).2.2.1 hb) hz, fun b hb => ?_, fun b hb => ⟨(h5 b hb).1, (h5 b hb).2.1, Nat.lt_of_lt_of_le (h5 b hb).2.2 hz⟩, h6, h7⟩, ho.below (fun b hb => (h4 b hb).1) (by omega)⟩
  rcases hF b hb.1 with hx | hx
  · exact ⟨(h4 b hx).1, (h4 b hx).2.1, (h4 b hx).2.2.1, hb.2⟩
  · exact ⟨by omega, by omega, fun hg => by have := (h5 b hg).2.2; omega, hb.2⟩
/-- the reference's side steps -/
theorem Pair2.stepR {w w' : World} {p lo : Nat} {k : PK} {M1 M2 M2' : MD} {o1 o2 o2' : Option MJ} (h : Pair2 w p lo k M1 M2 o1 o2) {G' : Blks} (hs : RSide w' G' k.e k.kv M2' o2') (hG : ∀ b, G' b → k.G b ∨ w.heap.size ≤ b) (ho : Only k.G w w') :
    Pair2 w' p lo { k with G := fun b => G' b ∧ b < w'.heap.size } M1 M2' o1 o2' ∧ Below lo w w' := by
  have hsz := h.size
  obtain ⟨h1, h2, h3, h4, h5, h6, h7⟩ := h
  have hp := h1.lt
  have hz := ho.size
  refine ⟨⟨h1.keep (ho.block _ hp fun hx => (h5 p hx).2.1 rfl), h2.keep (fun b hb hlt => ho.block b hlt fun hx => (h4 b hb).2.2.1 hx) hz, hs.shrink, fun b hb => ⟨(h4 b hb).1, (h4 b hb).2.1, fun hx => ?_, Nat.lt_of_lt_of_le (h4 b hb).2.2.2 hz⟩, fun b hb => ?_, h6, h7⟩, ho.below (fun b hb => (h5 b hb).1) (by omega)⟩
  · rcases hG b hx.1 with h | h
    · exact (h4 b hb).2.2.1 h
    · have := (h4 b hb).2.2.2; omega
  · rcases hG b hb.1 with hx | hx
    · exact ⟨(h5 b hx).1, (h5 b hx).2.1, hb.2⟩
    · exact ⟨by omega, by omega, hb.2⟩

theorem RJAt.onDisk {w w' : World} {jk : RJK} {M M' : MD} {J : MJ} (h : RJAt w jk M J) {K' : RK} (hd : RefAt w' K' M') (hK : K'.d = jk.K.d) (hf : ∀ b, K'.all b → jk.K.all b ∨ w.heap.size ≤ b) (ho : Only jk.K.all w w') (hn : M'.S.length = M.S.length) :
    RJAt w' ⟨jk.j, K', jk.O⟩ M' J := by
  have hlt := h.lt
  obtain ⟨h1, ⟨ra, rc, R, h2, h3, h4⟩, h5, h6, h7, h8, h9⟩ := h
  have hO : ∀ b, jk.O b → w'.heap[b]? = w.heap[b]? := fun b hb => ho.block b (h5.2 b hb).2.2 (h5.2 b hb).2.1
  refine ⟨hd, ⟨ra, rc, R, ?_, h3.keep fun b hb _ => hO b (h4 b hb), h4⟩, ⟨fun hx => ?_, fun b hb => ⟨(h5.2 b hb).1, fun hx => ?_, Nat.lt_of_lt_of_le (h5.2 b hb).2.2 ho.size⟩⟩, by rw [hn]; exact h6, by rw [hn]; exact h7, h8, h9⟩
  · rw [show (⟨jk.j, K', jk.O⟩ : RJK).K.d = jk.K.d from hK]
    exact Blk.keep h2 (ho.block _ (hlt _ (.inl rfl)) h5.1)
  · have := hlt jk.j (.inl rfl)
    rcases hf _ hx with h | h
    · exact h5.1 h
    · exact absurd h (by show ¬ w.heap.size ≤ jk.j; omega)
  · have := (h5.2 b hb).2.2
    rcases hf _ hx with h | h
    · exact (h5.2 b hb).2.1 h
    · omega

/-- the disk of the program's side, and how a change of it is put back -/
theorem PSide.split {w : World} {F : Blks} {d : Nat} {jv : Value} {M : MD} {o : Option MJ} (h : PSide w F d jv M o) : ∃ K : DK, K.d = d ∧ (∀ b, K.foot b → F b) ∧ DiskAt w K M ∧
    ∀ (w' : World) (K' : DK) (M' : MD), DiskAt w' K' M' → K'.d = d → (∀ b, K'.foot b → K.foot b ∨ w.heap.size ≤ b) → Only K.foot w w' → M'.S.length = M.S.length →
      ∃ F', (∀ b, F' b → F b ∨ w.heap.size ≤ b) ∧ PSide w' F' d jv M' o ∧ Only F w w' := by
  cases o with
  | none =>
    obtain ⟨h1, K, h2, h3, h4⟩ := h
    refine ⟨K, h2, h3, h4, fun w' K' M' c a b e hn => ?_⟩
    exact ⟨K'.foot, fun x hx => (b x hx).imp (h3 x) id, ⟨h1, K', a, fun _ h => h, c⟩, ⟨e.os, e.tape, e.output, e.size, fun i hi hf => e.block i hi fun hx => hf (h3 i hx)⟩⟩
  | some J =>
    obtain ⟨jk, h1, h2, h3, h4⟩ := h
    refine ⟨jk.K, h1, fun b hb => h3 b (.inr (.inl hb)), h4.disk, fun w' K' M' c a b e hn => ?_⟩
    refine ⟨(⟨jk.j, K', jk.O⟩ : JK).all, fun x hx => ?_, ⟨⟨jk.j, K', jk.O⟩, a, h2, fun _ h => h, h4.onDisk c (by rw [a, h1]) b e hn⟩, ⟨e.os, e.tape, e.output, e.size, fun i hi hf => e.block i hi fun hx => hf (h3 i (.inr (.inl hx)))⟩⟩
    rcases hx with hx | hx | hx
    · exact .inl (h3 x (.inl hx))
    · exact (b x hx).imp (fun h => h3 x (.inr (.inl h))) id
    · exact .inl (h3 x (.inr (.inr hx)))
theorem RSide.split {w : World} {F : Blks} {d : Nat} {jv : Value} {M : MD} {o : Option MJ} (h : RSide w F d jv M o) : ∃ K : RK, K.d = d ∧ (∀ b, K.all b → F b) ∧ RefAt w K M ∧
    ∀ (w' : World) (K' : RK) (M' : MD), RefAt w' K' M' → K'.d = d → (∀ b, K'.all b → K.all b ∨ w.heap.size ≤ b) → Only K.all w w' → M'.S.length = M.S.length →
      ∃ F', (∀ b, F' b → F b ∨ w.heap.size ≤ b) ∧ RSide w' F' d jv M' o ∧ Only F w w' := by
  cases o with
  | none =>
    obtain ⟨h1, K, h2, h3, h4⟩ := h
    refine ⟨K, h2, h3, h4, fun w' K' M' c a b e hn => ?_⟩
    exact ⟨K'.all, fun x hx => (b x hx).imp (h3 x) id, ⟨h1, K', a, fun _ h => h, c⟩, ⟨e.os, e.tape, e.output, e.size, fun i hi hf => e.block i hi fun hx => hf (h3 i hx)⟩⟩
  | some J =>
    obtain ⟨jk, h1, h2, h3, h4⟩ := h
    refine ⟨jk.K, h1, fun b hb => h3 b (.inr (.inl hb)), h4.ref, fun w' K' M' c a b e hn => ?_⟩
    refine ⟨(⟨jk.j, K', jk.O⟩ : RJK).all, fun x hx => ?_, ⟨⟨jk.j, K', jk.O⟩, a, h2, fun _ h => h, h4.onDisk c (by rw [a, h1]) b e hn⟩, ⟨e.os, e.tape, e.output, e.size, fun i hi hf => e.block i hi fun hx => hf (h3 i (.inr (.inl hx)))⟩⟩
    rcases hx with hx | hx | hx
    · exact .inl (h3 x (.inl hx))
    · exact (b x hx).imp (fun h => h3 x (.inr (.inl h))) id
    · exact .inl (h3 x (.inr (.inr hx)))

/-- the disks of a pair, as they stand in the pair's block -/
def PairU (w : World) (p lo d e : Nat) (M1 M2 : MD) (o1 o2 : Option MJ) : Prop := ∃ F G jv kv, Pair2 w p lo ⟨F, G, d, jv, e, kv⟩ M1 M2 o1 o2
theorem PairU.kept {w w' : World} {p lo d e : Nat} {M1 M2 : MD} {o1 o2 : Option MJ} (h : PairU w p lo d e M1 M2 o1 o2) (hb : Below w.heap.size w w') : PairU w' p lo d e M1 M2 o1 o2 := by
  obtain ⟨F, G, jv, kv, h⟩ := h
  exact ⟨F, G, jv, kv, h.kept hb⟩
theorem PairU.X {w : World} {p lo d e : Nat} {M : MD} {o : Option MJ} (h : PairU w p lo d e M M o o) : PairX w p lo M o := by
  obtain ⟨F, G, jv, kv, h⟩ := h
  exact ⟨_, h.one⟩
theorem PairX.U {w : World} {p lo : Nat} {M : MD} {o : Option MJ} (h : PairX w p lo M o) : ∃ d e, PairU w p lo d e M M o o := by
  obtain ⟨⟨F, G, d, jv, e, kv⟩, h⟩ := h
  exact ⟨d, e, F, G, jv, kv, h.two⟩
theorem PairU.size {w : World} {p lo d e : Nat} {M1 M2 : MD} {o1 o2 : Option MJ} (h : PairU w p lo d e M1 M2 o1 o2) : lo < w.heap.size := by
  obtain ⟨F, G, jv, kv, h⟩ := h
  exact h.size
theorem PairU.cells {w : World} {p lo d e : Nat} {M1 M2 : MD} {o1 o2 : Option MJ} (h : PairU w p lo d e M1 M2 o1 o2) : w.cell? ⟨p, 0, none⟩ = some (.pointer (some ⟨d, 0, none⟩)) ∧ w.cell? ⟨p, 2, none⟩ = some (.pointer (some ⟨e, 0, none⟩)) := by
  obtain ⟨F, G, jv, kv, h⟩ := h
  exact ⟨by simpa using h.blk.cell 0, by simpa using h.blk.cell 2⟩

/-- the program's disk of a pair, and how a change of it is put back -/
theorem PairU.splitP {w : World} {p lo d e : Nat} {M1 M2 : MD} {o1 o2 : Option MJ} (h : PairU w p lo d e M1 M2 o1 o2) : ∃ K : DK, K.d = d ∧ (∀ b, K.foot b → lo ≤ b ∧ b < w.heap.size) ∧ DiskAt w K M1 ∧
    ∀ (w' : World) (K' : DK) (M' : MD), DiskAt w' K' M' → K'.d = d → (∀ b, K'.foot b → K.foot b ∨ w.heap.size ≤ b) → Only K.foot w w' → M'.S.length = M1.S.length → PairU w' p lo d e M' M2 o1 o2 ∧ Below lo w w' := by
  obtain ⟨F, G, jv, kv, h⟩ := h
  obtain ⟨K, h1, h2, h3, h4⟩ := PSide.split h.ps
  refine ⟨K, h1, fun b hb => ⟨(h.fF b (h2 b hb)).1, h3.lt b hb⟩, h3, fun w' K' M' c a b e' hn => ?_⟩
  obtain ⟨F', f1, f2, f3⟩ := h4 w' K' M' c a b e' hn
  obtain ⟨g1, g2⟩ := h.stepP f2 f1 f3
  exact ⟨⟨_, _, _, _, g1⟩, g2⟩
theorem PairU.splitR {w : World} {p lo d e : Nat} {M1 M2 : MD} {o1 o2 : Option MJ} (h : PairU w p lo d e M1 M2 o1 o2) : ∃ K : RK, K.d = e ∧ (∀ b, K.all b → lo ≤ b ∧ b < w.heap.size) ∧ RefAt w K M2 ∧
    ∀ (w' : World) (K' : RK) (M' : MD), RefAt w' K' M' → K'.d = e → (∀ b, K'.all b → K.all b ∨ w.heap.size ≤ b) → Only K.all w w' → M'.S.length = M2.S.length → PairU w' p lo d e M1 M' o1 o2 ∧ Below lo w w' := by
  obtain ⟨F, G, jv, kv, h⟩ := h
  obtain ⟨K, h1, h2, h3, h4⟩ := RSide.split h.rs
  refine ⟨K, h1, fun b hb => ⟨(h.fG b (h2 b hb)).1, h3.lt b hb⟩, h3, fun w' K' M' c a b e' hn => ?_⟩
  obtain ⟨F', f1, f2, f3⟩ := h4 w' K' M' c a b e' hn
  obtain ⟨g1, g2⟩ := h.stepR f2 f1 f3
  exact ⟨⟨_, _, _, _, g1⟩, g2⟩

theorem only_all {K : RK} {w w' : World} (h : Only K.foot w w') : Only K.all w w' := ⟨h.os, h.tape, h.output, h.size, fun i hi hf => h.block i hi fun hx => hf (RefAt.foot_all hx)⟩

theorem upP (w : World) (p lo d e : Nat) (M1 M2 : MD) (o1 o2 : Option MJ) (h : PairU w p lo d e M1 M2 o1 o2) :
    Calls Tryd.prog 29 #[.pointer (some ⟨d, 0, none⟩)] w fun r w' => r = .returned (.tuple #[]) ∧ PairU w' p lo d e { M1 with down := false } M2 o1 o2 ∧ Below lo w w' := by
  obtain ⟨K, rfl, -, hd, back⟩ := h.splitP
  refine (up_any w K M1 hd).mono ?_
  rintro r w' ⟨rfl, hd', ho, hz⟩
  exact ⟨rfl, back w' K _ hd' rfl (fun b hb => .inl hb) ho rfl⟩
theorem upR (w : World) (p lo d e : Nat) (M1 M2 : MD) (o1 o2 : Option MJ) (h : PairU w p lo d e M1 M2 o1 o2) :
    Calls Tryd.prog 43 #[.pointer (some ⟨e, 0, none⟩)] w fun r w' => r = .returned (.tuple #[]) ∧ PairU w' p lo d e M1 { M2 with down := false } o1 o2 ∧ Below lo w w' := by
  obtain ⟨K, rfl, -, hd, back⟩ := h.splitR
  refine (refUp_any w K M2 hd).mono ?_
  rintro r w' ⟨rfl, hd', ho, hz⟩
  exact ⟨rfl, back w' K _ hd' rfl (fun b hb => .inl hb) (only_all ho) rfl⟩
theorem failP (w : World) (p lo d e : Nat) (M1 M2 : MD) (o1 o2 : Option MJ) (h : PairU w p lo d e M1 M2 o1 o2) (n : Int) (h0 : 0 ≤ n) (hn : n ≤ 9223372036854775807) (F : Blks) (v : Value) (l : List UInt8) (hv : Bytes F w v l) (hl : l.length = 64) :
    Calls Tryd.prog 27 #[.pointer (some ⟨d, 0, none⟩), .int .i64 n, v] w fun r w' => r = .returned (.int .i64 0) ∧ PairU w' p lo d e { M1 with fault := some (n.toNat, l) } M2 o1 o2 ∧ Below lo w w' := by
  obtain ⟨K, rfl, -, hd, back⟩ := h.splitP
  refine (fail_int w K M1 hd n h0 hn F v l hv hl).mono ?_
  rintro r w' ⟨rfl, ⟨K', hK', hKf, hd'⟩, ho⟩
  exact ⟨rfl, back w' K' _ hd' hK' hKf ho rfl⟩
theorem failR (w : World) (p lo d e : Nat) (M1 M2 : MD) (o1 o2 : Option MJ) (h : PairU w p lo d e M1 M2 o1 o2) (n : Int) (h0 : 0 ≤ n) (hn : n ≤ 9223372036854775807) (F : Blks) (v : Value) (l : List UInt8) (hv : Bytes F w v l) (hl : l.length = 64) (hF : ∀ b, F b → b < lo ∨ w.heap.size ≤ b) :
    Calls Tryd.prog 41 #[.pointer (some ⟨e, 0, none⟩), .int .i64 n, v] w fun r w' => r = .returned (.int .i64 0) ∧ PairU w' p lo d e M1 { M2 with fault := some (n.toNat, l) } o1 o2 ∧ Below lo w w' := by
  obtain ⟨K, rfl, hK, hd, back⟩ := h.splitR
  obtain ⟨m, rfl⟩ := Int.eq_ofNat_of_zero_le h0
  refine (refFail_ok w K M2 hd m (by omega) F v l hv hl (fun b hb e => ?_)).mono ?_
  · have h1 := hK K.d (.inl rfl)
    rcases hF b hb with h | h <;> omega
  · rintro r w' ⟨rfl, ⟨K', hK', hKf, hd'⟩, ho⟩
    exact ⟨rfl, back w' K' _ hd' hK' hKf (only_all ho) rfl⟩
theorem wrP (w : World) (p lo d e : Nat) (M1 M2 : MD) (o1 o2 : Option MJ) (h : PairU w p lo d e M1 M2 o1 o2) (i : Nat) (hi : i < M1.S.length) (hw : M1.writes < 4611686018427387904) (F : Blks) (v : Value) (l : List UInt8) (hv : Bytes F w v l) (hl : l.length = 64) (hF : ∀ b, F b → b < lo ∨ w.heap.size ≤ b) :
    Calls Tryd.prog 33 #[.pointer (some ⟨d, 0, none⟩), .int .i64 (i : Int), v] w fun r w' => r = .returned (.int .i64 (M1.wr i l).2) ∧ PairU w' p lo d e (M1.wr i l).1 M2 o1 o2 ∧ Below lo w w' := by
  obtain ⟨K, rfl, hK, hd, back⟩ := h.splitP
  refine (wr_any w K M1 hd i hi hw F v l hv hl (fun b hb hx => ?_)).mono ?_
  · have h1 := hK b hx
    rcases hF b hb with h | h <;> omega
  · rintro r w' ⟨rfl, ⟨K', hK', hKf, hd'⟩, ho, hz⟩
    exact ⟨rfl, back w' K' _ hd' hK' (fun b hb => .inl (hKf b hb)) ho (wr_len _ _ _).1⟩
theorem wrR (w : World) (p lo d e : Nat) (M1 M2 : MD) (o1 o2 : Option MJ) (h : PairU w p lo d e M1 M2 o1 o2) (i : Nat) (hi : i < M2.S.length) (hw : M2.writes < 4611686018427387904) (F : Blks) (v : Value) (l : List UInt8) (hv : Bytes F w v l) (hl : l.length = 64) (hF : ∀ b, F b → b < lo ∨ w.heap.size ≤ b) :
    Calls Tryd.prog 35 #[.pointer (some ⟨e, 0, none⟩), .int .i64 (i : Int), v] w fun r w' => r = .returned (.int .i64 (M2.wr i l).2) ∧ PairU w' p lo d e M1 (M2.wr i l).1 o1 o2 ∧ Below lo w w' := by
  obtain ⟨K, rfl, hK, hd, back⟩ := h.splitR
  refine (rwr_any w K M2 hd i hi hw F v l hv hl (fun b hb hx => ?_)).mono ?_
  · have h1 := hK K.d (.inl rfl)
    rcases hF b hb with h | h <;> omega
  · rintro r w' ⟨rfl, ⟨K', hK', hKf, hd'⟩, ho⟩
    exact ⟨rfl, back w' K' _ hd' hK' hKf (only_all ho) (wr_len _ _ _).1⟩

/-- the pair of two sides -/
theorem pair_new {w : World} {lo d e : Nat} {F G : Blks} {jv kv : Value} {M : MD} {o : Option MJ} (hp : PSide w F d jv M o) (hr : RSide w G e kv M o) (hF : ∀ b, F b → lo ≤ b ∧ ¬ G b) (hG : ∀ b, G b → lo ≤ b) (h0 : 0 < lo) (hlo : lo ≤ w.heap.size) :
    PairU (w.alloc (.cells #[.pointer (some ⟨d, 0, none⟩), jv, .pointer (some ⟨e, 0, none⟩), kv] 61)) w.heap.size lo d e M M o o := by
  have hb := kept_alloc w (.cells #[.pointer (some ⟨d, 0, none⟩), jv, .pointer (some ⟨e, 0, none⟩), kv] 61)
  have hz : (w.alloc (.cells #[.pointer (some ⟨d, 0, none⟩), jv, .pointer (some ⟨e, 0, none⟩), kv] 61)).heap.size = w.heap.size + 1 := by simp
  refine ⟨fun b => F b ∧ b < w.heap.size, fun b => G b ∧ b < w.heap.size, jv, kv, ⟨?_, hp.shrink.keep (fun b _ hlt => hb.block b hlt) hb.size, hr.shrink.keep (fun b _ hlt => hb.block b hlt) hb.size, fun b hx => ⟨(hF b hx.1).1, by omega, fun hy => (hF b hx.1).2 hy.1, by omega⟩, fun b hx => ⟨hG b hx.1, by omega, by omega⟩, h0, hlo⟩⟩
  exact Blk.new _ _ _
end Go.Proofs.YtmimplmeccoahaaDoor
/- Two disks apart, formatted. -/
namespace Go.Proofs.YtmimplmeccoahaaDoor
open Go.RowKit
set_option linter.unusedVariables false
set_option maxRecDepth 20000
attribute [local go_sem] opC upC

/-- what Format gives of a disk -/
def fmtR (M : MD) : Int := if M.S.length < 8 then 6 else (formatM M).2
def fmtM (M : MD) : MD := if M.S.length < 8 then M else (formatM M).1
def fmtO (M : MD) : Option MJ := if fmtR M = 0 then some ⟨0, [], false⟩ else none

theorem pformat_any (w : World) (K : DK) (M : MD) (hd : DiskAt w K M) (hq : Quarter w) (h00 : ¬ K.foot 0) (hw : M.writes + 65540 < 4611686018427387904) :
    Calls Tryd.prog 21 #[.pointer (some ⟨K.d, 0, none⟩)] w fun e w' => ∃ x F, e = .returned (.tuple #[.pointer x, .int .i64 (fmtR M)]) ∧ PSide w' F K.d (.pointer x) (fmtM M) (fmtO M) ∧ (∀ b, F b → K.foot b ∨ w.heap.size ≤ b) ∧ Only K.foot w w' := by
  by_cases h8 : M.S.length < 8
  · refine (format_small w K M hd h8).mono ?_
    rintro e w' ⟨rfl, rfl⟩
    have e1 : fmtR M = 6 := by unfold fmtR; rw [if_pos h8]
    have e2 : fmtM M = M := by unfold fmtM; rw [if_pos h8]
    have e3 : fmtO M = none := by unfold fmtO; rw [e1]; rfl
    rw [e1, e2, e3]
    exact ⟨none, K.foot, rfl, ⟨rfl, K, rfl, fun _ h => h, hd⟩, fun b h => .inl h, Only.refl _ _⟩
  · refine (format_any w K M hd (by omega) hq h00 hw).mono ?_
    rintro e w' ⟨K', hK', hKf, ho, h⟩
    have e1 : fmtR M = (formatM M).2 := by unfold fmtR; rw [if_neg h8]
    have e2 : fmtM M = (formatM M).1 := by unfold fmtM; rw [if_neg h8]
    rw [e2]
    rcases h with ⟨h0, jb, rfl, hjb, hj⟩ | ⟨h0, rfl, hd'⟩
    · have e3 : fmtO M = some ⟨0, [], false⟩ := by unfold fmtO; rw [e1, h0]; rfl
      rw [e3, e1, h0]
      refine ⟨_, (⟨jb, K', none_⟩ : JK).all, rfl, ⟨⟨jb, K', none_⟩, hK', rfl, fun _ h => h, hj⟩, fun b hb => ?_, ho⟩
      rcases hb with hb | hb | hb
      · right; rw [hb]; exact hjb
      · exact .inl (hKf b hb)
      · exact hb.elim
    · have e3 : fmtO M = none := by unfold fmtO; rw [e1, if_neg h0]
      rw [e3, e1]
      exact ⟨none, K'.foot, rfl, ⟨rfl, K', hK', fun _ h => h, hd'⟩, fun b h => .inl (hKf b h), ho⟩

theorem rsformat_any (w : World) (K : RK) (M : MD) (hd : RefAt w K M) (hw : M.writes + 65540 < 4611686018427387904) :
    Calls Tryd.prog 42 #[.pointer (some ⟨K.d, 0, none⟩)] w fun e w' => ∃ x F, e = .returned (.tuple #[.pointer x, .int .i64 (fmtR M)]) ∧ RSide w' F K.d (.pointer x) (fmtM M) (fmtO M) ∧ (∀ b, F b → K.all b ∨ w.heap.size ≤ b) ∧ Only K.all w w' := by
  by_cases h8 : M.S.length < 8
  · refine (rformat_small w K M hd h8).mono ?_
    rintro e w' ⟨rfl, rfl⟩
    have e1 : fmtR M = 6 := by unfold fmtR; rw [if_pos h8]
    have e2 : fmtM M = M := by unfold fmtM; rw [if_pos h8]
    have e3 : fmtO M = none := by unfold fmtO; rw [e1]; rfl
    rw [e1, e2, e3]
    exact ⟨none, K.all, rfl, ⟨rfl, K, rfl, fun _ h => h, hd⟩, fun b h => .inl h, Only.refl _ _⟩
  · refine (rformat_any w K M hd (by omega) hw).mono ?_
    rintro e w' ⟨K', hK', hKf, ho, h⟩
    have e1 : fmtR M = (formatM M).2 := by unfold fmtR; rw [if_neg h8]
    have e2 : fmtM M = (formatM M).1 := by unfold fmtM; rw [if_neg h8]
    rw [e2]
    rcases h with ⟨h0, jb, rfl, hjb, hj⟩ | ⟨h0, rfl, hd'⟩
    · have e3 : fmtO M = some ⟨0, [], false⟩ := by unfold fmtO; rw [e1, h0]; rfl
      rw [e3, e1, h0]
      refine ⟨_, (⟨jb, K', none_⟩ : RJK).all, rfl, ⟨⟨jb, K', none_⟩, hK', rfl, fun _ h => h, hj⟩, fun b hb => ?_, ho⟩
      rcases hb with hb | hb | hb
      · right; rw [hb]; exact hjb
      · exact hKf b hb
      · exact hb.elim
    · have e3 : fmtO M = none := by unfold fmtO; rw [e1, if_neg h0]
      rw [e3, e1]
      exact ⟨none, K'.all, rfl, ⟨rfl, K', hK', fun _ h => h, hd'⟩, fun b h => hKf b h, ho⟩

/-- two disks, apart, from block lo on -/
def TwinU (w : World) (lo d e : Nat) (M1 M2 : MD) : Prop :=
  ∃ (K : DK) (KR : RK), K.d = d ∧ KR.d = e ∧ DiskAt w K M1 ∧ RefAt w KR M2 ∧ (∀ b, K.foot b → lo ≤ b ∧ ¬ KR.all b) ∧ (∀ b, KR.all b → lo ≤ b) ∧ 0 < lo
theorem TwinU.kept {w w' : World} {lo d e : Nat} {M1 M2 : MD} (h : TwinU w lo d e M1 M2) (hb : Below w.heap.size w w') : TwinU w' lo d e M1 M2 := by
  obtain ⟨K, KR, h1, h2, h3, h4, h5⟩ := h
  exact ⟨K, KR, h1, h2, h3.kept hb, h4.kept hb, h5⟩
theorem TwinU.size {w : World} {lo d e : Nat} {M1 M2 : MD} (h : TwinU w lo d e M1 M2) : lo < w.heap.size := by
  obtain ⟨K, KR, h1, h2, h3, h4, h5, h6, h7⟩ := h
  have a := h4.lt _ (.inl rfl)
  have b := h6 _ (.inl rfl)
  omega

theorem tfailP (w : World) (lo d e : Nat) (M1 M2 : MD) (h : TwinU w lo d e M1 M2) (n : Int) (h0 : 0 ≤ n) (hn : n ≤ 9223372036854775807) (F : Blks) (v : Value) (l : List UInt8) (hv : Bytes F w v l) (hl : l.length = 64) :
    Calls Tryd.prog 27 #[.pointer (some ⟨d, 0, none⟩), .int .i64 n, v] w fun r w' => r = .returned (.int .i64 0) ∧ TwinU w' lo d e { M1 with fault := some (n.toNat, l) } M2 ∧ Below lo w w' := by
  have hz := h.size
  obtain ⟨K, KR, rfl, rfl, hd, hr, hK, hR, hp⟩ := h
  refine (fail_int w K M1 hd n h0 hn F v l hv hl).mono ?_
  rintro r w' ⟨rfl, ⟨K', hK', hKf, hd'⟩, ho⟩
  have hrl := hr.lt
  refine ⟨rfl, ⟨K', KR, hK', rfl, hd', hr.only ho (fun b hb hx => (hK b hx).2 hb), fun b hb => ?_, hR, hp⟩, ho.below (fun b hb => (hK b hb).1) (by omega)⟩
  rcases hKf b hb with h | h
  · exact hK b h
  · exact ⟨by omega, fun hx => by have := hrl b hx; omega⟩
theorem tfailR (w : World) (lo d e : Nat) (M1 M2 : MD) (h : TwinU w lo d e M1 M2) (n : Int) (h0 : 0 ≤ n) (hn : n ≤ 9223372036854775807) (F : Blks) (v : Value) (l : List UInt8) (hv : Bytes F w v l) (hl : l.length = 64) (hF : ∀ b, F b → b ≠ e) :
    Calls Tryd.prog 41 #[.pointer (some ⟨e, 0, none⟩), .int .i64 n, v] w fun r w' => r = .returned (.int .i64 0) ∧ TwinU w' lo d e M1 { M2 with fault := some (n.toNat, l) } ∧ Below lo w w' := by
  have hz := h.size
  obtain ⟨K, KR, rfl, rfl, hd, hr, hK, hR, hp⟩ := h
  obtain ⟨m, rfl⟩ := Int.eq_ofNat_of_zero_le h0
  refine (refFail_ok w KR M2 hr m (by omega) F v l hv hl hF).mono ?_
  rintro r w' ⟨rfl, ⟨K', hK', hKf, hd'⟩, ho⟩
  have hdl := hd.lt
  refine ⟨rfl, ⟨K, K', rfl, hK', hd.only ho (fun b hb hx => (hK b hb).2 (RefAt.foot_all hx)), hd', fun b hb => ⟨(hK b hb).1, fun hx => ?_⟩, fun b hb => ?_, hp⟩, ho.below (fun b hb => hR b (RefAt.foot_all hb)) (by omega)⟩
  · rcases hKf b hx with h | h
    · exact (hK b hb).2 h
    · have := hdl b hb; omega
  · rcases hKf b hb with h | h
    · exact hR b h
    · omega

/-- the program's side is formatted -/
def Half (w : World) (lo d e : Nat) (F : Blks) (jv : Value) (M1 : MD) (o1 : Option MJ) (M2 : MD) : Prop :=
  ∃ KR : RK, KR.d = e ∧ PSide w F d jv M1 o1 ∧ RefAt w KR M2 ∧ (∀ b, F b → lo ≤ b ∧ ¬ KR.all b ∧ b < w.heap.size) ∧ (∀ b, KR.all b → lo ≤ b) ∧ 0 < lo

theorem tformatP (w : World) (lo d e : Nat) (M1 M2 : MD) (h : TwinU w lo d e M1 M2) (hq : Quarter w) (hw : M1.writes + 65540 < 4611686018427387904) :
    Calls Tryd.prog 21 #[.pointer (some ⟨d, 0, none⟩)] w fun r w' => ∃ x F, r = .returned (.tuple #[.pointer x, .int .i64 (fmtR M1)]) ∧ Half w' lo d e F (.pointer x) (fmtM M1) (fmtO M1) M2 ∧ Below lo w w' := by
  have hz := h.size
  obtain ⟨K, KR, rfl, rfl, hd, hr, hK, hR, hp⟩ := h
  refine (pformat_any w K M1 hd hq (fun h => by have := (hK 0 h).1; omega) hw).mono ?_
  rintro r w' ⟨x, F, rfl, hs, hF, ho⟩
  have hrl := hr.lt
  refine ⟨x, _, rfl, ⟨KR, rfl, hs.shrink, hr.only ho (fun b hb hx => (hK b hx).2 hb), fun b hb => ?_, hR, hp⟩, ho.below (fun b hb => (hK b hb).1) (by omega)⟩
  rcases hF b hb.1 with h | h
  · exact ⟨(hK b h).1, (hK b h).2, hb.2⟩
  · exact ⟨by omega, fun hx => by have := hrl b hx; omega, hb.2⟩

theorem tformatR (w : World) (lo d e : Nat) (F : Blks) (jv : Value) (M1 : MD) (o1 : Option MJ) (M2 : MD) (h : Half w lo d e F jv M1 o1 M2) (hlo : lo ≤ w.heap.size) (hw : M2.writes + 65540 < 4611686018427387904) :
    Calls Tryd.prog 42 #[.pointer (some ⟨e, 0, none⟩)] w fun r w' => ∃ x G, r = .returned (.tuple #[.pointer x, .int .i64 (fmtR M2)]) ∧ PSide w' F d jv M1 o1 ∧ RSide w' G e (.pointer x) (fmtM M2) (fmtO M2) ∧ (∀ b, F b → lo ≤ b ∧ ¬ G b) ∧ (∀ b, G b → lo ≤ b) ∧ Below lo w w' := by
  obtain ⟨KR, rfl, hs, hr, hF, hR, hp⟩ := h
  refine (rsformat_any w KR M2 hr hw).mono ?_
  rintro r w' ⟨x, G, rfl, hg, hG, ho⟩
  refine ⟨x, G, rfl, hs.keep (fun b hb hlt => ho.block b hlt (hF b hb).2.1) ho.size, hg, fun b hb => ⟨(hF b hb).1, fun hx => ?_⟩, fun b hb => ?_, ho.below hR hlo⟩
  · rcases hG b hx with h | h
    · exact (hF b hb).2.1 h
    · have := (hF b hb).2.2; omega
  · rcases hG b hb with h | h
    · exact hR b h
    · omega
end Go.Proofs.YtmimplmeccoahaaDoor
