/-
  SAct
-/
import Derived.Test.YtelphnigdancpaaGreatDoorZA37
import Derived.Test.YtelphnigdancpaaGreatDoorZA39
import Derived.Test.YtelphnigdancpaaGreatDoorZA40
namespace Go.Proofs.YtelphnigdancpaaGreatDoor
open Go.RowKit Go.Lib
set_option linter.unusedVariables false
set_option maxRecDepth 20000
attribute [local go_sem ↓] seal_append
attribute [local go_sem] opC upC

theorem WAt.letter {W : World} {lo p g : Nat} {hb : Nat → Nat → Nat} {lv : Value} {s : SW} (h : WAt W lo p g hb lv s) {i : Nat} (hi : i < s.lets.length) :
    ∃ b off cap sv s1 s2 s3, lv = .slice (some ⟨b, off, none⟩) s.lets.length cap ∧ (∀ j u, j < 6 → (letCs s.lets[i] sv s1 s2 s3)[j]? = some u → W.cell? ⟨b, off + i * 6 + j, none⟩ = some u) ∧ MsgIn (Free p g hb lv W) W sv s1 s2 s3 s.lets[i].msg := by
  obtain ⟨C, h1, h2, h3, h4⟩ := h.lets
  obtain ⟨sv, s1, s2, s3, k1, k2⟩ := h4 i hi
  obtain ⟨a, cap, rfl⟩ := own_shape h3
  obtain ⟨b, off, rfl, -, -, hc⟩ := (Rows.of_owns h3).cells (by omega)
  refine ⟨b, off, cap, sv, s1, s2, s3, rfl, fun j u hj hu => ?_, k2⟩
  rw [Nat.add_assoc]
  exact hc _ _ ((flat6 C i j _ h2 k1 hj).trans hu)
theorem WAt.lvS {W : World} {lo p g : Nat} {hb : Nat → Nat → Nat} {lv : Value} {s : SW} (h : WAt W lo p g hb lv s) : ∃ a c, lv = .slice a s.lets.length c := by
  obtain ⟨C, h1, h2, h3, h4⟩ := h.lets
  exact own_shape h3
theorem infoLet : (Tryz.prog.info? 76).map (fun i => (i.zero, i.size, i.bytes)) = some (some (.agg #[.int .i64 0, .int .i64 0, .slice none 0 0, .slice none 0 0, .slice none 0 0, .slice none 0 0]), 6, 112) := by kernel_rfl
theorem own_appended {P : Program} (W : World) (base : Nat) (ts te : TypeId) {i0 : TypeInfo} {z : Value} {k bz : Nat} (hu : P.underlying ts = some (.slice te)) (hi : P.info? te = some i0) (hz : i0.zero = some z) (hs : i0.size = k) (hbz : i0.bytes = bz)
    (v : Value) (n : Nat) (xs : List Value) (hown : W.ownsRow base te k v n xs) (cs : Array Value) (hcs : cs.size = k) (h1 : ∀ u ∈ cs.toList, u.oneCell' = true)
    (hlen : n + 1 ≤ maxLen) (hb47 : (n + 1) * bz ≤ 140737488355328) {v' : Value} {w' : World}
    (hap : (AP #[ts, ts] ts #[v, .slice (some ⟨W.heap.size, 0, none⟩) 1 1]).run P (W.alloc (.cells cs te)) = .ok v' w') : ∀ b, v'.ownBlock = some b → v.ownBlock = some b ∨ W.heap.size < b := by
  have hnews : ∀ j u, cs.toList[j]? = some u → (W.alloc (.cells cs te)).cell? ((⟨W.heap.size, 0, none⟩ : Addr).add j) = some u := fun j u hj => by
    have hn := Blk.new W cs te
    rw [Addr.add_lit, hn.cell]
    simpa using hj
  have hcl : cs.toList.length = 1 * i0.size := by rw [hs]; simp [hcs]
  unfold maxLen at hlen
  rcases hown.2 with ⟨rfl, h0⟩ | ⟨g, cap, cur, rfl, hlo, hb, hc, hm, hsz, ht⟩
  · have hr := run_append_nil (P := P) (W.alloc (.cells cs te)) ts ts te i0 _ hu hi hz ⟨W.heap.size, 0, none⟩ 1 1 cs.toList hcl hnews (by omega) (by omega) (by rw [hbz]; exact Nat.le_trans (Nat.mul_le_mul_right bz (by omega : 1 ≤ n + 1)) (by omega))
    unfold AP at hap
    rw [hr] at hap
    simp only [Result.ok.injEq] at hap
    obtain ⟨rfl, -⟩ := hap
    intro b hb
    simp [Value.ownBlock] at hb
    right; omega
  · have hb' : (W.alloc (.cells cs te)).heap[g]? = some (.cells cur te (0, 0)) := (Below.heap_alloc _ _ _ (lt_of_block hb)).trans hb
    by_cases hroom : n + 1 ≤ cap
    · have hr := run_append_room (P := P) (W.alloc (.cells cs te)) ts ts te i0 hu hi g n cap cur hb' ⟨W.heap.size, 0, none⟩ 1 1 cs.toList hcl hnews h1 hroom (by
        have h2 : (n + 1) * k ≤ cap * k := Nat.mul_le_mul_right k hroom
        rw [Nat.succ_mul] at h2
        rw [hcl, hs, hsz]; omega)
      unfold AP at hap
      rw [hr] at hap
      simp only [Result.ok.injEq] at hap
      obtain ⟨rfl, -⟩ := hap
      intro b hb
      left
      exact hb
    · have holds : ∀ j u, xs[j]? = some u → (W.alloc (.cells cs te)).cell? ((⟨g, 0, none⟩ : Addr).add j) = some u := (hown.alloc _).cells (g := g) rfl
      have hr := run_append_grow (P := P) (W.alloc (.cells cs te)) ts ts te i0 _ hu hi hz ⟨g, 0, none⟩ n cap xs (by rw [hs]; exact hown.1) holds ⟨W.heap.size, 0, none⟩ 1 1 cs.toList hcl hnews (by omega) (by omega) (by rw [hbz]; exact growslice_fits (by omega) hb47)
      unfold AP at hap
      rw [hr] at hap
      simp only [Result.ok.injEq] at hap
      obtain ⟨rfl, -⟩ := hap
      intro b hb
      simp [Value.ownBlock] at hb
      right; omega
def ordA3 : List FStep := [.steady 0, .steady 1, .steady 2, .steady 3, .steady 4, .steady 5, .steady 6, .steady 7, .steady 8, .steady 9, .steady 10, .steady 11, .steady 12, .steady 13, .steady 14, .steady 15, .move 16, .steady 17, .steady 18, .steady 19, .float 20, .fixed 21, .steady 22]
set_option maxRecDepth 100000 in
set_option maxHeartbeats 8000000 in
theorem act_any (w : World) (hT : Tabs w) (h3 : 3 ≤ w.heap.size) (lo p g : Nat) (hb : Nat → Nat → Nat) (lv : Value) (s : SW) (N : Int) (E : List SLet) (hW : WAt w lo p g hb lv s) (hlo : lo ≤ w.heap.size) (hI : SInv K4 N E s) (hN : N < 1099511627776) (hl : s.lets.length ≤ 1000)
    (A : SAct) (hA : ActOk A) (ka : Option Addr) (kc : Nat) (hk : Bytes (fun q => q < lo) w (.slice ka A.keys.length kc) A.keys) :
    Calls Tryz.prog 31 #[.pointer (some ⟨p, 0, none⟩), .agg #[.int .u8 A.kind, .int .u8 A.one, .int .u8 A.two, .int .u16 A.which, .slice ka A.keys.length kc]] w fun e w' =>
      e = .returned (.bool true) ∧ (∃ lv', WAt w' lo p g hb lv' (stepS s A) ∧ BF lo p g hb lv w lv' w') := by
  obtain ⟨w1, hw1⟩ : ∃ w1, w1 = w.alloc (.cells #[.int .u8 A.kind, .int .u8 A.one, .int .u8 A.two, .int .u16 A.which, .slice ka A.keys.length kc] 81) := ⟨_, rfl⟩
  have hb1 : Below w.heap.size w w1 := by rw [hw1]; exact kept_alloc _ _
  have kl : Blk w1 w.heap.size [.int .u8 A.kind, .int .u8 A.one, .int .u8 A.two, .int .u16 A.which, .slice ka A.keys.length kc] 81 := by rw [hw1]; exact Blk.new _ _ _
  have hW1 := hW.keep hb1
  have hk1 := hk.keep (w' := w1) fun q hq hlt => hb1.block q hlt
  obtain ⟨a, ha⟩ : ∃ a, oneOf A = a := ⟨_, rfl⟩
  obtain ⟨b, hbb⟩ : ∃ b, twoOf A = b := ⟨_, rfl⟩
  have h1 := oneOf_lt hA
  have h2 := twoOf_lt hA
  rw [ha] at h1
  rw [hbb] at h2
  obtain ⟨ha3, hao⟩ := h1
  obtain ⟨hb3, hbt⟩ := h2
  have haI : (a : Int) < 3 := by omega
  have hbI : (b : Int) < 3 := by omega
  obtain ⟨w2, hw2⟩ : ∃ q, q = w1.drew := ⟨_, rfl⟩
  have hb2 : Below w1.heap.size w1 w2 := by rw [hw2]; exact (Below.refl w1.heap.size w1).drew
  have kl2 := kl.keep (hb2.block _ kl.lt)
  have hW2 := hW1.keep hb2
  have hk2 := hk1.keep (w' := w2) fun q hq hlt => hb2.block q hlt
  have pz : ∀ a x, w2.cell? a = some x → ∀ w', Later w2 w' → w'.cell? a = some x := fun a x hc w' hh => (hh.cell (p := a) (cellLt hc)).trans hc
  have z1 := kl2.cell 1
  have z2 := kl2.cell 2
  simp only [List.getElem?_cons_zero, List.getElem?_cons_succ] at z1 z2
  have pz1 := pz _ _ z1
  have pz2 := pz _ _ z2
  have c0 : w2.cell? ⟨w.heap.size, 0, none⟩ = some (.int .u8 A.kind) := kl2.cell 0
  have HTb := Lib.hid (show ∀ w', Below w.heap.size w w' → Tabs w' ∧ 3 ≤ w'.heap.size from fun w' hb => ⟨tabs_below hT h3 hb, Nat.le_trans h3 hb.size⟩)
  have hB2 : Below w.heap.size w w2 := hb1.trans (hb2.mono hb1.size)
  have Hw1 := Lib.hid hw1; have Hw2 := Lib.hid hw2; have HW2 := Lib.hid hW2; have Hk2 := Lib.hid hk2; have Kl2 := Lib.hid kl2; have HB2 := Lib.hid hB2; have HI := Lib.hid hI; have HA := Lib.hid hA; have Ha := Lib.hid ha; have Hb := Lib.hid hbb; have Hlo := Lib.hid hlo; have Hl := Lib.hid hl
  have h6 : A.kind.tmod 6 = 0 ∨ A.kind.tmod 6 = 1 ∨ A.kind.tmod 6 = 2 ∨ A.kind.tmod 6 = 3 ∨ A.kind.tmod 6 = 4 ∨ A.kind.tmod 6 = 5 := by
    obtain ⟨⟨h1, h2⟩, -⟩ := hA
    have : A.kind.tmod 6 = A.kind % 6 := Int.tmod_eq_emod_of_nonneg h1
    omega
  clear hw1 hb1 kl hW hW1 hk hk1 ha hbb hw2 hb2 kl2 hW2 hk2 pz z1 z2 hB2 hI hA hlo hl hT
  obtain ⟨kk, hkk⟩ : ∃ kk, A.kind.tmod 6 = kk := ⟨_, rfl⟩
  rw [hkk] at h6
  go_enter Tryz.func31, Tryz.ntmps31
  go_wp2_with fail
  rw [← Hw1.out]
  refine wp_region_can Later [(0, true), (1, true), (2, true), (3, true), (4, true), (5, true), (6, true), (7, true), (8, true), (9, true)] (by kernel_rfl) (by kernel_rfl) later_refl later_trans ?_
  rw [← Hw2.out]
  repeat (refine can_yes (v := ?_) rfl (wanted_none rfl) (fun w' hC => ?_) (fun K hK => ?_); rotate_left; (focus (go_simp; (try simp (disch := omega) only [IntWalk.i64_in]); (try simp (disch := omega) only [IntWalk.u32_in]); (try simp (disch := omega) only [IntWalk.u8_in]); (try simp (disch := omega) only [IntWalk.i64_quo]); (try simp (disch := omega) only [IntWalk.rem_in]); first | done | exact rfl)); go_simp; (try simp (disch := omega) only [IntWalk.i64_in]); (try simp (disch := omega) only [IntWalk.u32_in]); (try simp (disch := omega) only [IntWalk.u8_in]); (try simp (disch := omega) only [IntWalk.i64_quo]); (try simp (disch := omega) only [IntWalk.rem_in]); refine hK _ ?_; clear hK K)
  clear pz1 pz2
  refine can_nil ?_
  rcases h6 with rfl | rfl | rfl | rfl | rfl | rfl
  ·
    obtain ⟨w3, hw3⟩ : ∃ q, q = w2.drew := ⟨_, rfl⟩
    have hb3' : Below w2.heap.size w2 w3 := by rw [hw3]; exact (Below.refl w2.heap.size w2).drew
    have hW3 := HW2.out.keep hb3'
    have kl3 := Kl2.out.keep (hb3'.block _ Kl2.out.lt)
    have hk3 := Hk2.out.keep (w' := w3) fun q hq hlt => hb3'.block q hlt
    have hB3 : Below w.heap.size w w3 := HB2.out.trans (hb3'.mono HB2.out.size)
    obtain ⟨u1, e1, u2, e2, u3, e3, y0, y1, y2, hMd⟩ := hW3.maps.get a ha3
    have x0 : w3.cell? ⟨p, 0, none⟩ = some (.slice (some ⟨g, 0, none⟩) 3 3) := hW3.box.cell 0
    have z4 : w3.cell? ⟨w.heap.size, 4, none⟩ = some (.slice ka A.keys.length kc) := kl3.cell 4
    have pz : ∀ a x, w3.cell? a = some x → ∀ w', Later w3 w' → w'.cell? a = some x := fun a x hc w' hh => (hh.cell (p := a) (cellLt hc)).trans hc
    have px0 := pz _ _ x0
    have py0 := pz _ _ y0
    have py1 := pz _ _ y1
    have py2 := pz _ _ y2
    have pz4 := pz _ _ z4
    have hin : Good K4 N (s.m a) := HI.out.three.good a ha3
    have hal : Allowed (a : Int) (named4 A.keys) := named4_allowed (by omega) (by omega) _
    have hEq := useR_ok hin (by decide) hal (by omega) (fun k hk => named4_mem hk) hN
    obtain ⟨M, hM⟩ : ∃ M, useM (s.m a) a (named4 A.keys) = M := ⟨_, rfl⟩
    rw [hM] at hEq
    have hkm := valid_keys (hin.valid (by decide))
    have hsm := valid_lens (hin.valid (by decide))
    obtain ⟨mm, hmm⟩ : ∃ mm, s.m a = mm := ⟨_, rfl⟩
    rw [hmm] at hEq hkm hsm py0 py1 py2 hMd
    have HNm := Lib.hid (named_any w3 _ (.slice ka A.keys.length kc) A.keys hk3 (fun q hq => by have := Hlo.out; have := hB3.size; omega))
    have Hw3 := Lib.hid hw3; have HW3 := Lib.hid hW3; have HB3 := Lib.hid hB3; have HEq := Lib.hid hEq; have HM := Lib.hid hM; have Hkm := Lib.hid hkm; have Hsm := Lib.hid hsm; have HMd := Lib.hid hMd; have Hmm := Lib.hid hmm
    clear hw3 hb3' hW3 kl3 hk3 hB3 y0 y1 y2 hMd x0 z4 pz hin hal hEq hM hkm hsm hmm
    go_wp2_with fail
    refine wp_region_canP Later 21 [19, 22] [(0, true), (1, true), (2, true), (3, true), (4, true), (5, true), (6, true), (7, true), (8, true), (9, true), (10, true), (11, true), (12, true), (13, true), (14, true), (15, false), (16, false), (17, true), (18, true), (19, true), (20, true), (21, false), (22, true)] (by kernel_rfl) (by kernel_rfl) (by kernel_rfl) later_refl later_trans ?_
    rw [← Hw3.out]
    clear c0
    repeat (first | (refine canP_yes (v := ?_) rfl (wanted_none rfl) rfl (fun w' hC => ?_) (fun K hK => ?_); rotate_left; (focus (go_simp; (try simp (disch := omega) only [IntWalk.i64_in]); (try simp (disch := omega) only [IntWalk.u32_in]); (try simp (disch := omega) only [IntWalk.u8_in]); (try simp (disch := omega) only [IntWalk.i64_quo]); (try simp (disch := omega) only [IntWalk.rem_in]); first | done | exact rfl)); go_simp; (try simp (disch := omega) only [IntWalk.i64_in]); (try simp (disch := omega) only [IntWalk.u32_in]); (try simp (disch := omega) only [IntWalk.u8_in]); (try simp (disch := omega) only [IntWalk.i64_quo]); (try simp (disch := omega) only [IntWalk.rem_in]); refine hK _ ?_; clear hK K) | (refine canP_pure (v := ?_) rfl (wanted_none rfl) (fun w' => ?_) (fun K hK => ?_); rotate_left; (focus (go_simp; (try simp (disch := omega) only [IntWalk.i64_in]); (try simp (disch := omega) only [IntWalk.u32_in]); (try simp (disch := omega) only [IntWalk.u8_in]); (try simp (disch := omega) only [IntWalk.i64_quo]); (try simp (disch := omega) only [IntWalk.rem_in]); first | done | exact rfl)); go_simp; (try simp (disch := omega) only [IntWalk.i64_in]); (try simp (disch := omega) only [IntWalk.u32_in]); (try simp (disch := omega) only [IntWalk.u8_in]); (try simp (disch := omega) only [IntWalk.i64_quo]); (try simp (disch := omega) only [IntWalk.rem_in]); refine hK _ ?_; clear hK K))
    clear px0 py0 py1 py2 pz4
    refine canP_go rfl rfl (fun KK hK => ?_)
    go_simp
    refine HNm.out.mono ?_
    rintro e w4 ⟨⟨r, rfl, ho4⟩, hb4⟩
    obtain ⟨ar, cr, rfl⟩ := own_shape ho4
    refine ⟨_, rfl, hb4, hK _ _ ?_⟩
    clear hK KK HNm
    go_simp
    have hB4 := HB3.out.trans (hb4.mono HB3.out.size)
    have hU := puse_any w4 (HTb.out _ hB4).1 (HTb.out _ hB4).2 _ (.agg #[.slice u1 mm.seen.length e1, .slice u2 mm.items.length e2, .slice u3 mm.gone.length e3]) mm ⟨_, _, _, rfl, HMd.out.keep (w' := w4) fun q _ hlt => hb4.block q hlt⟩ Hkm.out.1 Hkm.out.2 (by have := Hsm.out; omega) (by have := Hsm.out; omega) (a : Int) _ _ (named4 A.keys) (Rows.of_owns ho4) (by have := named4_len A.keys; omega) (fun k hk => by have := K4_keys (named4_mem hk); omega)
    rw [HEq.out] at hU
    refine canP_go rfl rfl (fun KK hK => ?_)
    go_simp
    refine hU.mono ?_
    rintro e w5 ⟨⟨r, rfl, ⟨q1, q2, q3, rfl, ho⟩, hbd⟩, hb5⟩
    dsimp only at ho hbd
    obtain ⟨n1, m1, rfl⟩ := own_shape ho.seen
    obtain ⟨n2, m2, rfl⟩ := own_shape ho.items
    obtain ⟨n3, m3, rfl⟩ := own_shape ho.gone
    refine ⟨_, rfl, hb5, hK _ _ ?_⟩
    clear hK KK hU
    go_simp
    have hb35 : Below w3.heap.size w3 w5 := hb4.trans (hb5.mono hb4.size)
    have hW5 := HW3.out.keep hb35
    have hM5 : MapIn (Free p g hb lv w5) w5 (.slice n1 M.seen.length m1) (.slice n2 M.items.length m2) (.slice n3 M.gone.length m3) M :=
      (ho.map hbd).mono fun q hq hlt => HW3.out.fresh (W' := w5) (Nat.le_trans hb4.size hq) hlt
    obtain ⟨w6, hw6⟩ : ∃ q, q = ((w5.setCell ⟨g, a * 3, none⟩ (.slice n1 M.seen.length m1)).setCell ⟨g, a * 3 + 1, none⟩ (.slice n2 M.items.length m2)).setCell ⟨g, a * 3 + 2, none⟩ (.slice n3 M.gone.length m3) := ⟨_, rfl⟩
    obtain ⟨hW6, hb6⟩ := hW5.putMap ha3 hM5 hw6
    obtain ⟨cm, hgm, -⟩ := id hW5.maps
    obtain ⟨_, _, _, _, _, _, y0, y1, y2, -⟩ := hW5.maps.get a ha3
    have g0 := hgm.free (a * 3)
    have g1 := hgm.free (a * 3 + 1)
    have g2 := hgm.free (a * 3 + 2)
    have hB6 : BF lo p g hb lv w lv w6 := (BF.of_below (HB3.out.trans (hb35.mono HB3.out.size)) Hlo.out).trans hb6
    have HW6 := Lib.hid hW6; have Hw6 := Lib.hid hw6; have HB6 := Lib.hid hB6
    clear hb35 hW5 hM5 hw6 hW6 hb6 hgm hB6 ho hbd hb5 hb4 hB4 ho4
    repeat (first | (refine canP_yes (v := ?_) rfl (wanted_none rfl) rfl (fun w' hC => ?_) (fun K hK => ?_); rotate_left; (focus (go_simp; (try simp (disch := omega) only [IntWalk.i64_in]); (try simp (disch := omega) only [IntWalk.u32_in]); (try simp (disch := omega) only [IntWalk.u8_in]); (try simp (disch := omega) only [IntWalk.i64_quo]); (try simp (disch := omega) only [IntWalk.rem_in]); first | done | exact rfl)); go_simp; (try simp (disch := omega) only [IntWalk.i64_in]); (try simp (disch := omega) only [IntWalk.u32_in]); (try simp (disch := omega) only [IntWalk.u8_in]); (try simp (disch := omega) only [IntWalk.i64_quo]); (try simp (disch := omega) only [IntWalk.rem_in]); refine hK _ ?_; clear hK K) | (refine canP_pure (v := ?_) rfl (wanted_none rfl) (fun w' => ?_) (fun K hK => ?_); rotate_left; (focus (go_simp; (try simp (disch := omega) only [IntWalk.i64_in]); (try simp (disch := omega) only [IntWalk.u32_in]); (try simp (disch := omega) only [IntWalk.u8_in]); (try simp (disch := omega) only [IntWalk.i64_quo]); (try simp (disch := omega) only [IntWalk.rem_in]); first | done | exact rfl)); go_simp; (try simp (disch := omega) only [IntWalk.i64_in]); (try simp (disch := omega) only [IntWalk.u32_in]); (try simp (disch := omega) only [IntWalk.u8_in]); (try simp (disch := omega) only [IntWalk.i64_quo]); (try simp (disch := omega) only [IntWalk.rem_in]); refine hK _ ?_; clear hK K))
    refine canP_last rfl rfl rfl (fun KK hK => ?_)
    go_simp
    rw [← Hw6.out]
    refine hK _ _ ?_
    clear hK KK y0 y1 y2 g0 g1 g2
    go_simp
    repeat (first | (refine canP_yes (v := ?_) rfl (wanted_none rfl) rfl (fun w' hC => ?_) (fun K hK => ?_); rotate_left; (focus (go_simp; (try simp (disch := omega) only [IntWalk.i64_in]); (try simp (disch := omega) only [IntWalk.u32_in]); (try simp (disch := omega) only [IntWalk.u8_in]); (try simp (disch := omega) only [IntWalk.i64_quo]); (try simp (disch := omega) only [IntWalk.rem_in]); first | done | exact rfl)); go_simp; (try simp (disch := omega) only [IntWalk.i64_in]); (try simp (disch := omega) only [IntWalk.u32_in]); (try simp (disch := omega) only [IntWalk.u8_in]); (try simp (disch := omega) only [IntWalk.i64_quo]); (try simp (disch := omega) only [IntWalk.rem_in]); refine hK _ ?_; clear hK K) | (refine canP_pure (v := ?_) rfl (wanted_none rfl) (fun w' => ?_) (fun K hK => ?_); rotate_left; (focus (go_simp; (try simp (disch := omega) only [IntWalk.i64_in]); (try simp (disch := omega) only [IntWalk.u32_in]); (try simp (disch := omega) only [IntWalk.u8_in]); (try simp (disch := omega) only [IntWalk.i64_quo]); (try simp (disch := omega) only [IntWalk.rem_in]); first | done | exact rfl)); go_simp; (try simp (disch := omega) only [IntWalk.i64_in]); (try simp (disch := omega) only [IntWalk.u32_in]); (try simp (disch := omega) only [IntWalk.u8_in]); (try simp (disch := omega) only [IntWalk.i64_quo]); (try simp (disch := omega) only [IntWalk.rem_in]); refine hK _ ?_; clear hK K))
    refine canP_nil ?_
    go_wp2_with fail
    go_ret
    refine ⟨rfl, lv, ?_, HB6.out⟩
    have e : stepS s A = ⟨putM s.m a M, s.heard, s.lets⟩ := by
      unfold stepS
      rw [if_pos (.inl hkk), Ha.out, HM.out]
    rw [e]
    exact HW6.out
  ·
    obtain ⟨w3, hw3⟩ : ∃ q, q = w2.drew := ⟨_, rfl⟩
    have hb3' : Below w2.heap.size w2 w3 := by rw [hw3]; exact (Below.refl w2.heap.size w2).drew
    have hW3 := HW2.out.keep hb3'
    have kl3 := Kl2.out.keep (hb3'.block _ Kl2.out.lt)
    have hk3 := Hk2.out.keep (w' := w3) fun q hq hlt => hb3'.block q hlt
    have hB3 : Below w.heap.size w w3 := HB2.out.trans (hb3'.mono HB2.out.size)
    obtain ⟨u1, e1, u2, e2, u3, e3, y0, y1, y2, hMd⟩ := hW3.maps.get a ha3
    have x0 : w3.cell? ⟨p, 0, none⟩ = some (.slice (some ⟨g, 0, none⟩) 3 3) := hW3.box.cell 0
    have z4 : w3.cell? ⟨w.heap.size, 4, none⟩ = some (.slice ka A.keys.length kc) := kl3.cell 4
    have pz : ∀ a x, w3.cell? a = some x → ∀ w', Later w3 w' → w'.cell? a = some x := fun a x hc w' hh => (hh.cell (p := a) (cellLt hc)).trans hc
    have px0 := pz _ _ x0
    have py0 := pz _ _ y0
    have py1 := pz _ _ y1
    have py2 := pz _ _ y2
    have pz4 := pz _ _ z4
    have hin : Good K4 N (s.m a) := HI.out.three.good a ha3
    have hal : Allowed (a : Int) (named4 A.keys) := named4_allowed (by omega) (by omega) _
    have hEq := useR_ok hin (by decide) hal (by omega) (fun k hk => named4_mem hk) hN
    obtain ⟨M, hM⟩ : ∃ M, useM (s.m a) a (named4 A.keys) = M := ⟨_, rfl⟩
    rw [hM] at hEq
    have hkm := valid_keys (hin.valid (by decide))
    have hsm := valid_lens (hin.valid (by decide))
    obtain ⟨mm, hmm⟩ : ∃ mm, s.m a = mm := ⟨_, rfl⟩
    rw [hmm] at hEq hkm hsm py0 py1 py2 hMd
    have HNm := Lib.hid (named_any w3 _ (.slice ka A.keys.length kc) A.keys hk3 (fun q hq => by have := Hlo.out; have := hB3.size; omega))
    have Hw3 := Lib.hid hw3; have HW3 := Lib.hid hW3; have HB3 := Lib.hid hB3; have HEq := Lib.hid hEq; have HM := Lib.hid hM; have Hkm := Lib.hid hkm; have Hsm := Lib.hid hsm; have HMd := Lib.hid hMd; have Hmm := Lib.hid hmm
    clear hw3 hb3' hW3 kl3 hk3 hB3 y0 y1 y2 hMd x0 z4 pz hin hal hEq hM hkm hsm hmm
    go_wp2_with fail
    refine wp_region_canP Later 21 [19, 22] [(0, true), (1, true), (2, true), (3, true), (4, true), (5, true), (6, true), (7, true), (8, true), (9, true), (10, true), (11, true), (12, true), (13, true), (14, true), (15, false), (16, false), (17, true), (18, true), (19, true), (20, true), (21, false), (22, true)] (by kernel_rfl) (by kernel_rfl) (by kernel_rfl) later_refl later_trans ?_
    rw [← Hw3.out]
    clear c0
    repeat (first | (refine canP_yes (v := ?_) rfl (wanted_none rfl) rfl (fun w' hC => ?_) (fun K hK => ?_); rotate_left; (focus (go_simp; (try simp (disch := omega) only [IntWalk.i64_in]); (try simp (disch := omega) only [IntWalk.u32_in]); (try simp (disch := omega) only [IntWalk.u8_in]); (try simp (disch := omega) only [IntWalk.i64_quo]); (try simp (disch := omega) only [IntWalk.rem_in]); first | done | exact rfl)); go_simp; (try simp (disch := omega) only [IntWalk.i64_in]); (try simp (disch := omega) only [IntWalk.u32_in]); (try simp (disch := omega) only [IntWalk.u8_in]); (try simp (disch := omega) only [IntWalk.i64_quo]); (try simp (disch := omega) only [IntWalk.rem_in]); refine hK _ ?_; clear hK K) | (refine canP_pure (v := ?_) rfl (wanted_none rfl) (fun w' => ?_) (fun K hK => ?_); rotate_left; (focus (go_simp; (try simp (disch := omega) only [IntWalk.i64_in]); (try simp (disch := omega) only [IntWalk.u32_in]); (try simp (disch := omega) only [IntWalk.u8_in]); (try simp (disch := omega) only [IntWalk.i64_quo]); (try simp (disch := omega) only [IntWalk.rem_in]); first | done | exact rfl)); go_simp; (try simp (disch := omega) only [IntWalk.i64_in]); (try simp (disch := omega) only [IntWalk.u32_in]); (try simp (disch := omega) only [IntWalk.u8_in]); (try simp (disch := omega) only [IntWalk.i64_quo]); (try simp (disch := omega) only [IntWalk.rem_in]); refine hK _ ?_; clear hK K))
    clear px0 py0 py1 py2 pz4
    refine canP_go rfl rfl (fun KK hK => ?_)
    go_simp
    refine HNm.out.mono ?_
    rintro e w4 ⟨⟨r, rfl, ho4⟩, hb4⟩
    obtain ⟨ar, cr, rfl⟩ := own_shape ho4
    refine ⟨_, rfl, hb4, hK _ _ ?_⟩
    clear hK KK HNm
    go_simp
    have hB4 := HB3.out.trans (hb4.mono HB3.out.size)
    have hU := puse_any w4 (HTb.out _ hB4).1 (HTb.out _ hB4).2 _ (.agg #[.slice u1 mm.seen.length e1, .slice u2 mm.items.length e2, .slice u3 mm.gone.length e3]) mm ⟨_, _, _, rfl, HMd.out.keep (w' := w4) fun q _ hlt => hb4.block q hlt⟩ Hkm.out.1 Hkm.out.2 (by have := Hsm.out; omega) (by have := Hsm.out; omega) (a : Int) _ _ (named4 A.keys) (Rows.of_owns ho4) (by have := named4_len A.keys; omega) (fun k hk => by have := K4_keys (named4_mem hk); omega)
    rw [HEq.out] at hU
    refine canP_go rfl rfl (fun KK hK => ?_)
    go_simp
    refine hU.mono ?_
    rintro e w5 ⟨⟨r, rfl, ⟨q1, q2, q3, rfl, ho⟩, hbd⟩, hb5⟩
    dsimp only at ho hbd
    obtain ⟨n1, m1, rfl⟩ := own_shape ho.seen
    obtain ⟨n2, m2, rfl⟩ := own_shape ho.items
    obtain ⟨n3, m3, rfl⟩ := own_shape ho.gone
    refine ⟨_, rfl, hb5, hK _ _ ?_⟩
    clear hK KK hU
    go_simp
    have hb35 : Below w3.heap.size w3 w5 := hb4.trans (hb5.mono hb4.size)
    have hW5 := HW3.out.keep hb35
    have hM5 : MapIn (Free p g hb lv w5) w5 (.slice n1 M.seen.length m1) (.slice n2 M.items.length m2) (.slice n3 M.gone.length m3) M :=
      (ho.map hbd).mono fun q hq hlt => HW3.out.fresh (W' := w5) (Nat.le_trans hb4.size hq) hlt
    obtain ⟨w6, hw6⟩ : ∃ q, q = ((w5.setCell ⟨g, a * 3, none⟩ (.slice n1 M.seen.length m1)).setCell ⟨g, a * 3 + 1, none⟩ (.slice n2 M.items.length m2)).setCell ⟨g, a * 3 + 2, none⟩ (.slice n3 M.gone.length m3) := ⟨_, rfl⟩
    obtain ⟨hW6, hb6⟩ := hW5.putMap ha3 hM5 hw6
    obtain ⟨cm, hgm, -⟩ := id hW5.maps
    obtain ⟨_, _, _, _, _, _, y0, y1, y2, -⟩ := hW5.maps.get a ha3
    have g0 := hgm.free (a * 3)
    have g1 := hgm.free (a * 3 + 1)
    have g2 := hgm.free (a * 3 + 2)
    have hB6 : BF lo p g hb lv w lv w6 := (BF.of_below (HB3.out.trans (hb35.mono HB3.out.size)) Hlo.out).trans hb6
    have HW6 := Lib.hid hW6; have Hw6 := Lib.hid hw6; have HB6 := Lib.hid hB6
    clear hb35 hW5 hM5 hw6 hW6 hb6 hgm hB6 ho hbd hb5 hb4 hB4 ho4
    repeat (first | (refine canP_yes (v := ?_) rfl (wanted_none rfl) rfl (fun w' hC => ?_) (fun K hK => ?_); rotate_left; (focus (go_simp; (try simp (disch := omega) only [IntWalk.i64_in]); (try simp (disch := omega) only [IntWalk.u32_in]); (try simp (disch := omega) only [IntWalk.u8_in]); (try simp (disch := omega) only [IntWalk.i64_quo]); (try simp (disch := omega) only [IntWalk.rem_in]); first | done | exact rfl)); go_simp; (try simp (disch := omega) only [IntWalk.i64_in]); (try simp (disch := omega) only [IntWalk.u32_in]); (try simp (disch := omega) only [IntWalk.u8_in]); (try simp (disch := omega) only [IntWalk.i64_quo]); (try simp (disch := omega) only [IntWalk.rem_in]); refine hK _ ?_; clear hK K) | (refine canP_pure (v := ?_) rfl (wanted_none rfl) (fun w' => ?_) (fun K hK => ?_); rotate_left; (focus (go_simp; (try simp (disch := omega) only [IntWalk.i64_in]); (try simp (disch := omega) only [IntWalk.u32_in]); (try simp (disch := omega) only [IntWalk.u8_in]); (try simp (disch := omega) only [IntWalk.i64_quo]); (try simp (disch := omega) only [IntWalk.rem_in]); first | done | exact rfl)); go_simp; (try simp (disch := omega) only [IntWalk.i64_in]); (try simp (disch := omega) only [IntWalk.u32_in]); (try simp (disch := omega) only [IntWalk.u8_in]); (try simp (disch := omega) only [IntWalk.i64_quo]); (try simp (disch := omega) only [IntWalk.rem_in]); refine hK _ ?_; clear hK K))
    refine canP_last rfl rfl rfl (fun KK hK => ?_)
    go_simp
    rw [← Hw6.out]
    refine hK _ _ ?_
    clear hK KK y0 y1 y2 g0 g1 g2
    go_simp
    repeat (first | (refine canP_yes (v := ?_) rfl (wanted_none rfl) rfl (fun w' hC => ?_) (fun K hK => ?_); rotate_left; (focus (go_simp; (try simp (disch := omega) only [IntWalk.i64_in]); (try simp (disch := omega) only [IntWalk.u32_in]); (try simp (disch := omega) only [IntWalk.u8_in]); (try simp (disch := omega) only [IntWalk.i64_quo]); (try simp (disch := omega) only [IntWalk.rem_in]); first | done | exact rfl)); go_simp; (try simp (disch := omega) only [IntWalk.i64_in]); (try simp (disch := omega) only [IntWalk.u32_in]); (try simp (disch := omega) only [IntWalk.u8_in]); (try simp (disch := omega) only [IntWalk.i64_quo]); (try simp (disch := omega) only [IntWalk.rem_in]); refine hK _ ?_; clear hK K) | (refine canP_pure (v := ?_) rfl (wanted_none rfl) (fun w' => ?_) (fun K hK => ?_); rotate_left; (focus (go_simp; (try simp (disch := omega) only [IntWalk.i64_in]); (try simp (disch := omega) only [IntWalk.u32_in]); (try simp (disch := omega) only [IntWalk.u8_in]); (try simp (disch := omega) only [IntWalk.i64_quo]); (try simp (disch := omega) only [IntWalk.rem_in]); first | done | exact rfl)); go_simp; (try simp (disch := omega) only [IntWalk.i64_in]); (try simp (disch := omega) only [IntWalk.u32_in]); (try simp (disch := omega) only [IntWalk.u8_in]); (try simp (disch := omega) only [IntWalk.i64_quo]); (try simp (disch := omega) only [IntWalk.rem_in]); refine hK _ ?_; clear hK K))
    refine canP_nil ?_
    go_wp2_with fail
    go_ret
    refine ⟨rfl, lv, ?_, HB6.out⟩
    have e : stepS s A = ⟨putM s.m a M, s.heard, s.lets⟩ := by
      unfold stepS
      rw [if_pos (.inr hkk), Ha.out, HM.out]
    rw [e]
    exact HW6.out
  ·
    obtain ⟨w3, hw3⟩ : ∃ q, q = w2.drew := ⟨_, rfl⟩
    have hb3' : Below w2.heap.size w2 w3 := by rw [hw3]; exact (Below.refl w2.heap.size w2).drew
    have hW3 := HW2.out.keep hb3'
    have kl3 := Kl2.out.keep (hb3'.block _ Kl2.out.lt)
    have hk3 := Hk2.out.keep (w' := w3) fun q hq hlt => hb3'.block q hlt
    have hB3 : Below w.heap.size w w3 := HB2.out.trans (hb3'.mono HB2.out.size)
    obtain ⟨u1, e1, u2, e2, u3, e3, y0, y1, y2, hMd⟩ := hW3.maps.get a ha3
    have x0 : w3.cell? ⟨p, 0, none⟩ = some (.slice (some ⟨g, 0, none⟩) 3 3) := hW3.box.cell 0
    have z4 : w3.cell? ⟨w.heap.size, 4, none⟩ = some (.slice ka A.keys.length kc) := kl3.cell 4
    have pz : ∀ a x, w3.cell? a = some x → ∀ w', Later w3 w' → w'.cell? a = some x := fun a x hc w' hh => (hh.cell (p := a) (cellLt hc)).trans hc
    have px0 := pz _ _ x0
    have py0 := pz _ _ y0
    have py1 := pz _ _ y1
    have py2 := pz _ _ y2
    have pz4 := pz _ _ z4
    have hin : Good K4 N (s.m a) := HI.out.three.good a ha3
    have hal : Allowed (a : Int) (named4 A.keys) := named4_allowed (by omega) (by omega) _
    have hEq := forgetR_ok hin (by decide) hal hN
    obtain ⟨M, hM⟩ : ∃ M, forgetM (s.m a) a (named4 A.keys) = M := ⟨_, rfl⟩
    rw [hM] at hEq
    have hkm := valid_keys (hin.valid (by decide))
    have hsm := valid_lens (hin.valid (by decide))
    obtain ⟨mm, hmm⟩ : ∃ mm, s.m a = mm := ⟨_, rfl⟩
    rw [hmm] at hEq hkm hsm py0 py1 py2 hMd
    have HNm := Lib.hid (named_any w3 _ (.slice ka A.keys.length kc) A.keys hk3 (fun q hq => by have := Hlo.out; have := hB3.size; omega))
    have Hw3 := Lib.hid hw3; have HW3 := Lib.hid hW3; have HB3 := Lib.hid hB3; have HEq := Lib.hid hEq; have HM := Lib.hid hM; have Hkm := Lib.hid hkm; have Hsm := Lib.hid hsm; have HMd := Lib.hid hMd; have Hmm := Lib.hid hmm
    clear hw3 hb3' hW3 kl3 hk3 hB3 y0 y1 y2 hMd x0 z4 pz hin hal hEq hM hkm hsm hmm
    go_wp2_with fail
    refine wp_region_canP Later 21 [19, 22] [(0, true), (1, true), (2, true), (3, true), (4, true), (5, true), (6, true), (7, true), (8, true), (9, true), (10, true), (11, true), (12, true), (13, true), (14, true), (15, false), (16, false), (17, true), (18, true), (19, true), (20, true), (21, false), (22, true)] (by kernel_rfl) (by kernel_rfl) (by kernel_rfl) later_refl later_trans ?_
    rw [← Hw3.out]
    clear c0
    repeat (first | (refine canP_yes (v := ?_) rfl (wanted_none rfl) rfl (fun w' hC => ?_) (fun K hK => ?_); rotate_left; (focus (go_simp; (try simp (disch := omega) only [IntWalk.i64_in]); (try simp (disch := omega) only [IntWalk.u32_in]); (try simp (disch := omega) only [IntWalk.u8_in]); (try simp (disch := omega) only [IntWalk.i64_quo]); (try simp (disch := omega) only [IntWalk.rem_in]); first | done | exact rfl)); go_simp; (try simp (disch := omega) only [IntWalk.i64_in]); (try simp (disch := omega) only [IntWalk.u32_in]); (try simp (disch := omega) only [IntWalk.u8_in]); (try simp (disch := omega) only [IntWalk.i64_quo]); (try simp (disch := omega) only [IntWalk.rem_in]); refine hK _ ?_; clear hK K) | (refine canP_pure (v := ?_) rfl (wanted_none rfl) (fun w' => ?_) (fun K hK => ?_); rotate_left; (focus (go_simp; (try simp (disch := omega) only [IntWalk.i64_in]); (try simp (disch := omega) only [IntWalk.u32_in]); (try simp (disch := omega) only [IntWalk.u8_in]); (try simp (disch := omega) only [IntWalk.i64_quo]); (try simp (disch := omega) only [IntWalk.rem_in]); first | done | exact rfl)); go_simp; (try simp (disch := omega) only [IntWalk.i64_in]); (try simp (disch := omega) only [IntWalk.u32_in]); (try simp (disch := omega) only [IntWalk.u8_in]); (try simp (disch := omega) only [IntWalk.i64_quo]); (try simp (disch := omega) only [IntWalk.rem_in]); refine hK _ ?_; clear hK K))
    clear px0 py0 py1 py2 pz4
    refine canP_go rfl rfl (fun KK hK => ?_)
    go_simp
    refine HNm.out.mono ?_
    rintro e w4 ⟨⟨r, rfl, ho4⟩, hb4⟩
    obtain ⟨ar, cr, rfl⟩ := own_shape ho4
    refine ⟨_, rfl, hb4, hK _ _ ?_⟩
    clear hK KK HNm
    go_simp
    have hB4 := HB3.out.trans (hb4.mono HB3.out.size)
    have hU := pforget_any w4 (HTb.out _ hB4).1 (HTb.out _ hB4).2 _ (.agg #[.slice u1 mm.seen.length e1, .slice u2 mm.items.length e2, .slice u3 mm.gone.length e3]) mm ⟨_, _, _, rfl, HMd.out.keep (w' := w4) fun q _ hlt => hb4.block q hlt⟩ Hkm.out.1 Hkm.out.2 (by have := Hsm.out; omega) (by have := Hsm.out; omega) (a : Int) _ _ (named4 A.keys) (Rows.of_owns ho4) (by have := named4_len A.keys; omega) (fun k hk => by have := K4_keys (named4_mem hk); omega)
    rw [HEq.out] at hU
    refine canP_go rfl rfl (fun KK hK => ?_)
    go_simp
    refine hU.mono ?_
    rintro e w5 ⟨⟨r, rfl, ⟨q1, q2, q3, rfl, ho⟩, hbd⟩, hb5⟩
    dsimp only at ho hbd
    obtain ⟨n1, m1, rfl⟩ := own_shape ho.seen
    obtain ⟨n2, m2, rfl⟩ := own_shape ho.items
    obtain ⟨n3, m3, rfl⟩ := own_shape ho.gone
    refine ⟨_, rfl, hb5, hK _ _ ?_⟩
    clear hK KK hU
    go_simp
    have hb35 : Below w3.heap.size w3 w5 := hb4.trans (hb5.mono hb4.size)
    have hW5 := HW3.out.keep hb35
    have hM5 : MapIn (Free p g hb lv w5) w5 (.slice n1 M.seen.length m1) (.slice n2 M.items.length m2) (.slice n3 M.gone.length m3) M :=
      (ho.map hbd).mono fun q hq hlt => HW3.out.fresh (W' := w5) (Nat.le_trans hb4.size hq) hlt
    obtain ⟨w6, hw6⟩ : ∃ q, q = ((w5.setCell ⟨g, a * 3, none⟩ (.slice n1 M.seen.length m1)).setCell ⟨g, a * 3 + 1, none⟩ (.slice n2 M.items.length m2)).setCell ⟨g, a * 3 + 2, none⟩ (.slice n3 M.gone.length m3) := ⟨_, rfl⟩
    obtain ⟨hW6, hb6⟩ := hW5.putMap ha3 hM5 hw6
    obtain ⟨cm, hgm, -⟩ := id hW5.maps
    obtain ⟨_, _, _, _, _, _, y0, y1, y2, -⟩ := hW5.maps.get a ha3
    have g0 := hgm.free (a * 3)
    have g1 := hgm.free (a * 3 + 1)
    have g2 := hgm.free (a * 3 + 2)
    have hB6 : BF lo p g hb lv w lv w6 := (BF.of_below (HB3.out.trans (hb35.mono HB3.out.size)) Hlo.out).trans hb6
    have HW6 := Lib.hid hW6; have Hw6 := Lib.hid hw6; have HB6 := Lib.hid hB6
    clear hb35 hW5 hM5 hw6 hW6 hb6 hgm hB6 ho hbd hb5 hb4 hB4 ho4
    repeat (first | (refine canP_yes (v := ?_) rfl (wanted_none rfl) rfl (fun w' hC => ?_) (fun K hK => ?_); rotate_left; (focus (go_simp; (try simp (disch := omega) only [IntWalk.i64_in]); (try simp (disch := omega) only [IntWalk.u32_in]); (try simp (disch := omega) only [IntWalk.u8_in]); (try simp (disch := omega) only [IntWalk.i64_quo]); (try simp (disch := omega) only [IntWalk.rem_in]); first | done | exact rfl)); go_simp; (try simp (disch := omega) only [IntWalk.i64_in]); (try simp (disch := omega) only [IntWalk.u32_in]); (try simp (disch := omega) only [IntWalk.u8_in]); (try simp (disch := omega) only [IntWalk.i64_quo]); (try simp (disch := omega) only [IntWalk.rem_in]); refine hK _ ?_; clear hK K) | (refine canP_pure (v := ?_) rfl (wanted_none rfl) (fun w' => ?_) (fun K hK => ?_); rotate_left; (focus (go_simp; (try simp (disch := omega) only [IntWalk.i64_in]); (try simp (disch := omega) only [IntWalk.u32_in]); (try simp (disch := omega) only [IntWalk.u8_in]); (try simp (disch := omega) only [IntWalk.i64_quo]); (try simp (disch := omega) only [IntWalk.rem_in]); first | done | exact rfl)); go_simp; (try simp (disch := omega) only [IntWalk.i64_in]); (try simp (disch := omega) only [IntWalk.u32_in]); (try simp (disch := omega) only [IntWalk.u8_in]); (try simp (disch := omega) only [IntWalk.i64_quo]); (try simp (disch := omega) only [IntWalk.rem_in]); refine hK _ ?_; clear hK K))
    refine canP_last rfl rfl rfl (fun KK hK => ?_)
    go_simp
    rw [← Hw6.out]
    refine hK _ _ ?_
    clear hK KK y0 y1 y2 g0 g1 g2
    go_simp
    repeat (first | (refine canP_yes (v := ?_) rfl (wanted_none rfl) rfl (fun w' hC => ?_) (fun K hK => ?_); rotate_left; (focus (go_simp; (try simp (disch := omega) only [IntWalk.i64_in]); (try simp (disch := omega) only [IntWalk.u32_in]); (try simp (disch := omega) only [IntWalk.u8_in]); (try simp (disch := omega) only [IntWalk.i64_quo]); (try simp (disch := omega) only [IntWalk.rem_in]); first | done | exact rfl)); go_simp; (try simp (disch := omega) only [IntWalk.i64_in]); (try simp (disch := omega) only [IntWalk.u32_in]); (try simp (disch := omega) only [IntWalk.u8_in]); (try simp (disch := omega) only [IntWalk.i64_quo]); (try simp (disch := omega) only [IntWalk.rem_in]); refine hK _ ?_; clear hK K) | (refine canP_pure (v := ?_) rfl (wanted_none rfl) (fun w' => ?_) (fun K hK => ?_); rotate_left; (focus (go_simp; (try simp (disch := omega) only [IntWalk.i64_in]); (try simp (disch := omega) only [IntWalk.u32_in]); (try simp (disch := omega) only [IntWalk.u8_in]); (try simp (disch := omega) only [IntWalk.i64_quo]); (try simp (disch := omega) only [IntWalk.rem_in]); first | done | exact rfl)); go_simp; (try simp (disch := omega) only [IntWalk.i64_in]); (try simp (disch := omega) only [IntWalk.u32_in]); (try simp (disch := omega) only [IntWalk.u8_in]); (try simp (disch := omega) only [IntWalk.i64_quo]); (try simp (disch := omega) only [IntWalk.rem_in]); refine hK _ ?_; clear hK K))
    refine canP_nil ?_
    go_wp2_with fail
    go_ret
    refine ⟨rfl, lv, ?_, HB6.out⟩
    have e : stepS s A = ⟨putM s.m a M, s.heard, s.lets⟩ := by
      unfold stepS
      rw [if_neg (by rw [hkk]; decide), if_pos hkk, Ha.out, HM.out]
    rw [e]
    exact HW6.out
  ·
    obtain ⟨u1, e1, u2, e2, u3, e3, y0, y1, y2, hMd⟩ := HW2.out.maps.get a ha3
    have x0 : w2.cell? ⟨p, 0, none⟩ = some (.slice (some ⟨g, 0, none⟩) 3 3) := HW2.out.box.cell 0
    have xh : w2.cell? ⟨p, 1 + a * 3 + b, none⟩ = some (.slice (some ⟨hb a b, 0, none⟩) 8 8) := HW2.out.hcell ha3 hb3
    have pz : ∀ q x, w2.cell? q = some x → ∀ w', LaterT w2.heap.size 39 w2.drew w' → w'.cell? q = some x := fun q x hc w' hh => laterTC hc rfl hh
    have px0 := pz _ _ x0
    have py0 := pz _ _ y0
    have py1 := pz _ _ y1
    have py2 := pz _ _ y2
    have pxh := pz _ _ xh
    obtain ⟨hHl, hH8, hHi⟩ := HW2.out.heard a b ha3 hb3
    have hkm := valid_keys ((HI.out.three.good a ha3).valid (by decide))
    have hke := HI.out.heard a b ha3 hb3
    have hOk : LetOk K4 N s.m ⟨b, a, s.heard a b, s.m a⟩ := write_ok HI.out ha3 hb3 hke.1 hke.2
    have hEq := send_ok hOk (by decide)
    obtain ⟨X, hX⟩ : ∃ X, (⟨b, a, s.heard a b, s.m a⟩ : SLet).msg = X := ⟨_, rfl⟩
    rw [hX] at hEq
    dsimp only at hEq
    obtain ⟨mm, hmm⟩ : ∃ mm, s.m a = mm := ⟨_, rfl⟩
    obtain ⟨H, hH⟩ : ∃ q, s.heard a b = q := ⟨_, rfl⟩
    rw [hmm, hH] at hEq
    rw [hmm] at hkm py0 py1 py2 hMd
    rw [hH] at hHl hH8
    have e : stepS s A = ⟨s.m, s.heard, s.lets ++ [⟨b, a, s.heard a b, s.m a⟩]⟩ := by
      unfold stepS
      rw [if_neg (by rw [hkk]; decide), if_neg (by rw [hkk]; decide), if_pos hkk, Ha.out, Hb.out]
      rfl
    have He := Lib.hid e; have HEq := Lib.hid hEq; have Hkm := Lib.hid hkm; have HMd := Lib.hid hMd; have HX := Lib.hid hX; have HH := Lib.hid hHl; have H8 := Lib.hid hH8
    clear e hEq hkm hMd hX hHl hH8 hHi hke hOk y0 y1 y2 x0 xh pz hmm hH
    go_wp2_with fail
    clear c0
    refine wp_region_fl (LaterT w2.heap.size 39) (FreshT w2.heap.size 39 5) [20] ordA3 60 (by kernel_rfl) (by kernel_rfl) (laterT_refl _ _) (laterT_trans _ _) (floats_of #[.int .i64 0, .slice none 0 0, .slice none 0 0, .slice none 0 0, .slice none 0 0] rfl (Nat.le_refl _) (fun j hj => ?_) (fun i j hi hj hne => ?_)) ?_
    · obtain rfl : j = 20 := by simpa using hj
      exact ⟨_, rfl, rfl, fun a W => by go_simp⟩
    · simp at hi hj
      omega
    unfold ordA3
    repeat (refine canF_yes (v := ?_) rfl (wanted_none rfl) (fun w' hC => ?_) (fun K hK => ?_); rotate_left; (focus (go_simp; (try simp (disch := omega) only [IntWalk.i64_in]); (try simp (disch := omega) only [IntWalk.u32_in]); (try simp (disch := omega) only [IntWalk.u8_in]); (try simp (disch := omega) only [IntWalk.i64_quo]); (try simp (disch := omega) only [IntWalk.rem_in]); first | done | exact rfl)); go_simp; (try simp (disch := omega) only [IntWalk.i64_in]); (try simp (disch := omega) only [IntWalk.u32_in]); (try simp (disch := omega) only [IntWalk.u8_in]); (try simp (disch := omega) only [IntWalk.i64_quo]); (try simp (disch := omega) only [IntWalk.rem_in]); refine hK _ ?_; clear hK K)
    refine canF_go rfl rfl (fun Wa hWa KK hK => ?_)
    go_simp
    have hba : Below w2.heap.size w2 Wa := hWa.belD rfl
    have hwa : Below w.heap.size w Wa := HB2.out.trans (hba.mono HB2.out.size)
    have hRow : Rows (fun q => q = hb a b) Wa 1 (.slice (some ⟨hb a b, 0, none⟩) 8 8) H.length (H.map eI) := by
      have h := rowsN8 (HH.out.keep (hba.block _ HH.out.lt)) H8.out
      have e : H.length = 8 := H8.out
      rw [e] at h ⊢
      exact h
    have hU := send_any Wa (HTb.out _ hwa).1 (HTb.out _ hwa).2 _ _ (a : Int) (.agg #[.slice u1 mm.seen.length e1, .slice u2 mm.items.length e2, .slice u3 mm.gone.length e3]) mm ⟨_, _, _, rfl, HMd.out.keep (w' := Wa) fun q _ hlt => hba.block q hlt⟩ Hkm.out.1 Hkm.out.2 (.slice (some ⟨hb a b, 0, none⟩) 8 8) H hRow
    rw [HEq.out] at hU
    have Hsz := Lib.hid hba.size
    refine hU.mono ?_
    rintro e wq7 ⟨⟨r1, rfl, ho, hbd⟩, hb7⟩
    refine ⟨_, rfl, LaterT.of_later hb7, hK _ _ ?_⟩
    clear hK KK hU px0 py0 py1 py2 pxh
    go_simp
    obtain ⟨t0, t1, t2, t3, rfl, ho⟩ := ho
    dsimp only at ho hbd
    obtain ⟨n0, m0, rfl⟩ := own_shape ho.seen
    obtain ⟨n1, m1, rfl⟩ := own_shape ho.tell.seen
    obtain ⟨n2, m2, rfl⟩ := own_shape ho.tell.items
    obtain ⟨n3, m3, rfl⟩ := own_shape ho.tell.gone
    have hb07 : Below w2.heap.size w2 wq7 := hba.trans (hb7.mono hba.size)
    have Hb07 := Lib.hid hb07; have Ho := Lib.hid ho; have Hbd := Lib.hid hbd
    clear hb07 ho hbd hb7 hRow hwa hba hWa
    repeat (refine canF_yes (v := ?_) rfl (wanted_none rfl) (fun w' hC => ?_) (fun K hK => ?_); rotate_left; (focus (go_simp; (try simp (disch := omega) only [IntWalk.i64_in]); (try simp (disch := omega) only [IntWalk.u32_in]); (try simp (disch := omega) only [IntWalk.u8_in]); (try simp (disch := omega) only [IntWalk.i64_quo]); (try simp (disch := omega) only [IntWalk.rem_in]); first | done | exact rfl)); go_simp; (try simp (disch := omega) only [IntWalk.i64_in]); (try simp (disch := omega) only [IntWalk.u32_in]); (try simp (disch := omega) only [IntWalk.u8_in]); (try simp (disch := omega) only [IntWalk.i64_quo]); (try simp (disch := omega) only [IntWalk.rem_in]); refine hK _ ?_; clear hK K)
    refine canF_float rfl (fun vO Wd hWd hZ hU KK hK => ?_)
    obtain ⟨Om, LO, rfl, hO1, hO2, hO3⟩ := hZ
    refine hK _ _ ?_
    clear hK KK hU
    go_simp
    obtain ⟨x0, x1, x2, x3, x4, rfl⟩ : ∃ x0 x1 x2 x3 x4, LO = [x0, x1, x2, x3, x4] := by
      match LO, hO3 with
      | [x0, x1, x2, x3, x4], _ => exact ⟨x0, x1, x2, x3, x4, rfl⟩
    have hbd' : Below w2.heap.size w2 Wd := Hb07.out.trans (hWd.below Hb07.out.size)
    obtain ⟨w6, hw8, hblk8, hb8⟩ := fin5 hO2 hbd' hO1 (.int .i64 X.frm) (.slice n0 X.seen.length m0) (.slice n1 X.tell.seen.length m1) (.slice n2 X.tell.items.length m2) (.slice n3 X.tell.gone.length m3)
    have hl8 : LaterT w2.heap.size 39 Wd w6 := by
      rw [hw8]
      exact laterT_trans _ _ _ _ _ (laterT_trans _ _ _ _ _ (laterT_trans _ _ _ _ _ (laterT_trans _ _ _ _ _ (LaterT.set hO2 hO1 0 _) (LaterT.set (hO2.set 0 _) hO1 1 _)) (LaterT.set ((hO2.set 0 _).set 1 _) hO1 2 _)) (LaterT.set (((hO2.set 0 _).set 1 _).set 2 _) hO1 3 _)) (LaterT.set ((((hO2.set 0 _).set 1 _).set 2 _).set 3 _) hO1 4 _)
    have ho8 : OwnMsg w6 w2.heap.size (.slice n0 X.seen.length m0) (.slice n1 X.tell.seen.length m1) (.slice n2 X.tell.items.length m2) (.slice n3 X.tell.gone.length m3) X :=
      ⟨own_base (hl8.own (hWd.own Ho.out.seen (by decide)) (by decide)) Hsz.out, own_base (hl8.own (hWd.own Ho.out.tell.seen (by decide)) (by decide)) Hsz.out, own_base (hl8.own (hWd.own Ho.out.tell.items (by decide)) (by decide)) Hsz.out, own_base (hl8.own (hWd.own Ho.out.tell.gone (by decide)) (by decide)) Hsz.out⟩
    obtain ⟨y0, y1, y2, y3, y4⟩ := cell5 hO2
    have z0 := hO2.free 0
    have z1 := hO2.free 1
    have z2 := hO2.free 2
    have z3 := hO2.free 3
    have z4 := hO2.free 4
    have HOw6 := Lib.hid ho8; have HBkw6 := Lib.hid hblk8; have HBdw6 := Lib.hid Hbd.out; have HO1w6 := Lib.hid hO1
    have HBw6 := Lib.hid hb8; have Hl8 := Lib.hid hl8; have Hw8 := Lib.hid hw8
    clear hb8 hl8 hw8 hblk8 hbd' hWd hO2 hO3 Ho Hbd Hb07 ho8
    refine canF_fixed rfl rfl (fun KK hK => ?_)
    go_simp
    rw [← Hw8.out]
    refine ⟨Hl8.out, hK _ _ ?_⟩
    clear hK KK y0 y1 y2 y3 y4 z0 z1 z2 z3 z4 Hl8 Hw8 hO1
    go_simp
    repeat (refine canF_yes (v := ?_) rfl (wanted_none rfl) (fun w' hC => ?_) (fun K hK => ?_); rotate_left; (focus (go_simp; (try simp (disch := omega) only [IntWalk.i64_in]); (try simp (disch := omega) only [IntWalk.u32_in]); (try simp (disch := omega) only [IntWalk.u8_in]); (try simp (disch := omega) only [IntWalk.i64_quo]); (try simp (disch := omega) only [IntWalk.rem_in]); first | done | exact rfl)); go_simp; (try simp (disch := omega) only [IntWalk.i64_in]); (try simp (disch := omega) only [IntWalk.u32_in]); (try simp (disch := omega) only [IntWalk.u8_in]); (try simp (disch := omega) only [IntWalk.i64_quo]); (try simp (disch := omega) only [IntWalk.rem_in]); refine hK _ ?_; clear hK K)
    refine canF_nil ?_
    have hW6 := HW2.out.keep HBw6.out
    have hM6 : MsgIn (Free p g hb lv w6) w6 (.slice n0 X.seen.length m0) (.slice n1 X.tell.seen.length m1) (.slice n2 X.tell.items.length m2) (.slice n3 X.tell.gone.length m3) X := (HOw6.out.msg HBdw6.out).mono fun q hq hlt => HW2.out.fresh (W' := w6) hq hlt
    obtain ⟨w7, hw7⟩ : ∃ q, q = w6.drew := ⟨_, rfl⟩
    have hb7 : Below w6.heap.size w6 w7 := by rw [hw7]; exact (Below.refl w6.heap.size w6).drew
    have hW7 := hW6.keep hb7
    have hM7 := (hM6.keep (w' := w7) fun q _ hlt => hb7.block q hlt).mono (G := Free p g hb lv w7) fun q hq _ => Free.mono hb7.size q hq
    have hBk7 := HBkw6.out.keep (hb7.block _ HBkw6.out.lt)
    have hB7 : Below w.heap.size w w7 := HB2.out.trans ((HBw6.out.trans (hb7.mono HBw6.out.size)).mono HB2.out.size)
    obtain ⟨C, C1, C2, hown, C4⟩ := id hW7.lets
    obtain ⟨nl, hnl⟩ : ∃ n, s.lets.length = n := ⟨_, rfl⟩
    obtain ⟨al, cl, rfl⟩ := own_shape hown
    have hlo7 : lo ≤ w7.heap.size := Nat.le_trans Hlo.out hB7.size
    obtain ⟨i0, t1, t2, t3, t4⟩ := info_parts infoLet
    have hnle : s.lets.length ≤ 1000 := Hl.out
    obtain ⟨v8, w8, hr8, hown8, hg8⟩ := run_append_one (P := Tryz.prog) w7 lo 68 76 Tryz.underlying68 t1 t2 t3 t4 rfl (by decide) (.slice al s.lets.length cl) s.lets.length _ hown #[.int .i64 (b : Int), .int .i64 (a : Int), .slice n0 X.seen.length m0, .slice n1 X.tell.seen.length m1, .slice n2 X.tell.items.length m2, .slice n3 X.tell.gone.length m3] rfl (by simp [Value.oneCell']) (by unfold maxLen; omega) (by omega) hlo7
    have hnew := own_appended (P := Tryz.prog) w7 lo 68 76 Tryz.underlying68 t1 t2 t3 t4 (.slice al s.lets.length cl) s.lets.length _ hown #[.int .i64 (b : Int), .int .i64 (a : Int), .slice n0 X.seen.length m0, .slice n1 X.tell.seen.length m1, .slice n2 X.tell.items.length m2, .slice n3 X.tell.gone.length m3] rfl (by simp [Value.oneCell']) (by unfold maxLen; omega) (by omega) hr8
    obtain ⟨a8, c8, rfl⟩ := own_shape hown8
    have hFrm : X.frm = (a : Int) := by rw [← HX.out]; rfl
    rw [hFrm] at hBk7
    have hM7' : MsgIn (Free p g hb (.slice al s.lets.length cl) w7) w7 (.slice n0 X.seen.length m0) (.slice n1 X.tell.seen.length m1) (.slice n2 X.tell.items.length m2) (.slice n3 X.tell.gone.length m3) (⟨b, a, s.heard a b, s.m a⟩ : SLet).msg := by rw [HX.out]; exact hM7
    obtain ⟨hW9, hb9⟩ := hW7.addLet C1 C2 C4 hM7' hown8 hg8 hlo7 hnew
    obtain ⟨w9, hw9⟩ : ∃ q, q = w8.setCell ⟨p, 10, none⟩ (.slice a8 (s.lets.length + 1) c8) := ⟨_, rfl⟩
    rw [← hw9] at hW9 hb9
    have hF : ∀ q, (Value.slice al s.lets.length cl).ownBlock = some q → q ≠ p ∧ q ≠ Om := fun q hq => ⟨Ne.symm (hW7.lne hq hW7.box (by decide)), Ne.symm (hW7.lne hq hBk7 (by decide))⟩
    obtain ⟨FB, hFB⟩ : ∃ FB : Blks, FB = fun q => (Value.slice al s.lets.length cl).ownBlock = some q := ⟨_, rfl⟩
    have hg8' : Only FB w7 w8 := by
      refine ⟨hg8.os, hg8.tape, hg8.output, by have := hg8.size; simp at this; omega, fun q hq hn => (hg8.block q (by simp; omega) fun e => hn ?_).trans (Below.heap_alloc _ _ _ hq)⟩
      rw [hFB]; exact e.symm
    have hgA : Only FB (w7.alloc (.cells #[.int .i64 (b : Int), .int .i64 (a : Int), .slice n0 X.seen.length m0, .slice n1 X.tell.seen.length m1, .slice n2 X.tell.items.length m2, .slice n3 X.tell.gone.length m3] 76)) w8 :=
      ⟨hg8.os, hg8.tape, hg8.output, hg8.size, fun q hq hn => hg8.block q hq fun e => hn (by rw [hFB]; exact e.symm)⟩
    have HgA := Lib.hid hgA
    have hxp : w7.cell? ⟨p, 10, none⟩ = some (.slice al s.lets.length cl) := hW7.box.cell 10
    obtain ⟨d0, d1, d2, d3, d4⟩ := cell5 hBk7
    have pz : ∀ q i x, ¬ FB q → w7.cell? ⟨q, i, none⟩ = some x → ∀ w', LaterF FB w7 w' → w'.cell? ⟨q, i, none⟩ = some x := fun q i x hf hc w' hh => by
      have e := hh.block q (cellLt hc) hf
      unfold World.cell? at *
      rw [e]; exact hc
    have hFp : ¬ FB p := fun h => (hF p (by rw [hFB] at h; exact h)).1 rfl
    have hFO : ¬ FB Om := fun h => (hF Om (by rw [hFB] at h; exact h)).2 rfl
    have pxp := pz _ _ _ hFp hxp
    have pd0 := pz _ _ _ hFO d0
    have pd1 := pz _ _ _ hFO d1
    have pd2 := pz _ _ _ hFO d2
    have pd3 := pz _ _ _ hFO d3
    have pd4 := pz _ _ _ hFO d4
    have fp8 : w8.frozen? ⟨p, 10, none⟩ = false := (hW7.box.keep (hg8'.block p hW7.box.lt hFp)).free 10
    have yp8 : w8.cell? ⟨p, 10, none⟩ = some (.slice al s.lets.length cl) := pxp w8 hg8'
    have HW9 := Lib.hid hW9; have Hb9 := Lib.hid ((BF.of_below (lv := .slice al s.lets.length cl) hB7 Hlo.out).trans hb9); have Hw9 := Lib.hid hw9; have Hw7 := Lib.hid hw7; have Hg8 := Lib.hid hg8'; have HFB := Lib.hid hFB
    clear hgA hnl hW6 hM6 hb7 hW7 hM7 hBk7 hB7 C1 C2 hown C4 hlo7 t1 t2 t3 t4 hnle hown8 hg8 hnew hFrm hM7' hW9 hb9 hw9 hF hg8' hxp d0 d1 d2 d3 d4 pz hFp hFO hw7 hFB
    go_wp2_with fail
    refine wp_region_canL (LaterF FB) 12 [(0, true), (1, true), (2, true), (3, true), (4, true), (5, true), (6, true), (7, true), (8, false), (9, false), (10, true), (11, true), (12, false)] (by kernel_rfl) (by kernel_rfl) (by kernel_rfl) (laterF_refl _) (laterF_trans _) ?_
    rw [← Hw7.out]
    repeat (refine canL_yes (v := ?_) rfl (wanted_none rfl) (fun w' hC => ?_) (fun K hK => ?_); rotate_left; (focus (go_simp; first | done | exact rfl)); go_simp; refine hK _ ?_; clear hK K)
    clear pxp pd0 pd1 pd2 pd3 pd4
    refine canL_go rfl rfl (fun KK hK => ?_)
    go_simp
    refine ⟨LaterF.of_below (kept_alloc _ _), hK _ _ ?_⟩
    clear hK KK
    go_simp
    refine canL_go rfl rfl (fun KK hK => ?_)
    go_simp
    refine ⟨HgA.out, hK _ _ ?_⟩
    clear hK KK hr8 HgA
    go_simp
    repeat (refine canL_yes (v := ?_) rfl (wanted_none rfl) (fun w' hC => ?_) (fun K hK => ?_); rotate_left; (focus (go_simp; first | done | exact rfl)); go_simp; refine hK _ ?_; clear hK K)
    refine canL_last rfl rfl rfl (fun KK hK => ?_)
    go_simp
    rw [← Hw9.out]
    refine hK _ _ ?_
    clear hK KK yp8 fp8
    go_simp
    refine canL_nil ?_
    go_wp2_with fail
    go_ret
    exact ⟨rfl, _, by rw [He.out]; exact HW9.out, Hb9.out⟩
  ·
    obtain ⟨n, hn⟩ : ∃ n, s.lets.length = n := ⟨_, rfl⟩
    by_cases h0 : n = 0
    · obtain ⟨al, cl, rfl⟩ := HW2.out.lvS
      have x10 : w2.cell? ⟨p, 10, none⟩ = some (.slice al s.lets.length cl) := HW2.out.box.cell 10
      rw [hn, h0] at x10
      have e : stepS s A = s := by
        have hl0 : s.lets = [] := List.length_eq_zero_iff.1 (hn.trans h0)
        unfold stepS
        rw [if_neg (by rw [hkk]; decide), if_neg (by rw [hkk]; decide), if_neg (by rw [hkk]; decide), hl0]
        rfl
      have He := Lib.hid e
      clear e
      go_wp2_with fail
      go_ret
      exact ⟨rfl, _, by rw [He.out]; exact HW2.out, BF.of_below HB2.out Hlo.out⟩
    · have hnI : (0 : Int) < (n : Int) := by omega
      obtain ⟨i, hie⟩ : ∃ i, A.which.toNat % n = i := ⟨_, rfl⟩
      have hin : i < n := by rw [← hie]; exact Nat.mod_lt _ (by omega)
      have hmod : A.which.tmod (n : Int) = (i : Int) := by
        obtain ⟨-, -, -, h1, h2⟩ := HA.out
        rw [Int.tmod_eq_emod_of_nonneg h1, ← hie]
        obtain ⟨q, hq⟩ := Int.eq_ofNat_of_zero_le h1
        rw [hq]
        first
        | rfl
        | (simp; done)
        | (rw [Int.toNat_natCast]; exact (Int.natCast_emod q n).symm)
      have hil : i < s.lets.length := by rw [hn]; exact hin
      obtain ⟨-, -, -, hwh0, hwh1⟩ := id HA.out
      obtain ⟨l, hl⟩ : ∃ l, s.lets[i] = l := ⟨_, rfl⟩
      have hwi : IntKind.i64.wrap A.which = A.which := IntWalk.i64_in _ (by omega)
      obtain ⟨w3, hw3⟩ : ∃ q, q = w2.drew := ⟨_, rfl⟩
      have hb3' : Below w2.heap.size w2 w3 := by rw [hw3]; exact (Below.refl w2.heap.size w2).drew
      have hW3 := HW2.out.keep hb3'
      have kl3 := Kl2.out.keep (hb3'.block _ Kl2.out.lt)
      have hB3 : Below w.heap.size w w3 := HB2.out.trans (hb3'.mono HB2.out.size)
      obtain ⟨bl, ol, cap, sv, s1, s2, s3, rfl, hcc, hm⟩ := hW3.letter hil
      rw [hl] at hcc hm
      have x10 : w2.cell? ⟨p, 10, none⟩ = some (.slice (some ⟨bl, ol, none⟩) s.lets.length cap) := HW2.out.box.cell 10
      have y10 : w3.cell? ⟨p, 10, none⟩ = some (.slice (some ⟨bl, ol, none⟩) s.lets.length cap) := hW3.box.cell 10
      rw [hn] at x10 y10
      have z3 : w3.cell? ⟨w.heap.size, 3, none⟩ = some (.int .u16 A.which) := kl3.cell 3
      have pz : ∀ a x, w3.cell? a = some x → ∀ w', Later w3 w' → w'.cell? a = some x := fun a x hc w' hh => (hh.cell (p := a) (cellLt hc)).trans hc
      have py10 := pz _ _ y10
      have pz3 := pz _ _ z3
      have pc0 := pz _ _ (hcc 0 _ (by omega) rfl)
      have pc1 := pz _ _ (hcc 1 _ (by omega) rfl)
      have pc2 := pz _ _ (hcc 2 _ (by omega) rfl)
      have pc3 := pz _ _ (hcc 3 _ (by omega) rfl)
      have pc4 := pz _ _ (hcc 4 _ (by omega) rfl)
      have pc5 := pz _ _ (hcc 5 _ (by omega) rfl)
      simp only [Nat.add_zero] at pc0
      have hmem : l ∈ s.lets ++ E := List.mem_append_left _ (by rw [← hl]; exact List.getElem_mem _)
      have hlo := HI.out.lets l hmem
      have HAr := Lib.hid (arrive_any w3 (HTb.out _ hB3).1 (HTb.out _ hB3).2 lo p g hb _ s hW3 (Nat.le_trans Hlo.out hB3.size) l hlo.dst hlo.frm sv s1 s2 s3 hm (recv_ok HI.out hlo (.inr ⟨l, hmem, rfl⟩) (by decide)) (valid_keys ((HI.out.three.good _ hlo.dst).valid (by decide))) (valid_keys (svalid_tell (msg_valid hlo (by decide)))) hlo.good.formed.len)
      have e : stepS s A = arriveS s l := by
        unfold stepS
        rw [if_neg (by rw [hkk]; decide), if_neg (by rw [hkk]; decide), if_neg (by rw [hkk]; decide), hn, hie, List.getElem?_eq_getElem hil, hl]
      have He := Lib.hid e; have Hw3 := Lib.hid hw3; have HB3 := Lib.hid hB3
      clear hw3 hb3' hW3 kl3 hB3 hcc hm y10 z3 pz hmem hlo e hl hie hil
      go_wp2_with fail
      refine wp_region_canP Later 16 [] [(0, true), (1, true), (2, true), (3, true), (4, true), (5, true), (6, true), (7, true), (8, true), (9, true), (10, true), (11, true), (12, true), (13, true), (14, true), (15, true), (16, false), (17, true)] (by kernel_rfl) (by kernel_rfl) (by kernel_rfl) later_refl later_trans ?_
      rw [← Hw3.out]
      clear c0 x10
      repeat (first | (refine canP_yes (v := ?_) rfl (wanted_none rfl) rfl (fun w' hC => ?_) (fun K hK => ?_); rotate_left; (focus (go_simp; (try simp (disch := omega) only [IntWalk.i64_in]); (try simp (disch := omega) only [IntWalk.u32_in]); (try simp (disch := omega) only [IntWalk.u8_in]); (try simp (disch := omega) only [IntWalk.i64_quo]); (try simp (disch := omega) only [IntWalk.rem_in]); first | done | exact rfl)); go_simp; (try simp (disch := omega) only [IntWalk.i64_in]); (try simp (disch := omega) only [IntWalk.u32_in]); (try simp (disch := omega) only [IntWalk.u8_in]); (try simp (disch := omega) only [IntWalk.i64_quo]); (try simp (disch := omega) only [IntWalk.rem_in]); refine hK _ ?_; clear hK K) | (refine canP_pure (v := ?_) rfl (wanted_none rfl) (fun w' => ?_) (fun K hK => ?_); rotate_left; (focus (go_simp; (try simp (disch := omega) only [IntWalk.i64_in]); (try simp (disch := omega) only [IntWalk.u32_in]); (try simp (disch := omega) only [IntWalk.u8_in]); (try simp (disch := omega) only [IntWalk.i64_quo]); (try simp (disch := omega) only [IntWalk.rem_in]); first | done | exact rfl)); go_simp; (try simp (disch := omega) only [IntWalk.i64_in]); (try simp (disch := omega) only [IntWalk.u32_in]); (try simp (disch := omega) only [IntWalk.u8_in]); (try simp (disch := omega) only [IntWalk.i64_quo]); (try simp (disch := omega) only [IntWalk.rem_in]); refine hK _ ?_; clear hK K))
      clear py10 pz3 pc0 pc1 pc2 pc3 pc4 pc5
      refine canP_last rfl rfl rfl (fun KK hK => ?_)
      go_simp
      refine HAr.out.mono ?_
      rintro e w4 ⟨rfl, hW4, hb4⟩
      rw [← He.out] at hW4
      have HW4 := Lib.hid hW4; have Hb4 := Lib.hid ((BF.of_below HB3.out Hlo.out).trans hb4)
      refine ⟨_, rfl, hK _ _ ?_⟩
      clear hK KK HAr hW4 hb4
      go_simp
      repeat (first | (refine canP_yes (v := ?_) rfl (wanted_none rfl) rfl (fun w' hC => ?_) (fun K hK => ?_); rotate_left; (focus (go_simp; (try simp (disch := omega) only [IntWalk.i64_in]); (try simp (disch := omega) only [IntWalk.u32_in]); (try simp (disch := omega) only [IntWalk.u8_in]); (try simp (disch := omega) only [IntWalk.i64_quo]); (try simp (disch := omega) only [IntWalk.rem_in]); first | done | exact rfl)); go_simp; (try simp (disch := omega) only [IntWalk.i64_in]); (try simp (disch := omega) only [IntWalk.u32_in]); (try simp (disch := omega) only [IntWalk.u8_in]); (try simp (disch := omega) only [IntWalk.i64_quo]); (try simp (disch := omega) only [IntWalk.rem_in]); refine hK _ ?_; clear hK K) | (refine canP_pure (v := ?_) rfl (wanted_none rfl) (fun w' => ?_) (fun K hK => ?_); rotate_left; (focus (go_simp; (try simp (disch := omega) only [IntWalk.i64_in]); (try simp (disch := omega) only [IntWalk.u32_in]); (try simp (disch := omega) only [IntWalk.u8_in]); (try simp (disch := omega) only [IntWalk.i64_quo]); (try simp (disch := omega) only [IntWalk.rem_in]); first | done | exact rfl)); go_simp; (try simp (disch := omega) only [IntWalk.i64_in]); (try simp (disch := omega) only [IntWalk.u32_in]); (try simp (disch := omega) only [IntWalk.u8_in]); (try simp (disch := omega) only [IntWalk.i64_quo]); (try simp (disch := omega) only [IntWalk.rem_in]); refine hK _ ?_; clear hK K))
      refine canP_nil ?_
      go_wp2_with fail
      go_ret
      exact ⟨rfl, _, HW4.out, Hb4.out⟩
  ·
    obtain ⟨n, hn⟩ : ∃ n, s.lets.length = n := ⟨_, rfl⟩
    by_cases h0 : n = 0
    · obtain ⟨al, cl, rfl⟩ := HW2.out.lvS
      have x10 : w2.cell? ⟨p, 10, none⟩ = some (.slice al s.lets.length cl) := HW2.out.box.cell 10
      rw [hn, h0] at x10
      have e : stepS s A = s := by
        have hl0 : s.lets = [] := List.length_eq_zero_iff.1 (hn.trans h0)
        unfold stepS
        rw [if_neg (by rw [hkk]; decide), if_neg (by rw [hkk]; decide), if_neg (by rw [hkk]; decide), hl0]
        rfl
      have He := Lib.hid e
      clear e
      go_wp2_with fail
      go_ret
      exact ⟨rfl, _, by rw [He.out]; exact HW2.out, BF.of_below HB2.out Hlo.out⟩
    · have hnI : (0 : Int) < (n : Int) := by omega
      obtain ⟨i, hie⟩ : ∃ i, A.which.toNat % n = i := ⟨_, rfl⟩
      have hin : i < n := by rw [← hie]; exact Nat.mod_lt _ (by omega)
      have hmod : A.which.tmod (n : Int) = (i : Int) := by
        obtain ⟨-, -, -, h1, h2⟩ := HA.out
        rw [Int.tmod_eq_emod_of_nonneg h1, ← hie]
        obtain ⟨q, hq⟩ := Int.eq_ofNat_of_zero_le h1
        rw [hq]
        first
        | rfl
        | (simp; done)
        | (rw [Int.toNat_natCast]; exact (Int.natCast_emod q n).symm)
      have hil : i < s.lets.length := by rw [hn]; exact hin
      obtain ⟨-, -, -, hwh0, hwh1⟩ := id HA.out
      obtain ⟨l, hl⟩ : ∃ l, s.lets[i] = l := ⟨_, rfl⟩
      have hwi : IntKind.i64.wrap A.which = A.which := IntWalk.i64_in _ (by omega)
      obtain ⟨w3, hw3⟩ : ∃ q, q = w2.drew := ⟨_, rfl⟩
      have hb3' : Below w2.heap.size w2 w3 := by rw [hw3]; exact (Below.refl w2.heap.size w2).drew
      have hW3 := HW2.out.keep hb3'
      have kl3 := Kl2.out.keep (hb3'.block _ Kl2.out.lt)
      have hB3 : Below w.heap.size w w3 := HB2.out.trans (hb3'.mono HB2.out.size)
      obtain ⟨bl, ol, cap, sv, s1, s2, s3, rfl, hcc, hm⟩ := hW3.letter hil
      rw [hl] at hcc hm
      have x10 : w2.cell? ⟨p, 10, none⟩ = some (.slice (some ⟨bl, ol, none⟩) s.lets.length cap) := HW2.out.box.cell 10
      have y10 : w3.cell? ⟨p, 10, none⟩ = some (.slice (some ⟨bl, ol, none⟩) s.lets.length cap) := hW3.box.cell 10
      rw [hn] at x10 y10
      have z3 : w3.cell? ⟨w.heap.size, 3, none⟩ = some (.int .u16 A.which) := kl3.cell 3
      have pz : ∀ a x, w3.cell? a = some x → ∀ w', Later w3 w' → w'.cell? a = some x := fun a x hc w' hh => (hh.cell (p := a) (cellLt hc)).trans hc
      have py10 := pz _ _ y10
      have pz3 := pz _ _ z3
      have pc0 := pz _ _ (hcc 0 _ (by omega) rfl)
      have pc1 := pz _ _ (hcc 1 _ (by omega) rfl)
      have pc2 := pz _ _ (hcc 2 _ (by omega) rfl)
      have pc3 := pz _ _ (hcc 3 _ (by omega) rfl)
      have pc4 := pz _ _ (hcc 4 _ (by omega) rfl)
      have pc5 := pz _ _ (hcc 5 _ (by omega) rfl)
      simp only [Nat.add_zero] at pc0
      have hmem : l ∈ s.lets ++ E := List.mem_append_left _ (by rw [← hl]; exact List.getElem_mem _)
      have hlo := HI.out.lets l hmem
      have HAr := Lib.hid (arrive_any w3 (HTb.out _ hB3).1 (HTb.out _ hB3).2 lo p g hb _ s hW3 (Nat.le_trans Hlo.out hB3.size) l hlo.dst hlo.frm sv s1 s2 s3 hm (recv_ok HI.out hlo (.inr ⟨l, hmem, rfl⟩) (by decide)) (valid_keys ((HI.out.three.good _ hlo.dst).valid (by decide))) (valid_keys (svalid_tell (msg_valid hlo (by decide)))) hlo.good.formed.len)
      have e : stepS s A = arriveS s l := by
        unfold stepS
        rw [if_neg (by rw [hkk]; decide), if_neg (by rw [hkk]; decide), if_neg (by rw [hkk]; decide), hn, hie, List.getElem?_eq_getElem hil, hl]
      have He := Lib.hid e; have Hw3 := Lib.hid hw3; have HB3 := Lib.hid hB3
      clear hw3 hb3' hW3 kl3 hB3 hcc hm y10 z3 pz hmem hlo e hl hie hil
      go_wp2_with fail
      refine wp_region_canP Later 16 [] [(0, true), (1, true), (2, true), (3, true), (4, true), (5, true), (6, true), (7, true), (8, true), (9, true), (10, true), (11, true), (12, true), (13, true), (14, true), (15, true), (16, false), (17, true)] (by kernel_rfl) (by kernel_rfl) (by kernel_rfl) later_refl later_trans ?_
      rw [← Hw3.out]
      clear c0 x10
      repeat (first | (refine canP_yes (v := ?_) rfl (wanted_none rfl) rfl (fun w' hC => ?_) (fun K hK => ?_); rotate_left; (focus (go_simp; (try simp (disch := omega) only [IntWalk.i64_in]); (try simp (disch := omega) only [IntWalk.u32_in]); (try simp (disch := omega) only [IntWalk.u8_in]); (try simp (disch := omega) only [IntWalk.i64_quo]); (try simp (disch := omega) only [IntWalk.rem_in]); first | done | exact rfl)); go_simp; (try simp (disch := omega) only [IntWalk.i64_in]); (try simp (disch := omega) only [IntWalk.u32_in]); (try simp (disch := omega) only [IntWalk.u8_in]); (try simp (disch := omega) only [IntWalk.i64_quo]); (try simp (disch := omega) only [IntWalk.rem_in]); refine hK _ ?_; clear hK K) | (refine canP_pure (v := ?_) rfl (wanted_none rfl) (fun w' => ?_) (fun K hK => ?_); rotate_left; (focus (go_simp; (try simp (disch := omega) only [IntWalk.i64_in]); (try simp (disch := omega) only [IntWalk.u32_in]); (try simp (disch := omega) only [IntWalk.u8_in]); (try simp (disch := omega) only [IntWalk.i64_quo]); (try simp (disch := omega) only [IntWalk.rem_in]); first | done | exact rfl)); go_simp; (try simp (disch := omega) only [IntWalk.i64_in]); (try simp (disch := omega) only [IntWalk.u32_in]); (try simp (disch := omega) only [IntWalk.u8_in]); (try simp (disch := omega) only [IntWalk.i64_quo]); (try simp (disch := omega) only [IntWalk.rem_in]); refine hK _ ?_; clear hK K))
      clear py10 pz3 pc0 pc1 pc2 pc3 pc4 pc5
      refine canP_last rfl rfl rfl (fun KK hK => ?_)
      go_simp
      refine HAr.out.mono ?_
      rintro e w4 ⟨rfl, hW4, hb4⟩
      rw [← He.out] at hW4
      have HW4 := Lib.hid hW4; have Hb4 := Lib.hid ((BF.of_below HB3.out Hlo.out).trans hb4)
      refine ⟨_, rfl, hK _ _ ?_⟩
      clear hK KK HAr hW4 hb4
      go_simp
      repeat (first | (refine canP_yes (v := ?_) rfl (wanted_none rfl) rfl (fun w' hC => ?_) (fun K hK => ?_); rotate_left; (focus (go_simp; (try simp (disch := omega) only [IntWalk.i64_in]); (try simp (disch := omega) only [IntWalk.u32_in]); (try simp (disch := omega) only [IntWalk.u8_in]); (try simp (disch := omega) only [IntWalk.i64_quo]); (try simp (disch := omega) only [IntWalk.rem_in]); first | done | exact rfl)); go_simp; (try simp (disch := omega) only [IntWalk.i64_in]); (try simp (disch := omega) only [IntWalk.u32_in]); (try simp (disch := omega) only [IntWalk.u8_in]); (try simp (disch := omega) only [IntWalk.i64_quo]); (try simp (disch := omega) only [IntWalk.rem_in]); refine hK _ ?_; clear hK K) | (refine canP_pure (v := ?_) rfl (wanted_none rfl) (fun w' => ?_) (fun K hK => ?_); rotate_left; (focus (go_simp; (try simp (disch := omega) only [IntWalk.i64_in]); (try simp (disch := omega) only [IntWalk.u32_in]); (try simp (disch := omega) only [IntWalk.u8_in]); (try simp (disch := omega) only [IntWalk.i64_quo]); (try simp (disch := omega) only [IntWalk.rem_in]); first | done | exact rfl)); go_simp; (try simp (disch := omega) only [IntWalk.i64_in]); (try simp (disch := omega) only [IntWalk.u32_in]); (try simp (disch := omega) only [IntWalk.u8_in]); (try simp (disch := omega) only [IntWalk.i64_quo]); (try simp (disch := omega) only [IntWalk.rem_in]); refine hK _ ?_; clear hK K))
      refine canP_nil ?_
      go_wp2_with fail
      go_ret
      exact ⟨rfl, _, HW4.out, Hb4.out⟩
end Go.Proofs.YtelphnigdancpaaGreatDoor
