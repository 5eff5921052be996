/-
  SArrive
-/
import Derived.Test.YtelphnigdancpaaGreatDoorZA36
import Derived.Test.YtelphnigdancpaaGreatDoorZA23
namespace Go.Proofs.YtelphnigdancpaaGreatDoor
open Go.RowKit Go.Lib
set_option linter.unusedVariables false
set_option maxRecDepth 20000
attribute [local go_sem] opC upC

theorem hset_self (h : Nat → Nat → List Int) (a b : Nat) : hset h a b (h a b) = h := by
  funext i k
  unfold hset
  split
  · rename_i e; rw [e.1, e.2]
  · rfl
theorem hset_hset (h : Nat → Nat → List Int) (a b : Nat) (L L' : List Int) : hset (hset h a b L) a b L' = hset h a b L' := by
  funext i k
  unfold hset
  split <;> rfl
theorem hset_get (h : Nat → Nat → List Int) (a b : Nat) (L : List Int) : hset h a b L a b = L := by unfold hset; rw [if_pos ⟨rfl, rfl⟩]
def ordA1 : List FStep := [.steady 0, .steady 1, .steady 2, .steady 3, .steady 4, .steady 5, .steady 6, .steady 7, .steady 8, .steady 9, .move 10, .steady 11, .steady 12, .steady 13, .float 14, .fixed 15, .steady 16]
theorem WAt.hcell {W : World} {lo p g : Nat} {hb : Nat → Nat → Nat} {lv : Value} {s : SW} (h : WAt W lo p g hb lv s) {i k : Nat} (hi : i < 3) (hk : k < 3) : W.cell? ⟨p, 1 + i * 3 + k, none⟩ = some (hcl hb i k) := by
  rw [h.box.cell]
  rcases (show i = 0 ∨ i = 1 ∨ i = 2 by omega) with rfl | rfl | rfl <;> rcases (show k = 0 ∨ k = 1 ∨ k = 2 by omega) with rfl | rfl | rfl <;> rfl
def mixL (k : Nat) (a b : List Int) : List Int := (List.zipWith max a b).take k ++ a.drop k
theorem mixL_zero (a b : List Int) : mixL 0 a b = a := rfl
theorem mixL_end {k : Nat} {a b : List Int} (h : a.length = b.length) (hk : k = a.length) : mixL k a b = List.zipWith max a b := by
  unfold mixL
  rw [hk, List.drop_length, List.append_nil, List.take_of_length_le (by rw [zip_max_len a b h]; exact Nat.le_refl _)]
theorem mixL_get {a b : List Int} (h : a.length = b.length) {k : Nat} (hk : k < a.length) : (mixL k a b)[k]? = some a[k] := by
  unfold mixL
  rw [List.getElem?_append_right (by rw [List.length_take, zip_max_len a b h]; omega), List.length_take, zip_max_len a b h, List.getElem?_drop]
  rw [show k + (k - min k a.length) = k by omega]
  exact List.getElem?_eq_getElem hk
theorem mixL_succ {a b : List Int} (h : a.length = b.length) {k : Nat} (hk : k < a.length) : mixL (k + 1) a b = (mixL k a b).set k (max a[k] (b[k]'(by omega))) := by
  unfold mixL
  have hz : k < (List.zipWith max a b).length := by rw [zip_max_len a b h]; exact hk
  rw [List.take_succ_eq_append_getElem hz, List.set_append_right _ _ (by rw [List.length_take]; omega), List.length_take, show k - min k (List.zipWith max a b).length = 0 by omega]
  rw [List.drop_eq_getElem_cons hk, List.set_cons_zero, List.append_assoc]
  simp
set_option maxRecDepth 100000 in
set_option maxHeartbeats 8000000 in
theorem arrive_any (w : World) (hT : Tabs w) (h3 : 3 ≤ w.heap.size) (lo p g : Nat) (hb : Nat → Nat → Nat) (lv : Value) (s : SW) (hW : WAt w lo p g hb lv s) (hlo : lo ≤ w.heap.size) (l : SLet) (hd : l.dst < 3) (hf : l.frm < 3) (sv s1 s2 s3 : Value)
    (hm : MsgIn (Free p g hb lv w) w sv s1 s2 s3 l.msg) (hr : recvR (s.m l.dst) l.msg = (mergeM (s.m l.dst) l.full, 0)) (hk1 : KeysM (s.m l.dst)) (hk2 : KeysM l.msg.tell) (h8 : l.full.seen.length = 8) :
    Calls Tryz.prog 30 #[.pointer (some ⟨p, 0, none⟩), .agg #[.int .i64 (l.dst : Int), .int .i64 (l.frm : Int), sv, s1, s2, s3]] w fun e w' =>
      e = .returned (.bool true) ∧ WAt w' lo p g hb lv (arriveS s l) ∧ BF lo p g hb lv w lv w' := by
  obtain ⟨av, cv, rfl, -⟩ := hm.seen.shape
  obtain ⟨a1, c1, rfl, -⟩ := hm.tell.seen.shape
  obtain ⟨a2, c2, rfl, -⟩ := hm.tell.items.shape
  obtain ⟨a3, c3, rfl, -⟩ := hm.tell.gone.shape
  obtain ⟨X, hX⟩ : ∃ X, l.msg = X := ⟨_, rfl⟩
  have hXf : X.frm = (l.frm : Int) := by rw [← hX]; rfl
  have hXs : X.tell.seen = l.full.seen := by rw [← hX]; rfl
  rw [hX] at hm hr hk2 ⊢
  obtain ⟨w1, hw1⟩ : ∃ w1, w1 = w.alloc (.cells #[.int .i64 (l.dst : Int), .int .i64 (l.frm : Int), .slice av X.seen.length cv, .slice a1 X.tell.seen.length c1, .slice a2 X.tell.items.length c2, .slice a3 X.tell.gone.length c3] 76) := ⟨_, rfl⟩
  have hb1 : Below w.heap.size w w1 := by rw [hw1]; exact kept_alloc _ _
  have kl : Blk w1 w.heap.size [.int .i64 (l.dst : Int), .int .i64 (l.frm : Int), .slice av X.seen.length cv, .slice a1 X.tell.seen.length c1, .slice a2 X.tell.items.length c2, .slice a3 X.tell.gone.length c3] 76 := by rw [hw1]; exact Blk.new _ _ _
  have hW1 := hW.keep hb1
  have hm1 : MsgIn (Free p g hb lv w1) w1 (.slice av X.seen.length cv) (.slice a1 X.tell.seen.length c1) (.slice a2 X.tell.items.length c2) (.slice a3 X.tell.gone.length c3) X := (hm.keep (w' := w1) fun q _ hlt => hb1.block q hlt).mono fun q hq _ => Free.mono hb1.size q hq
  obtain ⟨d, hd'⟩ : ∃ d, l.dst = d := ⟨_, rfl⟩
  obtain ⟨f, hf'⟩ : ∃ f, l.frm = f := ⟨_, rfl⟩
  obtain ⟨m, hmd⟩ : ∃ m, s.m d = m := ⟨_, rfl⟩
  obtain ⟨M, hMM⟩ : ∃ M, mergeM m l.full = M := ⟨_, rfl⟩
  rw [hd', hmd] at hr hk1
  rw [hMM] at hr
  rw [hd'] at hd hw1 kl ⊢
  rw [hf'] at hf hw1 kl hXf ⊢
  obtain ⟨t1, e1, t2, e2, t3, e3, y0, y1, y2, hMd⟩ := hW1.maps.get d hd
  rw [hmd] at y0 y1 y2 hMd
  have x0 : w1.cell? ⟨p, 0, none⟩ = some (.slice (some ⟨g, 0, none⟩) 3 3) := hW1.box.cell 0
  have z0 := kl.cell 0
  have z1 := kl.cell 1
  have z2 := kl.cell 2
  have z3 := kl.cell 3
  have z4 := kl.cell 4
  have z5 := kl.cell 5
  simp only [List.getElem?_cons_zero, List.getElem?_cons_succ] at z0 z1 z2 z3 z4 z5
  have HTb := Lib.hid (show ∀ w', Below w.heap.size w w' → Tabs w' ∧ 3 ≤ w'.heap.size from fun w' hb => ⟨tabs_below hT h3 hb, Nat.le_trans h3 hb.size⟩)
  have pz : ∀ a x, w1.cell? a = some x → ∀ w', LaterT w1.heap.size 31 w1.drew w' → w'.cell? a = some x := fun a x hc w' hh => laterTC hc rfl hh
  have px0 := pz _ _ x0
  have py0 := pz _ _ y0
  have py1 := pz _ _ y1
  have py2 := pz _ _ y2
  have pz0 := pz _ _ z0
  have pz1 := pz _ _ z1
  have pz2 := pz _ _ z2
  have pz3 := pz _ _ z3
  have pz4 := pz _ _ z4
  have pz5 := pz _ _ z5
  have Hw1 := Lib.hid hw1; have HW1 := Lib.hid hW1; have Hm1 := Lib.hid hm1; have Hb1 := Lib.hid hb1; have Kl := Lib.hid kl; have HMd := Lib.hid hMd; have Hr := Lib.hid hr; have Hk1 := Lib.hid hk1; have Hk2 := Lib.hid hk2
  have HXf := Lib.hid hXf; have HXs := Lib.hid hXs; have H8 := Lib.hid h8; have Hmd := Lib.hid hmd; have HMM := Lib.hid hMM; have Hd' := Lib.hid hd'; have Hf' := Lib.hid hf'; have Hlo := Lib.hid hlo; have HgO := Lib.hid hW.glt
  have hdI : (d : Int) < 3 := by omega
  clear hw1 hW hW1 hm hm1 hb1 kl hMd hr hk1 hk2 hXf hXs h8 hmd hMM hd' hf' hlo hT pz x0 y0 y1 y2 z0 z1 z2 z3 z4 z5 hX
  go_enter Tryz.func30, Tryz.ntmps30
  go_wp2_with fail
  rw [← Hw1.out]
  refine wp_region_fl (LaterT w1.heap.size 31) (FreshT w1.heap.size 31 3) [14] ordA1 60 (by kernel_rfl) (by kernel_rfl) (laterT_refl _ _) (laterT_trans _ _) (floats_of #[.slice none 0 0, .slice none 0 0, .slice none 0 0] rfl (Nat.le_refl _) (fun j hj => ?_) (fun i j hi hj hne => ?_)) ?_
  · obtain rfl : j = 14 := by simpa using hj
    exact ⟨_, rfl, rfl, fun a W => by go_simp⟩
  · simp at hi hj
    omega
  unfold ordA1
  repeat (refine canF_yes (v := ?_) rfl (wanted_none rfl) (fun w' hC => ?_) (fun K hK => ?_); rotate_left; (focus (go_simp; (try simp (disch := omega) only [IntWalk.i64_in]); (try simp (disch := omega) only [IntWalk.u32_in]); (try simp (disch := omega) only [IntWalk.u8_in]); (try simp (disch := omega) only [IntWalk.i64_quo]); (try simp (disch := omega) only [IntWalk.rem_in]); first | done | exact rfl)); go_simp; (try simp (disch := omega) only [IntWalk.i64_in]); (try simp (disch := omega) only [IntWalk.u32_in]); (try simp (disch := omega) only [IntWalk.u8_in]); (try simp (disch := omega) only [IntWalk.i64_quo]); (try simp (disch := omega) only [IntWalk.rem_in]); refine hK _ ?_; clear hK K)
  refine canF_go rfl rfl (fun Wa hWa KK hK => ?_)
  go_simp
  have hba : Below w1.heap.size w1 Wa := hWa.belD rfl
  have hwa : Below w.heap.size w Wa := Hb1.out.trans (hba.mono Hb1.out.size)
  have hU := recv_any Wa (HTb.out _ hwa).1 (HTb.out _ hwa).2 _ _ (.agg #[.slice t1 m.seen.length e1, .slice t2 m.items.length e2, .slice t3 m.gone.length e3]) m ⟨_, _, _, rfl, HMd.out.keep (w' := Wa) fun q _ hlt => hba.block q hlt⟩ Hk1.out.1 Hk1.out.2 (.agg #[.int .i64 X.frm, .slice av X.seen.length cv, .slice a1 X.tell.seen.length c1, .slice a2 X.tell.items.length c2, .slice a3 X.tell.gone.length c3]) X ⟨_, _, _, _, rfl, Hm1.out.keep (w' := Wa) fun q _ hlt => hba.block q hlt⟩ Hk2.out.1 Hk2.out.2
  rw [Hr.out, HXf.out] at hU
  refine hU.mono ?_
  rintro e wq7 ⟨⟨r1, rfl, ho, hbd⟩, hb7⟩
  refine ⟨_, rfl, LaterT.of_later hb7, hK _ _ ?_⟩
  clear hK KK hU px0 py0 py1 py2 pz0 pz1 pz2 pz3 pz4 pz5
  go_simp
  obtain ⟨u1, u2, u3, rfl, ho⟩ := ho
  dsimp only at ho hbd
  obtain ⟨n1, m1, rfl⟩ := own_shape ho.seen
  obtain ⟨n2, m2, rfl⟩ := own_shape ho.items
  obtain ⟨n3, m3, rfl⟩ := own_shape ho.gone
  have hb07 : Below w1.heap.size w1 wq7 := hba.trans (hb7.mono hba.size)
  have Hb07 := Lib.hid hb07; have Ho := Lib.hid ho; have Hbd := Lib.hid hbd; have Hsz := Lib.hid hba.size
  clear hb07 ho hbd hb7 hba hwa hWa
  repeat (refine canF_yes (v := ?_) rfl (wanted_none rfl) (fun w' hC => ?_) (fun K hK => ?_); rotate_left; (focus (go_simp; (try simp (disch := omega) only [IntWalk.i64_in]); (try simp (disch := omega) only [IntWalk.u32_in]); (try simp (disch := omega) only [IntWalk.u8_in]); (try simp (disch := omega) only [IntWalk.i64_quo]); (try simp (disch := omega) only [IntWalk.rem_in]); first | done | exact rfl)); go_simp; (try simp (disch := omega) only [IntWalk.i64_in]); (try simp (disch := omega) only [IntWalk.u32_in]); (try simp (disch := omega) only [IntWalk.u8_in]); (try simp (disch := omega) only [IntWalk.i64_quo]); (try simp (disch := omega) only [IntWalk.rem_in]); refine hK _ ?_; clear hK K)
  refine canF_float rfl (fun vO Wd hWd hZ hU KK hK => ?_)
  obtain ⟨Om, LO, rfl, hO1, hO2, hO3⟩ := hZ
  refine hK _ _ ?_
  clear hK KK hU
  go_simp
  obtain ⟨x0, x1, x2, rfl⟩ : ∃ x0 x1 x2, LO = [x0, x1, x2] := by
    match LO, hO3 with
    | [x0, x1, x2], _ => exact ⟨x0, x1, x2, rfl⟩
  have hbd' : Below w1.heap.size w1 Wd := Hb07.out.trans (hWd.below Hb07.out.size)
  obtain ⟨w2, hw8, hblk8, hb8⟩ := fin3 hO2 hbd' hO1 (.slice n1 M.seen.length m1) (.slice n2 M.items.length m2) (.slice n3 M.gone.length m3)
  have hl8 : LaterT w1.heap.size 31 Wd w2 := by
    rw [hw8]
    exact laterT_trans _ _ _ _ _ (laterT_trans _ _ _ _ _ (LaterT.set hO2 hO1 0 _) (LaterT.set (hO2.set 0 _) hO1 1 _)) (LaterT.set ((hO2.set 0 _).set 1 _) hO1 2 _)
  have ho8 : OwnIn w2 w1.heap.size (.slice n1 M.seen.length m1) (.slice n2 M.items.length m2) (.slice n3 M.gone.length m3) M :=
    ⟨own_base (hl8.own (hWd.own Ho.out.seen (by decide)) (by decide)) Hsz.out, own_base (hl8.own (hWd.own Ho.out.items (by decide)) (by decide)) Hsz.out, own_base (hl8.own (hWd.own Ho.out.gone (by decide)) (by decide)) Hsz.out⟩
  have HO1w2 := Lib.hid hO1; have HOw2 := Lib.hid ho8; have HBkw2 := Lib.hid hblk8; have HBdw2 := Lib.hid Hbd.out
  obtain ⟨y0, y1, y2⟩ := cell3 hO2
  have z0 := hO2.free 0
  have z1 := hO2.free 1
  have z2 := hO2.free 2
  have HBw2 := Lib.hid hb8; have Hl8 := Lib.hid hl8; have Hw8 := Lib.hid hw8
  clear hb8 hl8 hw8 hblk8 hbd' hWd hO2 hO3 Ho Hbd Hb07 ho8
  refine canF_fixed rfl rfl (fun KK hK => ?_)
  go_simp
  rw [← Hw8.out]
  refine ⟨Hl8.out, hK _ _ ?_⟩
  clear hK KK y0 y1 y2 z0 z1 z2 Hl8 Hw8 hO1
  go_simp
  repeat (refine canF_yes (v := ?_) rfl (wanted_none rfl) (fun w' hC => ?_) (fun K hK => ?_); rotate_left; (focus (go_simp; (try simp (disch := omega) only [IntWalk.i64_in]); (try simp (disch := omega) only [IntWalk.u32_in]); (try simp (disch := omega) only [IntWalk.u8_in]); (try simp (disch := omega) only [IntWalk.i64_quo]); (try simp (disch := omega) only [IntWalk.rem_in]); first | done | exact rfl)); go_simp; (try simp (disch := omega) only [IntWalk.i64_in]); (try simp (disch := omega) only [IntWalk.u32_in]); (try simp (disch := omega) only [IntWalk.u8_in]); (try simp (disch := omega) only [IntWalk.i64_quo]); (try simp (disch := omega) only [IntWalk.rem_in]); refine hK _ ?_; clear hK K)
  refine canF_nil ?_
  obtain ⟨w2d, hw2d⟩ : ∃ q, q = w2.drew := ⟨_, rfl⟩
  have hb2d : Below w2.heap.size w2 w2d := by rw [hw2d]; exact (Below.refl w2.heap.size w2).drew
  have hh2 : w2d.heap = w2.heap := by rw [hw2d]; rfl
  have hz2 : w2d.heap.size = w2.heap.size := by rw [hh2]
  have hW2 := (HW1.out.keep HBw2.out).keep hb2d
  have hb12 : Below w1.heap.size w1 w2d := HBw2.out.trans (hb2d.mono HBw2.out.size)
  have kl2 := Kl.out.keep (hb12.block _ Kl.out.lt)
  have hm2 : MsgIn (Free p g hb lv w2d) w2d (.slice av X.seen.length cv) (.slice a1 X.tell.seen.length c1) (.slice a2 X.tell.items.length c2) (.slice a3 X.tell.gone.length c3) X := (Hm1.out.keep (w' := w2d) fun q _ hlt => hb12.block q hlt).mono fun q hq _ => Free.mono hb12.size q hq
  have hM2 : MapIn (Free p g hb lv w2d) w2d (.slice n1 M.seen.length m1) (.slice n2 M.items.length m2) (.slice n3 M.gone.length m3) M :=
    ((HOw2.out.map HBdw2.out).keep (w' := w2d) fun q _ hlt => hb2d.block q hlt).mono fun q hq hlt => HW1.out.fresh (W' := w2d) hq hlt
  obtain ⟨w3, hw3⟩ : ∃ q, q = ((w2d.setCell ⟨g, d * 3, none⟩ (.slice n1 M.seen.length m1)).setCell ⟨g, d * 3 + 1, none⟩ (.slice n2 M.items.length m2)).setCell ⟨g, d * 3 + 2, none⟩ (.slice n3 M.gone.length m3) := ⟨_, rfl⟩
  obtain ⟨hW3, hb3⟩ := hW2.putMap hd hM2 hw3
  have hgO := HgO.out
  have far3 : ∀ q, q ≠ g → w3.heap[q]? = w2d.heap[q]? := fun q hq => by
    rw [hw3]; exact (Below.heap_setCell _ _ _ _ hq).trans ((Below.heap_setCell _ _ _ _ hq).trans (Below.heap_setCell _ _ _ _ hq))
  have hz3 : w3.heap.size = w2d.heap.size := by rw [hw3]; simp [World.setCell]
  have kl3 := kl2.keep (far3 _ (by omega))
  have hs3 : Rows (Free p g hb lv w3) w3 1 (.slice a1 X.tell.seen.length c1) X.tell.seen.length (X.tell.seen.map eI) := (hm2.tell.seen.keep (w' := w3) fun q hq _ => far3 q hq.2.2.1).mono fun q hq _ => Free.mono (by omega) q hq
  have hB3 : BF lo p g hb lv w lv w3 := (BF.of_below (Hb1.out.trans (HBw2.out.mono Hb1.out.size)) Hlo.out).trans ((BF.of_below hb2d (by have := HBw2.out.size; have := Hb1.out.size; have := Hlo.out; omega)).trans hb3)
  obtain ⟨cm, hgm, -⟩ := id hW2.maps
  obtain ⟨_, _, _, _, _, _, q0, q1, q2, -⟩ := hW2.maps.get d hd
  have g0 := hgm.free (d * 3)
  have g1 := hgm.free (d * 3 + 1)
  have g2 := hgm.free (d * 3 + 2)
  have x0 : w2d.cell? ⟨p, 0, none⟩ = some (.slice (some ⟨g, 0, none⟩) 3 3) := hW2.box.cell 0
  have l0 := kl2.cell 0
  have l1 := kl2.cell 1
  simp only [List.getElem?_cons_zero, List.getElem?_cons_succ] at l0 l1
  have l1' : w2.cell? ⟨w.heap.size, 1, none⟩ = some (.int .i64 (f : Int)) := (Kl.out.keep (HBw2.out.block _ Kl.out.lt)).cell 1
  obtain ⟨o0, o1, o2⟩ := cell3 (HBkw2.out.keep (hb2d.block _ HBkw2.out.lt))
  have pz : ∀ a x, w2d.cell? a = some x → ∀ w', Later w2d w' → w'.cell? a = some x := fun a x hc w' hh => (hh.cell (p := a) (cellLt hc)).trans hc
  have px0 := pz _ _ x0
  have pl0 := pz _ _ l0
  have po0 := pz _ _ o0
  have po1 := pz _ _ o1
  have po2 := pz _ _ o2
  have Hw2d := Lib.hid hw2d; have HW3 := Lib.hid hW3; have Hw3 := Lib.hid hw3; have Kl3 := Lib.hid kl3; have Hs3 := Lib.hid hs3; have HB3 := Lib.hid hB3
  have hfI : (f : Int) < 3 := by omega
  have hfI2 : ¬ (2 : Int) < (f : Int) := by omega
  have hfI0 : ¬ (f : Int) < 0 := by omega
  clear hw2d hb2d hh2 hz2 hb12 hW2 kl2 hm2 hM2 hw3 hW3 hb3 far3 hz3 kl3 hs3 hB3 hgm pz x0 l0 l1 o0 o1 o2 hgO
  go_wp2_with fail
  refine wp_region_canL Later 8 [(0, true), (1, true), (2, true), (3, true), (4, true), (5, true), (6, true), (7, true), (8, false)] (by kernel_rfl) (by kernel_rfl) (by kernel_rfl) later_refl later_trans ?_
  rw [← Hw2d.out]
  repeat (refine canL_yes (v := ?_) rfl (wanted_none rfl) (fun w' hC => ?_) (fun K hK => ?_); rotate_left; (focus (go_simp; first | done | exact rfl)); go_simp; refine hK _ ?_; clear hK K)
  clear px0 pl0 po0 po1 po2
  refine canL_last rfl rfl rfl (fun KK hK => ?_)
  go_simp
  rw [← Hw3.out]
  refine hK _ _ ?_
  clear hK KK q0 q1 q2 g0 g1 g2 l1'
  go_simp
  refine canL_nil ?_
  obtain ⟨w4, hw4⟩ : ∃ q, q = w3.drew := ⟨_, rfl⟩
  have hb4 : Below w3.heap.size w3 w4 := by rw [hw4]; exact (Below.refl w3.heap.size w3).drew
  have hh4 : w4.heap.size = w3.heap.size := by rw [hw4]; rfl
  have hlo3 : lo ≤ w3.heap.size := by have := HB3.out.size; have := Hlo.out; omega
  have hW4 := HW3.out.keep hb4
  have kl4 := Kl3.out.keep (hb4.block _ Kl3.out.lt)
  have hs4 : Rows (Free p g hb lv w4) w4 1 (.slice a1 X.tell.seen.length c1) X.tell.seen.length (X.tell.seen.map eI) := (Hs3.out.keep (w' := w4) fun q _ hlt => hb4.block q hlt).mono fun q hq _ => Free.mono hb4.size q hq
  rw [HXs.out, H8.out] at hs4
  have hB4 : BF lo p g hb lv w lv w4 := HB3.out.trans (BF.of_below hb4 hlo3)
  have l0 := kl4.cell 0
  have l1 := kl4.cell 1
  have l3 := kl4.cell 3
  simp only [List.getElem?_cons_zero, List.getElem?_cons_succ] at l0 l1 l3
  have x1 : w4.cell? ⟨p, 1 + d * 3 + f, none⟩ = some (.slice (some ⟨hb d f, 0, none⟩) 8 8) := hW4.hcell hd hf
  have pz : ∀ a x, w4.cell? a = some x → ∀ w', Later w4 w' → w'.cell? a = some x := fun a x hc w' hh => (hh.cell (p := a) (cellLt hc)).trans hc
  have pl0 := pz _ _ l0
  have pl1 := pz _ _ l1
  have px1 := pz _ _ x1
  obtain ⟨hHl, hH8, hHi⟩ := hW4.heard d f hd hf
  have hHi' : ∀ n ∈ s.heard d f, i64ok n := hHi
  have Hw4 := Lib.hid hw4; have HW4 := Lib.hid hW4; have Kl4 := Lib.hid kl4; have Hs4 := Lib.hid hs4; have HB4 := Lib.hid hB4; have HH8 := Lib.hid (show (s.heard d f).length = 8 from hH8); have HHi := Lib.hid hHi'
  clear hw4 hb4 hh4 hlo3 hW4 kl4 hs4 hB4 l0 l1 l3 x1 pz hHl hH8 hHi hHi'
  go_wp2_with fail
  refine wp_region_can Later [(0, true), (1, true), (2, true), (3, true), (4, true), (5, true), (6, true), (7, true), (8, true), (9, true), (10, true), (11, true)] (by kernel_rfl) (by kernel_rfl) later_refl later_trans ?_
  rw [← Hw4.out]
  repeat (refine can_yes (v := ?_) rfl (wanted_none rfl) (fun w' hC => ?_) (fun K hK => ?_); rotate_left; (focus (go_simp; first | done | exact rfl)); go_simp; refine hK _ ?_; clear hK K)
  clear pl0 pl1 px1
  refine can_nil ?_
  go_wp2_with fail
  obtain ⟨H, hH⟩ : ∃ H, s.heard d f = H := ⟨_, rfl⟩
  obtain ⟨S, hS⟩ : ∃ S, l.full.seen = S := ⟨_, rfl⟩
  have HH := Lib.hid hH; have HS := Lib.hid hS
  have HHi' := Lib.hid (show ∀ n ∈ H, i64ok n by rw [← hH]; exact HHi.out)
  have HH8' := Lib.hid (show H.length = 8 by rw [← hH]; exact HH8.out)
  have HS8 := Lib.hid (show S.length = 8 by rw [← hS]; exact H8.out)
  have HXS := Lib.hid (show X.tell.seen = S by rw [← hS]; exact HXs.out)
  have HSi := Lib.hid (show ∀ n ∈ S, i64ok n by rw [← HXS.out]; exact Hm1.out.tell.seenB)
  clear hH hS
  go_loopw [8] (fun i wq => ∃ k : Nat, k ≤ 8 ∧ i = .int .i64 (k : Int) ∧ WAt wq lo p g hb lv ⟨putM s.m d M, hset s.heard d f (mixL k H S), s.lets⟩ ∧
    Blk wq w.heap.size [.int .i64 (d : Int), .int .i64 (f : Int), .slice av X.seen.length cv, .slice a1 X.tell.seen.length c1, .slice a2 X.tell.items.length c2, .slice a3 X.tell.gone.length c3] 76 ∧
    Rows (Free p g hb lv wq) wq 1 (.slice a1 8 c1) 8 (S.map eI) ∧ BF lo p g hb lv w lv wq) (fun i _ => 8 - (intOf i).toNat)
  case atStart =>
    refine ⟨0, by omega, rfl, ?_, Kl4.out, ?_, HB4.out⟩
    · rw [mixL_zero, ← HH.out, hset_self]; exact HW4.out
    · rw [← HS.out]; exact Hs4.out
  case round =>
    rename World => wq
    obtain ⟨k, hk, rfl, hWq, klq, hsq, hBq⟩ := hrel
    by_cases hk8 : k < 8
    · have hkI : (k : Int) < 8 := by omega
      have hkH : k < H.length := by rw [HH8'.out]; exact hk8
      have hkS : k < S.length := by rw [HS8.out]; exact hk8
      have hHS : H.length = S.length := by rw [HH8'.out, HS8.out]
      obtain ⟨x, hx⟩ : ∃ x, H[k] = x := ⟨_, rfl⟩
      obtain ⟨y, hy⟩ : ∃ y, S[k] = y := ⟨_, rfl⟩
      obtain ⟨wd, hwd⟩ : ∃ q, q = wq.drew := ⟨_, rfl⟩
      have hbd : Below wq.heap.size wq wd := by rw [hwd]; exact (Below.refl wq.heap.size wq).drew
      have hWd := hWq.keep hbd
      have kld := klq.keep (hbd.block _ klq.lt)
      have hsd : Rows (Free p g hb lv wd) wd 1 (.slice a1 8 c1) 8 (S.map eI) := (hsq.keep (w' := wd) fun q _ hlt => hbd.block q hlt).mono fun q hq _ => Free.mono hbd.size q hq
      have hlq : lo ≤ wq.heap.size := by have := hBq.size; have := Hlo.out; omega
      have hBd : BF lo p g hb lv w lv wd := hBq.trans (BF.of_below hbd hlq)
      rw [HXS.out, HS8.out] at klq kld
      have l3q := klq.cell 3
      have l3 := kld.cell 3
      simp only [List.getElem?_cons_zero, List.getElem?_cons_succ] at l3 l3q
      obtain ⟨hHb, -, -⟩ := hWd.heard d f hd hf
      have hHb : Blk wd (hb d f) ((mixL k H S).map eI) 3 := by
        have e : hset s.heard d f (mixL k H S) d f = mixL k H S := hset_get _ _ _ _
        rw [← e]; exact hHb
      have e0 : wd.cell? ⟨hb d f, k, none⟩ = some (.int .i64 x) := by
        rw [hHb.cell, List.getElem?_map, mixL_get hHS hkH, hx]; rfl
      have f0 := hHb.free k
      have hsd' := hsd
      rw [show (8 : Nat) = S.length from HS8.out.symm] at hsd'
      obtain ⟨bs, os, rfl, hFb, hbl, hcc⟩ := int_cell hsd' (by omega)
      have e1 := hcc k hkS
      rw [hy] at e1
      have hxi := HHi'.out x (by rw [← hx]; exact List.getElem_mem _)
      obtain ⟨w5, hw5⟩ : ∃ q, q = wd.setCell ⟨hb d f, k, none⟩ (eI (max x y)) := ⟨_, rfl⟩
      have hyi : i64ok y := HSi.out y (by rw [← hy]; exact List.getElem_mem _)
      obtain ⟨hW5, hb5⟩ := hWd.putHeard hd hf k (max x y) (by unfold i64ok at *; omega)
      rw [← hw5] at hW5 hb5
      have hne : hb d f ≠ w.heap.size := hHb.ne kld (by decide)
      have kl5 := kld.set_other (eI (max x y)) (a := ⟨hb d f, k, none⟩) (Ne.symm hne)
      rw [← hw5] at kl5
      have hs5 : Rows (Free p g hb lv w5) w5 1 (.slice (some ⟨bs, os, none⟩) 8 c1) 8 (S.map eI) := (hsd.keep (w' := w5) fun q hq _ => by rw [hw5]; exact Below.heap_setCell _ _ _ _ (hq.2.2.2.1 d f hd hf)).mono fun q hq _ => Free.mono (by rw [hw5]; simp [World.setCell]) q hq
      have hB5 : BF lo p g hb lv w lv w5 := hBd.trans hb5
      have pz : ∀ a x, wd.cell? a = some x → ∀ w', Later wd w' → w'.cell? a = some x := fun a x hc w' hh => (hh.cell (p := a) (cellLt hc)).trans hc
      have pe0 := pz _ _ e0
      have pe1 := pz _ _ e1
      have pl3 := pz _ _ l3
      have hfin : WAt w5 lo p g hb lv ⟨putM s.m d M, hset s.heard d f (mixL (k + 1) H S), s.lets⟩ := by
        have e : hset (hset s.heard d f (mixL k H S)) d f ((hset s.heard d f (mixL k H S) d f).set k (max x y)) = hset s.heard d f (mixL (k + 1) H S) := by
          rw [hset_hset, hset_get, mixL_succ hHS hkH, hx, hy]
        rw [← e]; exact hW5
      have Hfin := Lib.hid hfin; have Hw5 := Lib.hid hw5; have Hwd := Lib.hid hwd; have Kl5 := Lib.hid kl5; have Hs5 := Lib.hid hs5; have HB5 := Lib.hid hB5
      clear hx hy hwd hbd hWq hWd klq kld hsq hsd hsd' hlq hBd hBq hHb hcc hW5 hb5 hne hw5 kl5 hs5 hB5 hfin pz e1 l3 hFb hbl hkH hkS hHS
      go_wp2_with fail
      refine wp_region_canL Later 15 [(0, true), (1, true), (2, true), (3, true), (4, true), (5, true), (6, true), (7, true), (8, true), (9, true), (10, true), (11, true), (12, true), (13, true), (14, true), (15, false)] (by kernel_rfl) (by kernel_rfl) (by kernel_rfl) later_refl later_trans ?_
      rw [← Hwd.out]
      repeat (refine canL_yes (v := ?_) rfl (wanted_none rfl) (fun w' hC => ?_) (fun K hK => ?_); rotate_left; (focus (go_simp; first | done | exact rfl)); go_simp; refine hK _ ?_; clear hK K)
      clear pe0 pe1 pl3
      refine canL_last rfl rfl rfl (fun KK hK => ?_)
      go_simp
      rw [← Hw5.out]
      refine hK _ _ ?_
      clear hK KK
      go_simp
      refine canL_nil ?_
      go_wp2_with fail
      go_roundw
      case rel => exact ⟨k + 1, by omega, by go_num, Hfin.out, by rw [HXS.out, HS8.out]; exact Kl5.out, Hs5.out, HB5.out⟩
      case measure => first | (simp [intOf]; done) | (simp [intOf]; omega)
    · have hkI : ¬ (k : Int) < 8 := by omega
      obtain rfl : k = 8 := by omega
      have hfin : WAt wq lo p g hb lv (arriveS s l) := by
        have e : (⟨putM s.m d M, hset s.heard d f (mixL 8 H S), s.lets⟩ : SW) = arriveS s l := by
          rw [mixL_end (by rw [HH8'.out, HS8.out]) HH8'.out.symm]
          unfold arriveS heardUp
          rw [Hd'.out, Hf'.out, Hmd.out, HMM.out, HS.out, HH.out]
          rfl
        rw [← e]; exact hWq
      have Hfin := Lib.hid hfin; have HBq := Lib.hid hBq
      clear hfin hWq klq hsq hBq
      go_wp2_with fail
      go_ret
      exact ⟨rfl, Hfin.out, HBq.out⟩
end Go.Proofs.YtelphnigdancpaaGreatDoor
