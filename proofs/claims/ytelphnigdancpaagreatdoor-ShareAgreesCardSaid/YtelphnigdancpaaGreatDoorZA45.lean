/-
  SLawC
-/
import Derived.Test.YtelphnigdancpaaGreatDoorZA42
import Derived.Test.YtelphnigdancpaaGreatDoorZA38
namespace Go.Proofs.YtelphnigdancpaaGreatDoor
open Go.RowKit Go.Lib
set_option linter.unusedVariables false
set_option maxRecDepth 20000
attribute [local go_sem] opC upC

def ordH6 : List FStep := [.steady 0, .steady 1, .steady 2, .steady 3, .steady 4, .steady 5, .steady 6, .steady 7, .steady 8, .steady 9, .steady 10, .steady 11, .move 12, .steady 13, .steady 14, .steady 15, .float 16, .fixed 17, .steady 18]
def ordH7 : List FStep := [.steady 0, .steady 1, .steady 2, .steady 3, .steady 4, .steady 5, .steady 6, .move 7, .steady 8, .steady 9, .steady 10, .float 11, .fixed 12, .steady 13]
def ordH17 : List FStep := [.steady 0, .steady 1, .steady 2, .steady 3, .steady 4, .steady 5, .steady 6, .steady 7, .steady 8, .steady 9, .steady 10, .steady 11, .steady 12, .steady 13, .steady 14, .steady 15, .move 16, .steady 17, .steady 18, .steady 19, .float 20, .fixed 21, .steady 22]
def rndN (s : SW) : Nat → SW
  | 0 => s
  | n + 1 => roundS (rndN s n) 9
theorem rndN_inv {N : Int} {s : SW} (h : SInv K4 N [] s) : ∀ n, SInv K4 N [] (rndN s n)
  | 0 => h
  | n + 1 => (rndN_inv h n).round 9 (Nat.le_refl _)
theorem div3 {k : Nat} (h : k < 9) : ∃ i j : Nat, (k : Int).tdiv 3 = (i : Int) ∧ (k : Int).tmod 3 = (j : Int) ∧ k / 3 = i ∧ k % 3 = j ∧ i < 3 ∧ j < 3 := by
  refine ⟨k / 3, k % 3, ?_, ?_, rfl, rfl, by omega, by omega⟩
  · rw [Int.tdiv_eq_ediv_of_nonneg (by omega)]; omega
  · rw [Int.tmod_eq_emod_of_nonneg (by omega)]; omega
set_option maxRecDepth 100000 in
set_option maxHeartbeats 8000000 in
theorem ShareAgrees_walk (v : Value) (w : World) (hv : IsActs w v) (hq : Tabs w ∧ 3 ≤ w.heap.size) :
    Calls Tryz.prog 7 #[v] w fun e w' => e = .returned (.bool true) ∧ Below w.heap.size w w' := by
  obtain ⟨A, hA⟩ := acts_of hv
  have HTb := Lib.hid (show ∀ w', Below w.heap.size w w' → Tabs w' ∧ 3 ≤ w'.heap.size from fun w' hb => ⟨tabs_below hq.1 hq.2 hb, Nat.le_trans hq.2 hb.size⟩)
  have HOkA := Lib.hid hA.ok
  have HPl := Lib.hid (fun h => play_any w hq.1 hq.2 v A hA h)
  obtain ⟨aa, ca, rfl, h9, -⟩ := hA
  have h9I : (A.length : Int) ≤ 9223372036854775807 := by omega
  clear hq hv
  go_enter Tryz.func7, Tryz.ntmps7
  by_cases h60 : (60 : Int) < (A.length : Int)
  · go_wp2_with fail
    go_ret
    exact ⟨rfl, Below.refl _ _⟩
  have HC := Lib.hid (HPl.out (by omega))
  have Hla := Lib.hid (show A.length ≤ 60 by omega)
  clear HPl
  go_wp2_with fail
  refine HC.out.mono ?_
  rintro e w1 ⟨p, g, hb, lv, rfl, hW1, hb1⟩
  clear HC
  have hI := run_inv HOkA.out A.length (Nat.le_refl _) (by have := Hla.out; omega)
  obtain ⟨N, hN⟩ : ∃ N : Int, (A.length : Int) = N := ⟨_, rfl⟩
  obtain ⟨s, hs⟩ : ∃ s, runS A A.length = s := ⟨_, rfl⟩
  rw [hs] at hW1 hI
  have HI := Lib.hid (show SInv K4 N [] s by rw [← hN]; exact hI)
  have HZw1 := Lib.hid hW1; have HEw1 := Lib.hid hb1
  clear hI hs hN hW1 hb1
  -- two are merged
  obtain ⟨s1A, e1A, s2A, e2A, s3A, e3A, y0, y1, y2, hMA⟩ := HZw1.out.maps.get 0 (by decide)
  obtain ⟨s1B, e1B, s2B, e2B, s3B, e3B, v0, v1, v2, hMB⟩ := HZw1.out.maps.get 1 (by decide)
  simp only [Nat.reduceMul, Nat.reduceAdd] at y0 y1 y2 v0 v1 v2
  have x0 : w1.cell? ⟨p, 0, none⟩ = some (.slice (some ⟨g, 0, none⟩) 3 3) := HZw1.out.box.cell 0
  have pz : ∀ q x, w1.cell? q = some x → ∀ w', LaterT w1.heap.size 31 w1.drew w' → w'.cell? q = some x := fun q x hc w' hh => laterTC hc rfl hh
  have px0 := pz _ _ x0
  have py0 := pz _ _ y0
  have py1 := pz _ _ y1
  have py2 := pz _ _ y2
  have pv0 := pz _ _ v0
  have pv1 := pz _ _ v1
  have pv2 := pz _ _ v2
  have hg0 := HI.out.three.good 0 (by decide)
  have hg1 := HI.out.three.good 1 (by decide)
  have hg2 := HI.out.three.good 2 (by decide)
  have HFm := Lib.hid (show ∀ i, i < 3 → Formed (s.m i) from fun i hi => (HI.out.three.good i hi).formed)
  have HEq := Lib.hid (mergeR_ok hg0 hg1 (by decide))
  have hEq2 := mergeR_ok (hg0.merge hg1) hg2 (by decide)
  have KA := Lib.hid (valid_keys (hg0.valid (by decide)))
  have KB := Lib.hid (valid_keys (hg1.valid (by decide)))
  have KC := Lib.hid (valid_keys (hg2.valid (by decide)))
  have KD := Lib.hid (valid_keys ((hg0.merge hg1).valid (by decide)))
  have Hse := Lib.hid (lenOk (((hg0.merge hg1).merge hg2).valid (by decide)))
  have HAm := Lib.hid (show allM s.m = mergeM (mergeM (s.m 0) (s.m 1)) (s.m 2) from rfl)
  obtain ⟨a, ha⟩ : ∃ a, s.m 0 = a := ⟨_, rfl⟩
  obtain ⟨b, hb'⟩ : ∃ b, s.m 1 = b := ⟨_, rfl⟩
  obtain ⟨c, hc'⟩ : ∃ c, s.m 2 = c := ⟨_, rfl⟩
  rw [ha] at KA py0 py1 py2 hMA
  rw [hb'] at KB pv0 pv1 pv2 hMB
  rw [hc'] at KC
  rw [ha, hb'] at HEq KD
  rw [ha, hb', hc'] at hEq2 HAm Hse
  obtain ⟨ab, hab⟩ : ∃ ab, mergeM a b = ab := ⟨_, rfl⟩
  rw [hab] at HEq hEq2 HAm KD Hse
  obtain ⟨M, hM⟩ : ∃ M, mergeM ab c = M := ⟨_, rfl⟩
  rw [hM] at hEq2 HAm Hse
  have HEq2 := Lib.hid hEq2; have HMA := Lib.hid hMA; have HMB := Lib.hid hMB; have Hc' := Lib.hid hc'
  clear hEq2 hMA hMB hg0 hg1 hg2 ha hb' hc' hab hM y0 y1 y2 v0 v1 v2 x0 pz
  go_wp2_with fail
  go_wp2_with fail
  skip
  refine wp_region_fl (LaterT w1.heap.size 31) (FreshT w1.heap.size 31 3) [16] ordH6 60 (by kernel_rfl) (by kernel_rfl) (laterT_refl _ _) (laterT_trans _ _) (floats_of #[.slice none 0 0, .slice none 0 0, .slice none 0 0] rfl (Nat.le_refl _) (fun j hj => ?_) (fun i j hi hj hne => ?_)) ?_
  · obtain rfl : j = 16 := by simpa using hj
    exact ⟨_, rfl, rfl, fun a W => by go_simp⟩
  · simp at hi hj
    omega
  unfold ordH6
  repeat (refine canF_yes (v := ?_) rfl (wanted_none rfl) (fun w' hC => ?_) (fun K hK => ?_); rotate_left; (focus (go_simp; (try simp (disch := omega) only [IntWalk.i64_in]); (try simp (disch := omega) only [IntWalk.u32_in]); (try simp (disch := omega) only [IntWalk.u8_in]); (try simp (disch := omega) only [IntWalk.i64_quo]); (try simp (disch := omega) only [IntWalk.rem_in]); first | done | exact rfl)); go_simp; (try simp (disch := omega) only [IntWalk.i64_in]); (try simp (disch := omega) only [IntWalk.u32_in]); (try simp (disch := omega) only [IntWalk.u8_in]); (try simp (disch := omega) only [IntWalk.i64_quo]); (try simp (disch := omega) only [IntWalk.rem_in]); refine hK _ ?_; clear hK K)
  refine canF_go rfl rfl (fun Wa hWa KK hK => ?_)
  go_simp
  have hba : Below w1.heap.size w1 Wa := hWa.belD rfl
  have hwa : Below w.heap.size w Wa := HEw1.out.trans (hba.mono HEw1.out.size)
  have hU := pmerge_any Wa (HTb.out _ hwa).1 (HTb.out _ hwa).2 _ _ (.agg #[.slice s1A a.seen.length e1A, .slice s2A a.items.length e2A, .slice s3A a.gone.length e3A]) (.agg #[.slice s1B b.seen.length e1B, .slice s2B b.items.length e2B, .slice s3B b.gone.length e3B]) a b ⟨_, _, _, rfl, HMA.out.keep (w' := Wa) fun q _ hlt => hba.block q hlt⟩ ⟨_, _, _, rfl, HMB.out.keep (w' := Wa) fun q _ hlt => hba.block q hlt⟩ KA.out.1 KA.out.2 KB.out.1 KB.out.2
  rw [HEq.out] at hU
  have Hsz := Lib.hid hba.size
  refine hU.mono ?_
  rintro e wq7 ⟨⟨r1, rfl, ho, hbd⟩, hb7⟩
  refine ⟨_, rfl, LaterT.of_later hb7, hK _ _ ?_⟩
  clear hK KK hU px0 py0 py1 py2 pv0 pv1 pv2
  go_simp
  obtain ⟨t1, t2, t3, rfl, ho⟩ := ho
  dsimp only at ho hbd
  obtain ⟨n1, m1, rfl⟩ := own_shape ho.seen
  obtain ⟨n2, m2, rfl⟩ := own_shape ho.items
  obtain ⟨n3, m3, rfl⟩ := own_shape ho.gone
  have hb07 : Below w1.heap.size w1 wq7 := hba.trans (hb7.mono hba.size)
  have Hb07 := Lib.hid hb07; have Ho := Lib.hid ho; have Hbd := Lib.hid hbd
  clear hb07 ho hbd hb7 hwa hba hWa
  repeat (refine canF_yes (v := ?_) rfl (wanted_none rfl) (fun w' hC => ?_) (fun K hK => ?_); rotate_left; (focus (go_simp; (try simp (disch := omega) only [IntWalk.i64_in]); (try simp (disch := omega) only [IntWalk.u32_in]); (try simp (disch := omega) only [IntWalk.u8_in]); (try simp (disch := omega) only [IntWalk.i64_quo]); (try simp (disch := omega) only [IntWalk.rem_in]); first | done | exact rfl)); go_simp; (try simp (disch := omega) only [IntWalk.i64_in]); (try simp (disch := omega) only [IntWalk.u32_in]); (try simp (disch := omega) only [IntWalk.u8_in]); (try simp (disch := omega) only [IntWalk.i64_quo]); (try simp (disch := omega) only [IntWalk.rem_in]); refine hK _ ?_; clear hK K)
  refine canF_float rfl (fun vO Wd hWd hZ hU KK hK => ?_)
  obtain ⟨O4, LO, rfl, hO1, hO2, hO3⟩ := hZ
  refine hK _ _ ?_
  clear hK KK hU
  go_simp
  obtain ⟨x0, x1, x2, rfl⟩ : ∃ x0 x1 x2, LO = [x0, x1, x2] := by
    match LO, hO3 with
    | [x0, x1, x2], _ => exact ⟨x0, x1, x2, rfl⟩
  have hbd' : Below w1.heap.size w1 Wd := Hb07.out.trans (hWd.below Hb07.out.size)
  obtain ⟨w2, hw8, hblk8, hb8⟩ := fin3 hO2 hbd' hO1 (.slice n1 ab.seen.length m1) (.slice n2 ab.items.length m2) (.slice n3 ab.gone.length m3)
  have hl8 : LaterT w1.heap.size 31 Wd w2 := by
    rw [hw8]
    exact laterT_trans _ _ _ _ _ (laterT_trans _ _ _ _ _ (LaterT.set hO2 hO1 0 _) (LaterT.set (hO2.set 0 _) hO1 1 _)) (LaterT.set ((hO2.set 0 _).set 1 _) hO1 2 _)
  have ho8 : OwnIn w2 w1.heap.size (.slice n1 ab.seen.length m1) (.slice n2 ab.items.length m2) (.slice n3 ab.gone.length m3) ab :=
    ⟨own_base (hl8.own (hWd.own Ho.out.seen (by decide)) (by decide)) Hsz.out, own_base (hl8.own (hWd.own Ho.out.items (by decide)) (by decide)) Hsz.out, own_base (hl8.own (hWd.own Ho.out.gone (by decide)) (by decide)) Hsz.out⟩
  have HO1w2 := Lib.hid hO1; have HOw2 := Lib.hid ho8; have HBkw2 := Lib.hid hblk8; have HBdw2 := Lib.hid Hbd.out
  obtain ⟨y0, y1, y2⟩ := cell3 hO2
  have z0 := hO2.free 0
  have z1 := hO2.free 1
  have z2 := hO2.free 2
  have HBw2 := Lib.hid hb8; have Hl8 := Lib.hid hl8; have Hw8 := Lib.hid hw8
  clear hb8 hl8 hw8 hblk8 hbd' hWd hO2 hO3 Ho Hbd Hb07 ho8
  refine canF_fixed rfl rfl (fun KK hK => ?_)
  go_simp
  rw [← Hw8.out]
  refine ⟨Hl8.out, hK _ _ ?_⟩
  clear hK KK y0 y1 y2 z0 z1 z2 Hl8 Hw8 hO1
  go_simp
  repeat (refine canF_yes (v := ?_) rfl (wanted_none rfl) (fun w' hC => ?_) (fun K hK => ?_); rotate_left; (focus (go_simp; (try simp (disch := omega) only [IntWalk.i64_in]); (try simp (disch := omega) only [IntWalk.u32_in]); (try simp (disch := omega) only [IntWalk.u8_in]); (try simp (disch := omega) only [IntWalk.i64_quo]); (try simp (disch := omega) only [IntWalk.rem_in]); first | done | exact rfl)); go_simp; (try simp (disch := omega) only [IntWalk.i64_in]); (try simp (disch := omega) only [IntWalk.u32_in]); (try simp (disch := omega) only [IntWalk.u8_in]); (try simp (disch := omega) only [IntWalk.i64_quo]); (try simp (disch := omega) only [IntWalk.rem_in]); refine hK _ ?_; clear hK K)
  refine canF_nil ?_
  have HMw2 := Lib.hid (show MapVar (Free p g hb lv w2) w2 O4 ab from ⟨HZw1.out.fresh HO1w2.out HBkw2.out.lt, _, _, _, _, _, _, HBkw2.out, (HOw2.out.map HBdw2.out).mono fun q hq hlt => HZw1.out.fresh (W' := w2) hq hlt⟩)
  have HZw2 := Lib.hid (HZw1.out.keep HBw2.out)
  have HEw2 := Lib.hid (show Below w.heap.size w w2 from HEw1.out.trans (HBw2.out.mono HEw1.out.size))
  clear HEq HMA HMB KA KB
  -- all are merged
  obtain ⟨s1B, e1B, s2B, e2B, s3B, e3B, v0, v1, v2, hMB⟩ := HZw2.out.maps.get 2 (by decide)
  obtain ⟨-, s1A, e1A, s2A, e2A, s3A, e3A, hBA, hMA⟩ := HMw2.out
  obtain ⟨y0, y1, y2⟩ := cell3 hBA
  rw [Hc'.out] at v0 v1 v2 hMB
  simp only [Nat.reduceMul, Nat.reduceAdd] at v0 v1 v2
  have x0 : w2.cell? ⟨p, 0, none⟩ = some (.slice (some ⟨g, 0, none⟩) 3 3) := HZw2.out.box.cell 0
  have pz : ∀ q x, w2.cell? q = some x → ∀ w', LaterT w2.heap.size 31 w2.drew w' → w'.cell? q = some x := fun q x hc w' hh => laterTC hc rfl hh
  have px0 := pz _ _ x0
  have py0 := pz _ _ y0
  have py1 := pz _ _ y1
  have py2 := pz _ _ y2
  have pv0 := pz _ _ v0
  have pv1 := pz _ _ v1
  have pv2 := pz _ _ v2
  have HEq := Lib.hid HEq2.out; have HMA := Lib.hid hMA; have HMB := Lib.hid hMB
  clear hMA hMB hBA y0 y1 y2 v0 v1 v2 x0 pz HEq2
  go_wp2_with fail
  skip
  refine wp_region_fl (LaterT w2.heap.size 31) (FreshT w2.heap.size 31 3) [11] ordH7 60 (by kernel_rfl) (by kernel_rfl) (laterT_refl _ _) (laterT_trans _ _) (floats_of #[.slice none 0 0, .slice none 0 0, .slice none 0 0] rfl (Nat.le_refl _) (fun j hj => ?_) (fun i j hi hj hne => ?_)) ?_
  · obtain rfl : j = 11 := by simpa using hj
    exact ⟨_, rfl, rfl, fun a W => by go_simp⟩
  · simp at hi hj
    omega
  unfold ordH7
  repeat (refine canF_yes (v := ?_) rfl (wanted_none rfl) (fun w' hC => ?_) (fun K hK => ?_); rotate_left; (focus (go_simp; (try simp (disch := omega) only [IntWalk.i64_in]); (try simp (disch := omega) only [IntWalk.u32_in]); (try simp (disch := omega) only [IntWalk.u8_in]); (try simp (disch := omega) only [IntWalk.i64_quo]); (try simp (disch := omega) only [IntWalk.rem_in]); first | done | exact rfl)); go_simp; (try simp (disch := omega) only [IntWalk.i64_in]); (try simp (disch := omega) only [IntWalk.u32_in]); (try simp (disch := omega) only [IntWalk.u8_in]); (try simp (disch := omega) only [IntWalk.i64_quo]); (try simp (disch := omega) only [IntWalk.rem_in]); refine hK _ ?_; clear hK K)
  refine canF_go rfl rfl (fun Wa hWa KK hK => ?_)
  go_simp
  have hba : Below w2.heap.size w2 Wa := hWa.belD rfl
  have hwa : Below w.heap.size w Wa := HEw2.out.trans (hba.mono HEw2.out.size)
  have hU := pmerge_any Wa (HTb.out _ hwa).1 (HTb.out _ hwa).2 _ _ (.agg #[.slice s1A ab.seen.length e1A, .slice s2A ab.items.length e2A, .slice s3A ab.gone.length e3A]) (.agg #[.slice s1B c.seen.length e1B, .slice s2B c.items.length e2B, .slice s3B c.gone.length e3B]) ab c ⟨_, _, _, rfl, HMA.out.keep (w' := Wa) fun q _ hlt => hba.block q hlt⟩ ⟨_, _, _, rfl, HMB.out.keep (w' := Wa) fun q _ hlt => hba.block q hlt⟩ KD.out.1 KD.out.2 KC.out.1 KC.out.2
  rw [HEq.out] at hU
  have Hsz := Lib.hid hba.size
  refine hU.mono ?_
  rintro e wq7 ⟨⟨r1, rfl, ho, hbd⟩, hb7⟩
  refine ⟨_, rfl, LaterT.of_later hb7, hK _ _ ?_⟩
  clear hK KK hU px0 py0 py1 py2 pv0 pv1 pv2
  go_simp
  obtain ⟨t1, t2, t3, rfl, ho⟩ := ho
  dsimp only at ho hbd
  obtain ⟨n1, m1, rfl⟩ := own_shape ho.seen
  obtain ⟨n2, m2, rfl⟩ := own_shape ho.items
  obtain ⟨n3, m3, rfl⟩ := own_shape ho.gone
  have hb07 : Below w2.heap.size w2 wq7 := hba.trans (hb7.mono hba.size)
  have Hb07 := Lib.hid hb07; have Ho := Lib.hid ho; have Hbd := Lib.hid hbd
  clear hb07 ho hbd hb7 hwa hba hWa
  repeat (refine canF_yes (v := ?_) rfl (wanted_none rfl) (fun w' hC => ?_) (fun K hK => ?_); rotate_left; (focus (go_simp; (try simp (disch := omega) only [IntWalk.i64_in]); (try simp (disch := omega) only [IntWalk.u32_in]); (try simp (disch := omega) only [IntWalk.u8_in]); (try simp (disch := omega) only [IntWalk.i64_quo]); (try simp (disch := omega) only [IntWalk.rem_in]); first | done | exact rfl)); go_simp; (try simp (disch := omega) only [IntWalk.i64_in]); (try simp (disch := omega) only [IntWalk.u32_in]); (try simp (disch := omega) only [IntWalk.u8_in]); (try simp (disch := omega) only [IntWalk.i64_quo]); (try simp (disch := omega) only [IntWalk.rem_in]); refine hK _ ?_; clear hK K)
  refine canF_float rfl (fun vO Wd hWd hZ hU KK hK => ?_)
  obtain ⟨O6, LO, rfl, hO1, hO2, hO3⟩ := hZ
  refine hK _ _ ?_
  clear hK KK hU
  go_simp
  obtain ⟨x0, x1, x2, rfl⟩ : ∃ x0 x1 x2, LO = [x0, x1, x2] := by
    match LO, hO3 with
    | [x0, x1, x2], _ => exact ⟨x0, x1, x2, rfl⟩
  have hbd' : Below w2.heap.size w2 Wd := Hb07.out.trans (hWd.below Hb07.out.size)
  obtain ⟨w3, hw8, hblk8, hb8⟩ := fin3 hO2 hbd' hO1 (.slice n1 M.seen.length m1) (.slice n2 M.items.length m2) (.slice n3 M.gone.length m3)
  have hl8 : LaterT w2.heap.size 31 Wd w3 := by
    rw [hw8]
    exact laterT_trans _ _ _ _ _ (laterT_trans _ _ _ _ _ (LaterT.set hO2 hO1 0 _) (LaterT.set (hO2.set 0 _) hO1 1 _)) (LaterT.set ((hO2.set 0 _).set 1 _) hO1 2 _)
  have ho8 : OwnIn w3 w2.heap.size (.slice n1 M.seen.length m1) (.slice n2 M.items.length m2) (.slice n3 M.gone.length m3) M :=
    ⟨own_base (hl8.own (hWd.own Ho.out.seen (by decide)) (by decide)) Hsz.out, own_base (hl8.own (hWd.own Ho.out.items (by decide)) (by decide)) Hsz.out, own_base (hl8.own (hWd.own Ho.out.gone (by decide)) (by decide)) Hsz.out⟩
  have HO1w3 := Lib.hid hO1; have HOw3 := Lib.hid ho8; have HBkw3 := Lib.hid hblk8; have HBdw3 := Lib.hid Hbd.out
  obtain ⟨y0, y1, y2⟩ := cell3 hO2
  have z0 := hO2.free 0
  have z1 := hO2.free 1
  have z2 := hO2.free 2
  have HBw3 := Lib.hid hb8; have Hl8 := Lib.hid hl8; have Hw8 := Lib.hid hw8
  clear hb8 hl8 hw8 hblk8 hbd' hWd hO2 hO3 Ho Hbd Hb07 ho8
  refine canF_fixed rfl rfl (fun KK hK => ?_)
  go_simp
  rw [← Hw8.out]
  refine ⟨Hl8.out, hK _ _ ?_⟩
  clear hK KK y0 y1 y2 z0 z1 z2 Hl8 Hw8 hO1
  go_simp
  repeat (refine canF_yes (v := ?_) rfl (wanted_none rfl) (fun w' hC => ?_) (fun K hK => ?_); rotate_left; (focus (go_simp; (try simp (disch := omega) only [IntWalk.i64_in]); (try simp (disch := omega) only [IntWalk.u32_in]); (try simp (disch := omega) only [IntWalk.u8_in]); (try simp (disch := omega) only [IntWalk.i64_quo]); (try simp (disch := omega) only [IntWalk.rem_in]); first | done | exact rfl)); go_simp; (try simp (disch := omega) only [IntWalk.i64_in]); (try simp (disch := omega) only [IntWalk.u32_in]); (try simp (disch := omega) only [IntWalk.u8_in]); (try simp (disch := omega) only [IntWalk.i64_quo]); (try simp (disch := omega) only [IntWalk.rem_in]); refine hK _ ?_; clear hK K)
  refine canF_nil ?_
  have HMw3 := Lib.hid (show MapVar (Free p g hb lv w3) w3 O6 M from ⟨HZw2.out.fresh HO1w3.out HBkw3.out.lt, _, _, _, _, _, _, HBkw3.out, (HOw3.out.map HBdw3.out).mono fun q hq hlt => HZw2.out.fresh (W' := w3) hq hlt⟩)
  have HZw3 := Lib.hid (HZw2.out.keep HBw3.out)
  have HEw3 := Lib.hid (show Below w.heap.size w w3 from HEw2.out.trans (HBw3.out.mono HEw2.out.size))
  clear HEq HMA HMB KD KC Hc'
  go_wp2_with fail
  go_loopw [8] (fun q wr => ∃ n : Nat, n ≤ 2 ∧ q = .int .i64 (n : Int) ∧ WAt wr w.heap.size p g hb lv (rndN s n) ∧ MapVar (Free p g hb lv wr) wr O6 M ∧ Below w.heap.size w wr) (fun q _ => 2 - (intOf q).toNat)
  case atStart => exact ⟨0, by omega, rfl, HZw3.out, HMw3.out, HEw3.out⟩
  case round =>
    rename World => wo
    obtain ⟨n, hn, rfl, hWo, hMo, hBo⟩ := hrel
    by_cases hn2 : n < 2
    · have hnI : (n : Int) < 2 := by omega
      have HIn := Lib.hid (rndN_inv HI.out n)
      obtain ⟨sn, hsn⟩ : ∃ sn, rndN s n = sn := ⟨_, rfl⟩
      have Hnx := Lib.hid (show rndN s (n + 1) = roundS sn 9 by rw [← hsn]; rfl)
      rw [hsn] at HIn hWo
      have HWo := Lib.hid hWo; have HMo := Lib.hid hMo; have HBo := Lib.hid hBo
      clear hsn hWo hMo hBo
      go_wp2_with fail
      go_loopw [9] (fun q wq => ∃ k : Nat, k ≤ 9 ∧ q = .int .i64 (k : Int) ∧ WAt wq w.heap.size p g hb lv (roundS sn k) ∧ MapVar (Free p g hb lv wq) wq O6 M ∧ Below w.heap.size w wq) (fun q _ => 9 - (intOf q).toNat)
      case atStart => exact ⟨0, by omega, rfl, HWo.out, HMo.out, HBo.out⟩
      case round =>
        rename World => wq
        obtain ⟨k, hk, rfl, hWq, hMq, hBq⟩ := hrel
        by_cases hk9 : k < 9
        · have hkI : (k : Int) < 9 := by omega
          obtain ⟨i, j, hdI, hmI, hdN, hmN, hi3, hj3⟩ := div3 hk9
          have hi3I : (i : Int) < 3 := by omega
          have hj3I : (j : Int) < 3 := by omega
          have hwi : IntKind.i64.wrap (i : Int) = i := IntWalk.i64_in _ (by omega)
          have hwj : IntKind.i64.wrap (j : Int) = j := IntWalk.i64_in _ (by omega)
          have HIk := Lib.hid (HIn.out.round k hk)
          obtain ⟨sk, hsk⟩ : ∃ sk, roundS sn k = sk := ⟨_, rfl⟩
          have Hnk := Lib.hid (show roundS sn (k + 1) = tellS sk i j by rw [← hsk, ← hdN, ← hmN]; exact roundS_succ sn k)
          rw [hsk] at HIk hWq
          have HZwq := Lib.hid hWq; have HMq := Lib.hid hMq; have HEwq := Lib.hid hBq
          clear hsk hWq hMq hBq hdN hmN
          go_wp2_with fail
          obtain ⟨s1A, e1A, s2A, e2A, s3A, e3A, y0, y1, y2, hMA⟩ := HZwq.out.maps.get i hi3
          obtain ⟨s1B, e1B, s2B, e2B, s3B, e3B, v0, -, -, hMB⟩ := HZwq.out.maps.get j hj3
          have x0 : wq.cell? ⟨p, 0, none⟩ = some (.slice (some ⟨g, 0, none⟩) 3 3) := HZwq.out.box.cell 0
          have pz : ∀ q x, wq.cell? q = some x → ∀ w', LaterT wq.heap.size 39 wq.drew w' → w'.cell? q = some x := fun q x hc w' hh => laterTC hc rfl hh
          have px0 := pz _ _ x0
          have py0 := pz _ _ y0
          have py1 := pz _ _ y1
          have py2 := pz _ _ y2
          have pv0 := pz _ _ v0
          have hOk := write_ok HIk.out hi3 hj3 (HIk.out.three.good j hj3).formed.knows (fun _ => Int.le_refl _)
          have hE1 := send_ok hOk (by decide)
          have hE2 := recv_ok HIk.out hOk (.inl ⟨i, hi3, rfl⟩) (by decide)
          have hvm := msg_valid hOk (by decide)
          have hfrm : (⟨j, i, ((sk).m j).seen, (sk).m i⟩ : SLet).msg.frm = (i : Int) := rfl
          dsimp only at hE1
          obtain ⟨X, hX⟩ : ∃ X, (⟨j, i, ((sk).m j).seen, (sk).m i⟩ : SLet).msg = X := ⟨_, rfl⟩
          rw [hX] at hE1 hvm hfrm
          have HX := Lib.hid hX; have HOk := Lib.hid hOk; have HE2 := Lib.hid hE2; have Hfrm := Lib.hid hfrm
          have KA := Lib.hid (valid_keys ((HIk.out.three.good i hi3).valid (by decide)))
          have KX := Lib.hid (valid_keys (svalid_tell hvm))
          obtain ⟨a, ha⟩ : ∃ a, (sk).m i = a := ⟨_, rfl⟩
          obtain ⟨b, hb'⟩ : ∃ b, (sk).m j = b := ⟨_, rfl⟩
          rw [ha, hb'] at hE1
          rw [ha] at hMA py0 py1 py2 KA
          rw [hb'] at hMB pv0
          have HE1 := Lib.hid hE1; have HMA := Lib.hid hMA; have HMB := Lib.hid hMB; have Ha := Lib.hid ha; have Hb' := Lib.hid hb'
          clear hE1 hE2 hvm hfrm hX hOk hMA hMB ha hb' y0 y1 y2 v0 x0 pz
          go_wp2_with fail
          skip
          refine wp_region_fl (LaterT wq.heap.size 39) (FreshT wq.heap.size 39 5) [20] ordH17 60 (by kernel_rfl) (by kernel_rfl) (laterT_refl _ _) (laterT_trans _ _) (floats_of #[.int .i64 0, .slice none 0 0, .slice none 0 0, .slice none 0 0, .slice none 0 0] rfl (Nat.le_refl _) (fun j hj => ?_) (fun i j hi hj hne => ?_)) ?_
          · obtain rfl : j = 20 := by simpa using hj
            exact ⟨_, rfl, rfl, fun a W => by go_simp⟩
          · simp at hi hj
            omega
          unfold ordH17
          repeat (refine canF_yes (v := ?_) rfl (wanted_none rfl) (fun w' hC => ?_) (fun K hK => ?_); rotate_left; (focus (go_simp; (try simp (disch := omega) only [IntWalk.i64_in]); (try simp (disch := omega) only [IntWalk.u32_in]); (try simp (disch := omega) only [IntWalk.u8_in]); (try simp (disch := omega) only [IntWalk.i64_quo]); (try simp (disch := omega) only [IntWalk.rem_in]); first | done | exact rfl)); go_simp; (try simp (disch := omega) only [IntWalk.i64_in]); (try simp (disch := omega) only [IntWalk.u32_in]); (try simp (disch := omega) only [IntWalk.u8_in]); (try simp (disch := omega) only [IntWalk.i64_quo]); (try simp (disch := omega) only [IntWalk.rem_in]); refine hK _ ?_; clear hK K)
          refine canF_go rfl rfl (fun Wa hWa KK hK => ?_)
          go_simp
          have hba : Below wq.heap.size wq Wa := hWa.belD rfl
          have hwa : Below w.heap.size w Wa := HEwq.out.trans (hba.mono HEwq.out.size)
          have hU := send_any Wa (HTb.out _ hwa).1 (HTb.out _ hwa).2 _ _ (i : Int) (.agg #[.slice s1A a.seen.length e1A, .slice s2A a.items.length e2A, .slice s3A a.gone.length e3A]) a ⟨_, _, _, rfl, HMA.out.keep (w' := Wa) fun q _ hlt => hba.block q hlt⟩ KA.out.1 KA.out.2 (.slice s1B b.seen.length e1B) b.seen (HMB.out.keep (w' := Wa) fun q _ hlt => hba.block q hlt).seen
          rw [HE1.out] at hU
          have Hsz := Lib.hid hba.size
          refine hU.mono ?_
          rintro e wq7 ⟨⟨r1, rfl, ho, hbd⟩, hb7⟩
          refine ⟨_, rfl, LaterT.of_later hb7, hK _ _ ?_⟩
          clear hK KK hU px0 py0 py1 py2 pv0
          go_simp
          obtain ⟨t0, t1, t2, t3, rfl, ho⟩ := ho
          dsimp only at ho hbd
          obtain ⟨n0, m0, rfl⟩ := own_shape ho.seen
          obtain ⟨n1, m1, rfl⟩ := own_shape ho.tell.seen
          obtain ⟨n2, m2, rfl⟩ := own_shape ho.tell.items
          obtain ⟨n3, m3, rfl⟩ := own_shape ho.tell.gone
          have hb07 : Below wq.heap.size wq wq7 := hba.trans (hb7.mono hba.size)
          have Hb07 := Lib.hid hb07; have Ho := Lib.hid ho; have Hbd := Lib.hid hbd
          clear hb07 ho hbd hb7 hwa hba hWa
          repeat (refine canF_yes (v := ?_) rfl (wanted_none rfl) (fun w' hC => ?_) (fun K hK => ?_); rotate_left; (focus (go_simp; (try simp (disch := omega) only [IntWalk.i64_in]); (try simp (disch := omega) only [IntWalk.u32_in]); (try simp (disch := omega) only [IntWalk.u8_in]); (try simp (disch := omega) only [IntWalk.i64_quo]); (try simp (disch := omega) only [IntWalk.rem_in]); first | done | exact rfl)); go_simp; (try simp (disch := omega) only [IntWalk.i64_in]); (try simp (disch := omega) only [IntWalk.u32_in]); (try simp (disch := omega) only [IntWalk.u8_in]); (try simp (disch := omega) only [IntWalk.i64_quo]); (try simp (disch := omega) only [IntWalk.rem_in]); refine hK _ ?_; clear hK K)
          refine canF_float rfl (fun vO Wd hWd hZ hU KK hK => ?_)
          obtain ⟨O5, LO, rfl, hO1, hO2, hO3⟩ := hZ
          refine hK _ _ ?_
          clear hK KK hU
          go_simp
          obtain ⟨x0, x1, x2, x3, x4, rfl⟩ : ∃ x0 x1 x2 x3 x4, LO = [x0, x1, x2, x3, x4] := by
            match LO, hO3 with
            | [x0, x1, x2, x3, x4], _ => exact ⟨x0, x1, x2, x3, x4, rfl⟩
          have hbd' : Below wq.heap.size wq Wd := Hb07.out.trans (hWd.below Hb07.out.size)
          obtain ⟨w5, hw8, hblk8, hb8⟩ := fin5 hO2 hbd' hO1 (.int .i64 X.frm) (.slice n0 X.seen.length m0) (.slice n1 X.tell.seen.length m1) (.slice n2 X.tell.items.length m2) (.slice n3 X.tell.gone.length m3)
          have hl8 : LaterT wq.heap.size 39 Wd w5 := by
            rw [hw8]
            exact laterT_trans _ _ _ _ _ (laterT_trans _ _ _ _ _ (laterT_trans _ _ _ _ _ (laterT_trans _ _ _ _ _ (LaterT.set hO2 hO1 0 _) (LaterT.set (hO2.set 0 _) hO1 1 _)) (LaterT.set ((hO2.set 0 _).set 1 _) hO1 2 _)) (LaterT.set (((hO2.set 0 _).set 1 _).set 2 _) hO1 3 _)) (LaterT.set ((((hO2.set 0 _).set 1 _).set 2 _).set 3 _) hO1 4 _)
          have ho8 : OwnMsg w5 wq.heap.size (.slice n0 X.seen.length m0) (.slice n1 X.tell.seen.length m1) (.slice n2 X.tell.items.length m2) (.slice n3 X.tell.gone.length m3) X :=
            ⟨own_base (hl8.own (hWd.own Ho.out.seen (by decide)) (by decide)) Hsz.out, own_base (hl8.own (hWd.own Ho.out.tell.seen (by decide)) (by decide)) Hsz.out, own_base (hl8.own (hWd.own Ho.out.tell.items (by decide)) (by decide)) Hsz.out, own_base (hl8.own (hWd.own Ho.out.tell.gone (by decide)) (by decide)) Hsz.out⟩
          obtain ⟨y0, y1, y2, y3, y4⟩ := cell5 hO2
          have z0 := hO2.free 0
          have z1 := hO2.free 1
          have z2 := hO2.free 2
          have z3 := hO2.free 3
          have z4 := hO2.free 4
          have HOw5 := Lib.hid ho8; have HBkw5 := Lib.hid hblk8; have HBdw5 := Lib.hid Hbd.out; have HO1w5 := Lib.hid hO1
          have HBw5 := Lib.hid hb8; have Hl8 := Lib.hid hl8; have Hw8 := Lib.hid hw8
          clear hb8 hl8 hw8 hblk8 hbd' hWd hO2 hO3 Ho Hbd Hb07 ho8
          refine canF_fixed rfl rfl (fun KK hK => ?_)
          go_simp
          rw [← Hw8.out]
          refine ⟨Hl8.out, hK _ _ ?_⟩
          clear hK KK y0 y1 y2 y3 y4 z0 z1 z2 z3 z4 Hl8 Hw8 hO1
          go_simp
          repeat (refine canF_yes (v := ?_) rfl (wanted_none rfl) (fun w' hC => ?_) (fun K hK => ?_); rotate_left; (focus (go_simp; (try simp (disch := omega) only [IntWalk.i64_in]); (try simp (disch := omega) only [IntWalk.u32_in]); (try simp (disch := omega) only [IntWalk.u8_in]); (try simp (disch := omega) only [IntWalk.i64_quo]); (try simp (disch := omega) only [IntWalk.rem_in]); first | done | exact rfl)); go_simp; (try simp (disch := omega) only [IntWalk.i64_in]); (try simp (disch := omega) only [IntWalk.u32_in]); (try simp (disch := omega) only [IntWalk.u8_in]); (try simp (disch := omega) only [IntWalk.i64_quo]); (try simp (disch := omega) only [IntWalk.rem_in]); refine hK _ ?_; clear hK K)
          refine canF_nil ?_
          have HVw5 := Lib.hid (show MsgVar (Free p g hb lv w5) w5 O5 X from ⟨HZwq.out.fresh HO1w5.out HBkw5.out.lt, _, _, _, _, _, _, _, _, HBkw5.out, (HOw5.out.msg HBdw5.out).mono fun q hq hlt => HZwq.out.fresh (W' := w5) hq hlt⟩)
          have HZw5 := Lib.hid (HZwq.out.keep HBw5.out)
          have HEw5 := Lib.hid (show Below w.heap.size w w5 from HEwq.out.trans (HBw5.out.mono HEwq.out.size))
          clear HMA HMB HE1 KA
          have HM5 := Lib.hid (HMq.out.keep HBw5.out)
          by_cases hij : (i : Int) = (j : Int)
          · have e : tellS sk i j = sk := by
              obtain rfl : i = j := by omega
              exact tellS_self _ _
            have He := Lib.hid e
            clear e
            go_wp2_with fail
            go_roundw
            case rel => exact ⟨k + 1, by omega, by go_num, by rw [Hnk.out, He.out]; exact HZw5.out, HM5.out, HEw5.out⟩
            case measure => first | (simp [intOf]; done) | (simp [intOf]; omega)
          · obtain ⟨-, s0X, e0X, s1X, e1X, s2X, e2X, s3X, e3X, hBX, hMX⟩ := HVw5.out
            obtain ⟨c0, c1, c2, c3, c4⟩ := cell5 hBX
            rw [Hfrm.out] at c0
            have hgj := HIk.out.three.good j hj3
            have hgi := HIk.out.three.good i hi3
            have HAr := Lib.hid (show Calls Tryz.prog 30 #[.pointer (some ⟨p, 0, none⟩), .agg #[.int .i64 (j : Int), .int .i64 (i : Int), .slice s0X X.seen.length e0X, .slice s1X X.tell.seen.length e1X, .slice s2X X.tell.items.length e2X, .slice s3X X.tell.gone.length e3X]] w5 fun e w' =>
                e = .returned (.bool true) ∧ WAt w' w.heap.size p g hb lv (arriveS sk ⟨j, i, (sk.m j).seen, sk.m i⟩) ∧ BF w.heap.size p g hb lv w5 lv w' from
              arrive_any w5 (HTb.out _ HEw5.out).1 (HTb.out _ HEw5.out).2 w.heap.size p g hb lv sk HZw5.out HEw5.out.size ⟨j, i, (sk.m j).seen, sk.m i⟩ hj3 hi3 _ _ _ _ (by rw [HX.out]; exact hMX) HE2.out (valid_keys (hgj.valid (by decide))) (by rw [HX.out]; exact KX.out) hgi.formed.len)
            have He := Lib.hid (show tellS sk i j = arriveS sk ⟨j, i, (sk.m j).seen, sk.m i⟩ by unfold tellS; rw [if_neg (by omega)])
            clear hBX hMX hgj hgi
            go_wp2_with fail
            refine HAr.out.mono ?_
            rintro e w6 ⟨rfl, hW6, hbf⟩
            rw [← He.out, ← Hnk.out] at hW6
            have HZ6 := Lib.hid hW6; have HM6 := Lib.hid (HM5.out.bf hbf); have HE6 := Lib.hid (HEw5.out.trans hbf.bel)
            clear HAr hW6 hbf c0 c1 c2 c3 c4
            go_wp2_with fail
            go_roundw
            case rel => exact ⟨k + 1, by omega, by go_num, HZ6.out, HM6.out, HE6.out⟩
            case measure => first | (simp [intOf]; done) | (simp [intOf]; omega)
        · have hkI : ¬ (k : Int) < 9 := by omega
          obtain rfl : k = 9 := by omega
          rw [← Hnx.out] at hWq
          have HWq := Lib.hid hWq; have HMq := Lib.hid hMq; have HBq := Lib.hid hBq
          clear hWq hMq hBq
          go_wp2_with fail
          go_roundw
          case rel => exact ⟨n + 1, by omega, by go_num, HWq.out, HMq.out, HBq.out⟩
          case measure => first | (simp [intOf]; done) | (simp [intOf]; omega)
    · have hnI : ¬ (n : Int) < 2 := by omega
      obtain rfl : n = 2 := by omega
      obtain ⟨w4, hw4⟩ : ∃ q, q = wo := ⟨_, rfl⟩
      rw [← hw4] at hWo hMo hBo ⊢
      clear hw4
      have HAll := Lib.hid (show ∀ i, i < 3 → (rndN s 2).m i = M by
        intro i hi
        rw [← HAm.out]
        exact rounds_all HFm.out i hi)
      have HZw4 := Lib.hid hWo; have HMw4 := Lib.hid hMo; have HEw4 := Lib.hid hBo
      clear hWo hMo hBo
      obtain ⟨s1B, e1B, s2B, e2B, s3B, e3B, v0, v1, v2, hMB⟩ := HZw4.out.maps.get 0 (by decide)
      obtain ⟨-, s1A, e1A, s2A, e2A, s3A, e3A, hBA, hMA⟩ := HMw4.out
      obtain ⟨d0, d1, d2⟩ := cell3 hBA
      have x0 : w4.cell? ⟨p, 0, none⟩ = some (.slice (some ⟨g, 0, none⟩) 3 3) := HZw4.out.box.cell 0
      have pz : ∀ q x, w4.cell? q = some x → ∀ w', Later w4.drew w' → w'.cell? q = some x := fun q x hc w' hh => (hh.cell (p := q) (cellLt hc)).trans hc
      rw [HAll.out 0 (by decide)] at v0 v1 v2 hMB
      simp only [Nat.reduceMul, Nat.reduceAdd] at v0 v1 v2
      have px0 := pz _ _ x0
      have pv0 := pz _ _ v0
      have pv1 := pz _ _ v1
      have pv2 := pz _ _ v2
      have pd0 := pz _ _ d0
      have pd1 := pz _ _ d1
      have pd2 := pz _ _ d2
      have HE := Lib.hid (equal_any w4.drew _ _ (.agg #[.slice s1B M.seen.length e1B, .slice s2B M.items.length e2B, .slice s3B M.gone.length e3B]) (.agg #[.slice s1A M.seen.length e1A, .slice s2A M.items.length e2A, .slice s3A M.gone.length e3A]) M M ⟨_, _, _, rfl, hMB.keep (w' := w4.drew) fun q _ _ => rfl⟩ ⟨_, _, _, rfl, hMA.keep (w' := w4.drew) fun q _ _ => rfl⟩ Hse.out.1 Hse.out.2.1 Hse.out.2.2 Hse.out.1 Hse.out.2.1 Hse.out.2.2)
      clear hMA hMB hBA v0 v1 v2 d0 d1 d2 x0 pz
      go_wp2_with fail
      refine wp_region_can Later [(0, true), (1, true), (2, true), (3, true), (4, true), (5, true), (6, true), (7, false), (8, true), (9, true), (10, true), (11, true), (12, true), (13, true), (14, true), (15, true), (16, false), (17, true), (18, true), (19, true), (20, true), (21, true), (22, true), (23, true), (24, true), (25, true), (26, false), (27, true), (28, true), (29, false), (30, true), (31, true)] (by kernel_rfl) (by kernel_rfl) later_refl later_trans ?_
      repeat (first
        | (refine can_yes (v := ?_) rfl (wanted_none rfl) (fun w' hC => ?_) (fun K hK => ?_); rotate_left; (focus (go_simp; first | done | exact rfl)); go_simp; refine hK _ ?_; clear hK K)
        | (refine can_guard rfl (fun A B hA hB => ?_); go_simp; first | (refine hA ⟨?_, fun w' hC => ?_, fun K hK => ?_⟩; rotate_left; (focus (go_simp; first | done | exact rfl)); go_simp; refine hK _ ?_; clear hK K hA hB A B) | (refine hB (fun K hK => ?_); go_simp; refine hK _ ?_; clear hK K hA hB A B))
        | (refine can_guard_go rfl (fun A B hA hB => ?_); go_simp; refine hB (fun K hK => ?_); go_simp; refine hK _ ?_; clear hK K hA hB A B))
      clear px0 pv0 pv1 pv2 pd0 pd1 pd2
      refine can_go rfl rfl (fun KK hK => ?_)
      go_simp
      refine HE.out.mono ?_
      rintro e w5 ⟨r, rfl, hr, hb9⟩
      obtain rfl : r = true := hr.2 rfl
      refine ⟨_, rfl, hb9, hK _ _ ?_⟩
      clear hK KK hr HE
      go_simp
      have hbn : Below w4.heap.size w4 w5 := (Below.refl w4.heap.size w4).drew.trans hb9
      have HEw5 := Lib.hid (show Below w.heap.size w w5 from HEw4.out.trans (hbn.mono HEw4.out.size))
      have HZw5 := Lib.hid (HZw4.out.keep hbn)
      have HMw5 := Lib.hid (HMw4.out.keep hbn)
      clear hb9 hbn
      obtain ⟨s1B, e1B, s2B, e2B, s3B, e3B, v0, v1, v2, hMB⟩ := HZw5.out.maps.get 1 (by decide)
      obtain ⟨-, s1A, e1A, s2A, e2A, s3A, e3A, hBA, hMA⟩ := HMw5.out
      obtain ⟨d0, d1, d2⟩ := cell3 hBA
      have x0 : w5.cell? ⟨p, 0, none⟩ = some (.slice (some ⟨g, 0, none⟩) 3 3) := HZw5.out.box.cell 0
      have pz : ∀ q x, w5.cell? q = some x → ∀ w', Later w5 w' → w'.cell? q = some x := fun q x hc w' hh => (hh.cell (p := q) (cellLt hc)).trans hc
      rw [HAll.out 1 (by decide)] at v0 v1 v2 hMB
      simp only [Nat.reduceMul, Nat.reduceAdd] at v0 v1 v2
      have px0 := pz _ _ x0
      have pv0 := pz _ _ v0
      have pv1 := pz _ _ v1
      have pv2 := pz _ _ v2
      have pd0 := pz _ _ d0
      have pd1 := pz _ _ d1
      have pd2 := pz _ _ d2
      have HE := Lib.hid (equal_any w5 _ _ (.agg #[.slice s1B M.seen.length e1B, .slice s2B M.items.length e2B, .slice s3B M.gone.length e3B]) (.agg #[.slice s1A M.seen.length e1A, .slice s2A M.items.length e2A, .slice s3A M.gone.length e3A]) M M ⟨_, _, _, rfl, hMB.keep (w' := w5) fun q _ _ => rfl⟩ ⟨_, _, _, rfl, hMA.keep (w' := w5) fun q _ _ => rfl⟩ Hse.out.1 Hse.out.2.1 Hse.out.2.2 Hse.out.1 Hse.out.2.1 Hse.out.2.2)
      clear hMA hMB hBA v0 v1 v2 d0 d1 d2 x0 pz
      repeat (first
        | (refine can_yes (v := ?_) rfl (wanted_none rfl) (fun w' hC => ?_) (fun K hK => ?_); rotate_left; (focus (go_simp; first | done | exact rfl)); go_simp; refine hK _ ?_; clear hK K)
        | (refine can_guard rfl (fun A B hA hB => ?_); go_simp; first | (refine hA ⟨?_, fun w' hC => ?_, fun K hK => ?_⟩; rotate_left; (focus (go_simp; first | done | exact rfl)); go_simp; refine hK _ ?_; clear hK K hA hB A B) | (refine hB (fun K hK => ?_); go_simp; refine hK _ ?_; clear hK K hA hB A B))
        | (refine can_guard_go rfl (fun A B hA hB => ?_); go_simp; refine hB (fun K hK => ?_); go_simp; refine hK _ ?_; clear hK K hA hB A B))
      clear px0 pv0 pv1 pv2 pd0 pd1 pd2
      refine can_go rfl rfl (fun KK hK => ?_)
      go_simp
      refine HE.out.mono ?_
      rintro e w6 ⟨r, rfl, hr, hb9⟩
      obtain rfl : r = true := hr.2 rfl
      refine ⟨_, rfl, hb9, hK _ _ ?_⟩
      clear hK KK hr HE
      go_simp
      have hbn : Below w5.heap.size w5 w6 := hb9
      have HEw6 := Lib.hid (show Below w.heap.size w w6 from HEw5.out.trans (hbn.mono HEw5.out.size))
      have HZw6 := Lib.hid (HZw5.out.keep hbn)
      have HMw6 := Lib.hid (HMw5.out.keep hbn)
      clear hb9 hbn
      obtain ⟨s1B, e1B, s2B, e2B, s3B, e3B, v0, v1, v2, hMB⟩ := HZw6.out.maps.get 2 (by decide)
      obtain ⟨-, s1A, e1A, s2A, e2A, s3A, e3A, hBA, hMA⟩ := HMw6.out
      obtain ⟨d0, d1, d2⟩ := cell3 hBA
      have x0 : w6.cell? ⟨p, 0, none⟩ = some (.slice (some ⟨g, 0, none⟩) 3 3) := HZw6.out.box.cell 0
      have pz : ∀ q x, w6.cell? q = some x → ∀ w', Later w6 w' → w'.cell? q = some x := fun q x hc w' hh => (hh.cell (p := q) (cellLt hc)).trans hc
      rw [HAll.out 2 (by decide)] at v0 v1 v2 hMB
      simp only [Nat.reduceMul, Nat.reduceAdd] at v0 v1 v2
      have px0 := pz _ _ x0
      have pv0 := pz _ _ v0
      have pv1 := pz _ _ v1
      have pv2 := pz _ _ v2
      have pd0 := pz _ _ d0
      have pd1 := pz _ _ d1
      have pd2 := pz _ _ d2
      have HE := Lib.hid (equal_any w6 _ _ (.agg #[.slice s1B M.seen.length e1B, .slice s2B M.items.length e2B, .slice s3B M.gone.length e3B]) (.agg #[.slice s1A M.seen.length e1A, .slice s2A M.items.length e2A, .slice s3A M.gone.length e3A]) M M ⟨_, _, _, rfl, hMB.keep (w' := w6) fun q _ _ => rfl⟩ ⟨_, _, _, rfl, hMA.keep (w' := w6) fun q _ _ => rfl⟩ Hse.out.1 Hse.out.2.1 Hse.out.2.2 Hse.out.1 Hse.out.2.1 Hse.out.2.2)
      clear hMA hMB hBA v0 v1 v2 d0 d1 d2 x0 pz
      repeat (first
        | (refine can_yes (v := ?_) rfl (wanted_none rfl) (fun w' hC => ?_) (fun K hK => ?_); rotate_left; (focus (go_simp; first | done | exact rfl)); go_simp; refine hK _ ?_; clear hK K)
        | (refine can_guard rfl (fun A B hA hB => ?_); go_simp; first | (refine hA ⟨?_, fun w' hC => ?_, fun K hK => ?_⟩; rotate_left; (focus (go_simp; first | done | exact rfl)); go_simp; refine hK _ ?_; clear hK K hA hB A B) | (refine hB (fun K hK => ?_); go_simp; refine hK _ ?_; clear hK K hA hB A B))
        | (refine can_guard_go rfl (fun A B hA hB => ?_); go_simp; refine hB (fun K hK => ?_); go_simp; refine hK _ ?_; clear hK K hA hB A B))
      clear px0 pv0 pv1 pv2 pd0 pd1 pd2
      refine can_go rfl rfl (fun KK hK => ?_)
      go_simp
      refine HE.out.mono ?_
      rintro e w7 ⟨r, rfl, hr, hb9⟩
      obtain rfl : r = true := hr.2 rfl
      refine ⟨_, rfl, hb9, hK _ _ ?_⟩
      clear hK KK hr HE
      go_simp
      have hbn : Below w6.heap.size w6 w7 := hb9
      have HEw7 := Lib.hid (show Below w.heap.size w w7 from HEw6.out.trans (hbn.mono HEw6.out.size))
      have HZw7 := Lib.hid (HZw6.out.keep hbn)
      have HMw7 := Lib.hid (HMw6.out.keep hbn)
      clear hb9 hbn
      repeat (first
        | (refine can_yes (v := ?_) rfl (wanted_none rfl) (fun w' hC => ?_) (fun K hK => ?_); rotate_left; (focus (go_simp; first | done | exact rfl)); go_simp; refine hK _ ?_; clear hK K)
        | (refine can_guard rfl (fun A B hA hB => ?_); go_simp; first | (refine hA ⟨?_, fun w' hC => ?_, fun K hK => ?_⟩; rotate_left; (focus (go_simp; first | done | exact rfl)); go_simp; refine hK _ ?_; clear hK K hA hB A B) | (refine hB (fun K hK => ?_); go_simp; refine hK _ ?_; clear hK K hA hB A B))
        | (refine can_guard_go rfl (fun A B hA hB => ?_); go_simp; refine hB (fun K hK => ?_); go_simp; refine hK _ ?_; clear hK K hA hB A B))
      refine can_go rfl rfl (fun KK hK => ?_)
      go_simp
      refine (works_any w7 (HTb.out _ HEw7.out).1 (HTb.out _ HEw7.out).2).mono ?_
      rintro e w8 ⟨rfl, hb8⟩
      refine ⟨_, rfl, hb8, hK _ _ ?_⟩
      clear hK KK
      have HEw8 := Lib.hid (HEw7.out.trans (hb8.mono HEw7.out.size))
      clear hb8
      go_simp
      repeat (first
        | (refine can_yes (v := ?_) rfl (wanted_none rfl) (fun w' hC => ?_) (fun K hK => ?_); rotate_left; (focus (go_simp; first | done | exact rfl)); go_simp; refine hK _ ?_; clear hK K)
        | (refine can_guard rfl (fun A B hA hB => ?_); go_simp; first | (refine hA ⟨?_, fun w' hC => ?_, fun K hK => ?_⟩; rotate_left; (focus (go_simp; first | done | exact rfl)); go_simp; refine hK _ ?_; clear hK K hA hB A B) | (refine hB (fun K hK => ?_); go_simp; refine hK _ ?_; clear hK K hA hB A B))
        | (refine can_guard_go rfl (fun A B hA hB => ?_); go_simp; refine hB (fun K hK => ?_); go_simp; refine hK _ ?_; clear hK K hA hB A B))
      refine can_nil ?_
      go_wp2_with fail
      go_ret
      exact ⟨rfl, HEw8.out⟩
end Go.Proofs.YtelphnigdancpaaGreatDoor
