/-
  SLawB
-/
import Derived.Test.YtelphnigdancpaaGreatDoorZA42
import Derived.Test.YtelphnigdancpaaGreatDoorZA38
namespace Go.Proofs.YtelphnigdancpaaGreatDoor
open Go.RowKit Go.Lib
set_option linter.unusedVariables false
set_option maxRecDepth 20000
attribute [local go_sem] opC upC

def ordG6 : List FStep := [.steady 0, .steady 1, .steady 2, .steady 3, .steady 4, .steady 5, .steady 6, .steady 7, .steady 8, .steady 9, .steady 10, .steady 11, .steady 12, .steady 13, .steady 14, .steady 15, .steady 16, .steady 17, .steady 18, .steady 19, .move 20, .steady 21, .steady 22, .steady 23, .float 24, .fixed 25, .steady 26]
def ordG9 : List FStep := [.steady 0, .steady 1, .steady 2, .steady 3, .steady 4, .steady 5, .steady 6, .steady 7, .steady 8, .move 9, .steady 10, .steady 11, .steady 12, .float 13, .fixed 14, .steady 15]
theorem recv_again {N : Int} {s : SW} {l : SLet} {X : SMsg} (h : SInv K4 N [l] s) (hX : l.msg = X) (hle : mergeM (s.m l.dst) l.full = s.m l.dst) : recvR (s.m l.dst) X = (s.m l.dst, 0) := by
  have hm : l ∈ s.lets ++ [l] := List.mem_append_right _ List.mem_cons_self
  have := recv_ok h (h.lets l hm) (.inr ⟨l, hm, rfl⟩) (by decide)
  rw [hX, hle] at this
  exact this
theorem runB_lets (s : SW) (A : List SAct) : ∀ k : Nat, k ≤ A.length → (runB s A k).lets.length ≤ s.lets.length + k
  | 0, _ => Nat.le_refl _
  | k + 1, h => by
    rw [runB_succ s A k (by omega)]
    have := stepS_lets (runB s A k) A[k]
    have := runB_lets s A k (by omega)
    omega
set_option maxRecDepth 100000 in
set_option maxHeartbeats 8000000 in
theorem ShareAgain_walk (v vb : Value) (fr tt : Int) (w : World) (hv : IsActs w v) (hvb : IsActs w vb) (hfr : (Lit.int .u8 fr).wf = true) (hto : (Lit.int .u8 tt).wf = true) (hq : Tabs w ∧ 3 ≤ w.heap.size) :
    Calls Tryz.prog 8 #[v, vb, .int .u8 fr, .int .u8 tt] w fun e w' => e = .returned (.bool true) ∧ Below w.heap.size w w' := by
  obtain ⟨A, hA⟩ := acts_of hv
  obtain ⟨B, hB⟩ := acts_of hvb
  obtain ⟨i, him, hi3⟩ := mod3 (bounds_u8 hfr)
  obtain ⟨j, hjm, hj3⟩ := mod3 (bounds_u8 hto)
  have hi3I : (i : Int) < 3 := by omega
  have hj3I : (j : Int) < 3 := by omega
  have hwi : IntKind.i64.wrap (i : Int) = i := IntWalk.i64_in _ (by omega)
  have hwj : IntKind.i64.wrap (j : Int) = j := IntWalk.i64_in _ (by omega)
  have HTb := Lib.hid (show ∀ w', Below w.heap.size w w' → Tabs w' ∧ 3 ≤ w'.heap.size from fun w' hb => ⟨tabs_below hq.1 hq.2 hb, Nat.le_trans hq.2 hb.size⟩)
  have HOkA := Lib.hid hA.ok
  have HOkB := Lib.hid hB.ok
  have HBk := Lib.hid (show ∀ w', Below w.heap.size w w' → ActsAt w' w.heap.size vb B from fun w' hb => hB.kept hb)
  have HPl := Lib.hid (fun h => play_any w hq.1 hq.2 v A hA h)
  obtain ⟨aa, ca, rfl, h9, -⟩ := hA
  obtain ⟨ab, cb, rfl, h9b, -⟩ := hB
  have h9I : (A.length : Int) ≤ 9223372036854775807 := by omega
  have h9bI : (B.length : Int) ≤ 9223372036854775807 := by omega
  clear hq hfr hto hv hvb
  go_enter Tryz.func8, Tryz.ntmps8
  by_cases h40 : (40 : Int) < (A.length : Int)
  · go_wp2_with fail
    go_ret
    exact ⟨rfl, Below.refl _ _⟩
  by_cases h40b : (40 : Int) < (B.length : Int)
  · go_wp2_with fail
    go_ret
    exact ⟨rfl, Below.refl _ _⟩
  by_cases hij : (i : Int) = (j : Int)
  · go_wp2_with fail
    go_ret
    exact ⟨rfl, Below.refl _ _⟩
  have HC := Lib.hid (HPl.out (by omega))
  have Hla := Lib.hid (show A.length ≤ 40 by omega)
  have Hlb := Lib.hid (show B.length ≤ 40 by omega)
  clear HPl
  go_wp2_with fail
  refine HC.out.mono ?_
  rintro e w1 ⟨p, g, hb, lv, rfl, hW1, hb1⟩
  clear HC
  have hLets := runS_lets A A.length (Nat.le_refl _)
  have hI := run_inv HOkA.out A.length (Nat.le_refl _) (by have := Hla.out; omega)
  obtain ⟨N, hN⟩ : ∃ N : Int, (A.length : Int) = N := ⟨_, rfl⟩
  have hN40 : N ≤ 40 := by rw [← hN]; have := Hla.out; omega
  obtain ⟨s, hs⟩ : ∃ s, runS A A.length = s := ⟨_, rfl⟩
  rw [hs] at hW1 hI hLets
  have HI := Lib.hid (show SInv K4 N [] s by rw [← hN]; exact hI)
  have HN := Lib.hid hN40
  have HLets := Lib.hid (show s.lets.length ≤ 40 by have := Hla.out; omega)
  have HZw1 := Lib.hid hW1; have HEw1 := Lib.hid hb1
  clear hI hs hN hW1 hb1 hLets hN40
  go_wp2_with fail
  obtain ⟨s1A, e1A, s2A, e2A, s3A, e3A, y0, y1, y2, hMA⟩ := HZw1.out.maps.get i hi3
  obtain ⟨s1B, e1B, s2B, e2B, s3B, e3B, v0, -, -, hMB⟩ := HZw1.out.maps.get j hj3
  have x0 : w1.cell? ⟨p, 0, none⟩ = some (.slice (some ⟨g, 0, none⟩) 3 3) := HZw1.out.box.cell 0
  have pz : ∀ q x, w1.cell? q = some x → ∀ w', LaterT w1.heap.size 39 w1.drew w' → w'.cell? q = some x := fun q x hc w' hh => laterTC hc rfl hh
  have px0 := pz _ _ x0
  have py0 := pz _ _ y0
  have py1 := pz _ _ y1
  have py2 := pz _ _ y2
  have pv0 := pz _ _ v0
  have hOk := write_ok HI.out hi3 hj3 (HI.out.three.good j hj3).formed.knows (fun _ => Int.le_refl _)
  have hE1 := send_ok hOk (by decide)
  have hE2 := recv_ok HI.out hOk (.inl ⟨i, hi3, rfl⟩) (by decide)
  have hvm := msg_valid hOk (by decide)
  have hfrm : (⟨j, i, ((s).m j).seen, (s).m i⟩ : SLet).msg.frm = (i : Int) := rfl
  dsimp only at hE1
  obtain ⟨X, hX⟩ : ∃ X, (⟨j, i, ((s).m j).seen, (s).m i⟩ : SLet).msg = X := ⟨_, rfl⟩
  rw [hX] at hE1 hvm hfrm
  have HX := Lib.hid hX; have HOk := Lib.hid hOk; have HE2 := Lib.hid hE2; have Hfrm := Lib.hid hfrm
  have KA := Lib.hid (valid_keys ((HI.out.three.good i hi3).valid (by decide)))
  have KX := Lib.hid (valid_keys (svalid_tell hvm))
  obtain ⟨a, ha⟩ : ∃ a, (s).m i = a := ⟨_, rfl⟩
  obtain ⟨b, hb'⟩ : ∃ b, (s).m j = b := ⟨_, rfl⟩
  rw [ha, hb'] at hE1
  rw [ha] at hMA py0 py1 py2 KA
  rw [hb'] at hMB pv0
  have HE1 := Lib.hid hE1; have HMA := Lib.hid hMA; have HMB := Lib.hid hMB; have Ha := Lib.hid ha; have Hb' := Lib.hid hb'
  clear hE1 hE2 hvm hfrm hX hOk hMA hMB ha hb' y0 y1 y2 v0 x0 pz
  go_wp2_with fail
  skip
  refine wp_region_fl (LaterT w1.heap.size 39) (FreshT w1.heap.size 39 5) [24] ordG6 60 (by kernel_rfl) (by kernel_rfl) (laterT_refl _ _) (laterT_trans _ _) (floats_of #[.int .i64 0, .slice none 0 0, .slice none 0 0, .slice none 0 0, .slice none 0 0] rfl (Nat.le_refl _) (fun j hj => ?_) (fun i j hi hj hne => ?_)) ?_
  · obtain rfl : j = 24 := by simpa using hj
    exact ⟨_, rfl, rfl, fun a W => by go_simp⟩
  · simp at hi hj
    omega
  unfold ordG6
  repeat (refine canF_yes (v := ?_) rfl (wanted_none rfl) (fun w' hC => ?_) (fun K hK => ?_); rotate_left; (focus (go_simp; (try simp (disch := omega) only [IntWalk.i64_in]); (try simp (disch := omega) only [IntWalk.u32_in]); (try simp (disch := omega) only [IntWalk.u8_in]); (try simp (disch := omega) only [IntWalk.i64_quo]); (try simp (disch := omega) only [IntWalk.rem_in]); first | done | exact rfl)); go_simp; (try simp (disch := omega) only [IntWalk.i64_in]); (try simp (disch := omega) only [IntWalk.u32_in]); (try simp (disch := omega) only [IntWalk.u8_in]); (try simp (disch := omega) only [IntWalk.i64_quo]); (try simp (disch := omega) only [IntWalk.rem_in]); refine hK _ ?_; clear hK K)
  refine canF_go rfl rfl (fun Wa hWa KK hK => ?_)
  go_simp
  have hba : Below w1.heap.size w1 Wa := hWa.belD rfl
  have hwa : Below w.heap.size w Wa := HEw1.out.trans (hba.mono HEw1.out.size)
  have hU := send_any Wa (HTb.out _ hwa).1 (HTb.out _ hwa).2 _ _ (i : Int) (.agg #[.slice s1A a.seen.length e1A, .slice s2A a.items.length e2A, .slice s3A a.gone.length e3A]) a ⟨_, _, _, rfl, HMA.out.keep (w' := Wa) fun q _ hlt => hba.block q hlt⟩ KA.out.1 KA.out.2 (.slice s1B b.seen.length e1B) b.seen (HMB.out.keep (w' := Wa) fun q _ hlt => hba.block q hlt).seen
  rw [HE1.out] at hU
  have Hsz := Lib.hid hba.size
  refine hU.mono ?_
  rintro e wq7 ⟨⟨r1, rfl, ho, hbd⟩, hb7⟩
  refine ⟨_, rfl, LaterT.of_later hb7, hK _ _ ?_⟩
  clear hK KK hU px0 py0 py1 py2 pv0
  go_simp
  obtain ⟨t0, t1, t2, t3, rfl, ho⟩ := ho
  dsimp only at ho hbd
  obtain ⟨n0, m0, rfl⟩ := own_shape ho.seen
  obtain ⟨n1, m1, rfl⟩ := own_shape ho.tell.seen
  obtain ⟨n2, m2, rfl⟩ := own_shape ho.tell.items
  obtain ⟨n3, m3, rfl⟩ := own_shape ho.tell.gone
  have hb07 : Below w1.heap.size w1 wq7 := hba.trans (hb7.mono hba.size)
  have Hb07 := Lib.hid hb07; have Ho := Lib.hid ho; have Hbd := Lib.hid hbd
  clear hb07 ho hbd hb7 hwa hba hWa
  repeat (refine canF_yes (v := ?_) rfl (wanted_none rfl) (fun w' hC => ?_) (fun K hK => ?_); rotate_left; (focus (go_simp; (try simp (disch := omega) only [IntWalk.i64_in]); (try simp (disch := omega) only [IntWalk.u32_in]); (try simp (disch := omega) only [IntWalk.u8_in]); (try simp (disch := omega) only [IntWalk.i64_quo]); (try simp (disch := omega) only [IntWalk.rem_in]); first | done | exact rfl)); go_simp; (try simp (disch := omega) only [IntWalk.i64_in]); (try simp (disch := omega) only [IntWalk.u32_in]); (try simp (disch := omega) only [IntWalk.u8_in]); (try simp (disch := omega) only [IntWalk.i64_quo]); (try simp (disch := omega) only [IntWalk.rem_in]); refine hK _ ?_; clear hK K)
  refine canF_float rfl (fun vO Wd hWd hZ hU KK hK => ?_)
  obtain ⟨O5, LO, rfl, hO1, hO2, hO3⟩ := hZ
  refine hK _ _ ?_
  clear hK KK hU
  go_simp
  obtain ⟨x0, x1, x2, x3, x4, rfl⟩ : ∃ x0 x1 x2 x3 x4, LO = [x0, x1, x2, x3, x4] := by
    match LO, hO3 with
    | [x0, x1, x2, x3, x4], _ => exact ⟨x0, x1, x2, x3, x4, rfl⟩
  have hbd' : Below w1.heap.size w1 Wd := Hb07.out.trans (hWd.below Hb07.out.size)
  obtain ⟨w2, hw8, hblk8, hb8⟩ := fin5 hO2 hbd' hO1 (.int .i64 X.frm) (.slice n0 X.seen.length m0) (.slice n1 X.tell.seen.length m1) (.slice n2 X.tell.items.length m2) (.slice n3 X.tell.gone.length m3)
  have hl8 : LaterT w1.heap.size 39 Wd w2 := by
    rw [hw8]
    exact laterT_trans _ _ _ _ _ (laterT_trans _ _ _ _ _ (laterT_trans _ _ _ _ _ (laterT_trans _ _ _ _ _ (LaterT.set hO2 hO1 0 _) (LaterT.set (hO2.set 0 _) hO1 1 _)) (LaterT.set ((hO2.set 0 _).set 1 _) hO1 2 _)) (LaterT.set (((hO2.set 0 _).set 1 _).set 2 _) hO1 3 _)) (LaterT.set ((((hO2.set 0 _).set 1 _).set 2 _).set 3 _) hO1 4 _)
  have ho8 : OwnMsg w2 w1.heap.size (.slice n0 X.seen.length m0) (.slice n1 X.tell.seen.length m1) (.slice n2 X.tell.items.length m2) (.slice n3 X.tell.gone.length m3) X :=
    ⟨own_base (hl8.own (hWd.own Ho.out.seen (by decide)) (by decide)) Hsz.out, own_base (hl8.own (hWd.own Ho.out.tell.seen (by decide)) (by decide)) Hsz.out, own_base (hl8.own (hWd.own Ho.out.tell.items (by decide)) (by decide)) Hsz.out, own_base (hl8.own (hWd.own Ho.out.tell.gone (by decide)) (by decide)) Hsz.out⟩
  obtain ⟨y0, y1, y2, y3, y4⟩ := cell5 hO2
  have z0 := hO2.free 0
  have z1 := hO2.free 1
  have z2 := hO2.free 2
  have z3 := hO2.free 3
  have z4 := hO2.free 4
  have HOw2 := Lib.hid ho8; have HBkw2 := Lib.hid hblk8; have HBdw2 := Lib.hid Hbd.out; have HO1w2 := Lib.hid hO1
  have HBw2 := Lib.hid hb8; have Hl8 := Lib.hid hl8; have Hw8 := Lib.hid hw8
  clear hb8 hl8 hw8 hblk8 hbd' hWd hO2 hO3 Ho Hbd Hb07 ho8
  refine canF_fixed rfl rfl (fun KK hK => ?_)
  go_simp
  rw [← Hw8.out]
  refine ⟨Hl8.out, hK _ _ ?_⟩
  clear hK KK y0 y1 y2 y3 y4 z0 z1 z2 z3 z4 Hl8 Hw8 hO1
  go_simp
  repeat (refine canF_yes (v := ?_) rfl (wanted_none rfl) (fun w' hC => ?_) (fun K hK => ?_); rotate_left; (focus (go_simp; (try simp (disch := omega) only [IntWalk.i64_in]); (try simp (disch := omega) only [IntWalk.u32_in]); (try simp (disch := omega) only [IntWalk.u8_in]); (try simp (disch := omega) only [IntWalk.i64_quo]); (try simp (disch := omega) only [IntWalk.rem_in]); first | done | exact rfl)); go_simp; (try simp (disch := omega) only [IntWalk.i64_in]); (try simp (disch := omega) only [IntWalk.u32_in]); (try simp (disch := omega) only [IntWalk.u8_in]); (try simp (disch := omega) only [IntWalk.i64_quo]); (try simp (disch := omega) only [IntWalk.rem_in]); refine hK _ ?_; clear hK K)
  refine canF_nil ?_
  have HVw2 := Lib.hid (show MsgVar (Free p g hb lv w2) w2 O5 X from ⟨HZw1.out.fresh HO1w2.out HBkw2.out.lt, _, _, _, _, _, _, _, _, HBkw2.out, (HOw2.out.msg HBdw2.out).mono fun q hq hlt => HZw1.out.fresh (W' := w2) hq hlt⟩)
  have HZw2 := Lib.hid (HZw1.out.keep HBw2.out)
  have HEw2 := Lib.hid (show Below w.heap.size w w2 from HEw1.out.trans (HBw2.out.mono HEw1.out.size))
  clear HMA HMB HE1 KA
  -- it arrives
  obtain ⟨-, s0X, e0X, s1X, e1X, s2X, e2X, s3X, e3X, hBX, hMX⟩ := HVw2.out
  obtain ⟨c0, c1, c2, c3, c4⟩ := cell5 hBX
  rw [Hfrm.out] at c0
  have hgj := HI.out.three.good j hj3
  have hgi := HI.out.three.good i hi3
  have hAr : Calls Tryz.prog 30 #[.pointer (some ⟨p, 0, none⟩), .agg #[.int .i64 (j : Int), .int .i64 (i : Int), .slice s0X X.seen.length e0X, .slice s1X X.tell.seen.length e1X, .slice s2X X.tell.items.length e2X, .slice s3X X.tell.gone.length e3X]] w2 fun e w' =>
      e = .returned (.bool true) ∧ WAt w' w.heap.size p g hb lv (arriveS s ⟨j, i, (s.m j).seen, s.m i⟩) ∧ BF w.heap.size p g hb lv w2 lv w' :=
    arrive_any w2 (HTb.out _ HEw2.out).1 (HTb.out _ HEw2.out).2 w.heap.size p g hb lv s HZw2.out HEw2.out.size ⟨j, i, (s.m j).seen, s.m i⟩ hj3 hi3 _ _ _ _ (by rw [HX.out]; exact hMX) HE2.out (valid_keys (hgj.valid (by decide))) (by rw [HX.out]; exact KX.out) hgi.formed.len
  have HAr := Lib.hid hAr
  have hI2 := (HI.out.extra HOk.out (.inl ⟨i, hi3, rfl⟩)).arrive HOk.out (.inl ⟨i, hi3, rfl⟩)
  obtain ⟨l, hl⟩ : ∃ l, (⟨j, i, (s.m j).seen, s.m i⟩ : SLet) = l := ⟨_, rfl⟩
  have hld : l.dst = j := by rw [← hl]
  have hlf : l.full = s.m i := by rw [← hl]
  obtain ⟨s2, hs2⟩ : ∃ s2, arriveS s ⟨j, i, (s.m j).seen, s.m i⟩ = s2 := ⟨_, rfl⟩
  have hle : mergeM (s2.m j) l.full = s2.m j := by
    have e : s2.m j = mergeM (s.m j) (s.m i) := by rw [← hs2]; exact put_self
    rw [e, hlf]
    exact le_now hgj.formed hgi.formed
  have hls2 : s2.lets = s.lets := by rw [← hs2]; rfl
  rw [hs2] at HAr
  rw [hs2, hl] at hI2
  have hXl := HX.out
  rw [hl] at hXl
  have HI2 := Lib.hid hI2; have Hle := Lib.hid hle; have Hld := Lib.hid hld; have HXl := Lib.hid hXl; have HLF := Lib.hid (show Formed l.full by rw [hlf]; exact hgi.formed)
  have HLets2 := Lib.hid (show s2.lets.length ≤ 40 by rw [hls2]; exact HLets.out)
  clear hAr hI2 hl hld hlf hs2 hle hls2 hXl hBX hMX hgj hgi HX HOk HE2 Ha Hb'
  go_wp2_with fail
  refine HAr.out.mono ?_
  rintro e w3 ⟨rfl, hW3, hbf3⟩
  have HZw3 := Lib.hid hW3; have HVw3 := Lib.hid (HVw2.out.bf hbf3); have HEw3 := Lib.hid (HEw2.out.trans hbf3.bel)
  clear HAr hW3 hbf3 c0 c1 c2 c3 c4
  go_wp2_with fail
  obtain ⟨s1B, e1B, s2B, e2B, s3B, e3B, v0, v1, v2, hMB⟩ := HZw3.out.maps.get j hj3
  obtain ⟨-, s0X, e0X, s1X, e1X, s2X, e2X, s3X, e3X, hBX, hMX⟩ := HVw3.out
  obtain ⟨c0, c1, c2, c3, c4⟩ := cell5 hBX
  have x0 : w3.cell? ⟨p, 0, none⟩ = some (.slice (some ⟨g, 0, none⟩) 3 3) := HZw3.out.box.cell 0
  have pz : ∀ q x, w3.cell? q = some x → ∀ w', LaterT w3.heap.size 31 w3.drew w' → w'.cell? q = some x := fun q x hc w' hh => laterTC hc rfl hh
  have px0 := pz _ _ x0
  have pv0 := pz _ _ v0
  have pv1 := pz _ _ v1
  have pv2 := pz _ _ v2
  have pc0 := pz _ _ c0
  have pc1 := pz _ _ c1
  have pc2 := pz _ _ c2
  have pc3 := pz _ _ c3
  have pc4 := pz _ _ c4
  obtain ⟨b, hb'⟩ : ∃ b, (s2).m j = b := ⟨_, rfl⟩
  have hEq := (show recvR (s2.m j) X = (s2.m j, 0) by have h := recv_again HI2.out HXl.out (by rw [Hld.out]; exact Hle.out); rw [Hld.out] at h; exact h)
  rw [hb'] at hMB pv0 pv1 pv2
  have KB := Lib.hid (valid_keys ((HI2.out.three.good j hj3).valid (by decide)))
  rw [hb'] at KB hEq
  have HEq := Lib.hid hEq; have HMB := Lib.hid hMB; have HMX := Lib.hid hMX; have Hb' := Lib.hid hb'
  clear hEq hMB hMX hBX hb' v0 v1 v2 c0 c1 c2 c3 c4 x0 pz
  go_wp2_with fail
  skip
  refine wp_region_fl (LaterT w3.heap.size 31) (FreshT w3.heap.size 31 3) [13] ordG9 60 (by kernel_rfl) (by kernel_rfl) (laterT_refl _ _) (laterT_trans _ _) (floats_of #[.slice none 0 0, .slice none 0 0, .slice none 0 0] rfl (Nat.le_refl _) (fun j hj => ?_) (fun i j hi hj hne => ?_)) ?_
  · obtain rfl : j = 13 := by simpa using hj
    exact ⟨_, rfl, rfl, fun a W => by go_simp⟩
  · simp at hi hj
    omega
  unfold ordG9
  repeat (refine canF_yes (v := ?_) rfl (wanted_none rfl) (fun w' hC => ?_) (fun K hK => ?_); rotate_left; (focus (go_simp; (try simp (disch := omega) only [IntWalk.i64_in]); (try simp (disch := omega) only [IntWalk.u32_in]); (try simp (disch := omega) only [IntWalk.u8_in]); (try simp (disch := omega) only [IntWalk.i64_quo]); (try simp (disch := omega) only [IntWalk.rem_in]); first | done | exact rfl)); go_simp; (try simp (disch := omega) only [IntWalk.i64_in]); (try simp (disch := omega) only [IntWalk.u32_in]); (try simp (disch := omega) only [IntWalk.u8_in]); (try simp (disch := omega) only [IntWalk.i64_quo]); (try simp (disch := omega) only [IntWalk.rem_in]); refine hK _ ?_; clear hK K)
  refine canF_go rfl rfl (fun Wa hWa KK hK => ?_)
  go_simp
  have hba : Below w3.heap.size w3 Wa := hWa.belD rfl
  have hwa : Below w.heap.size w Wa := HEw3.out.trans (hba.mono HEw3.out.size)
  have hU := recv_any Wa (HTb.out _ hwa).1 (HTb.out _ hwa).2 _ _ (.agg #[.slice s1B b.seen.length e1B, .slice s2B b.items.length e2B, .slice s3B b.gone.length e3B]) b ⟨_, _, _, rfl, HMB.out.keep (w' := Wa) fun q _ hlt => hba.block q hlt⟩ KB.out.1 KB.out.2 (.agg #[.int .i64 X.frm, .slice s0X X.seen.length e0X, .slice s1X X.tell.seen.length e1X, .slice s2X X.tell.items.length e2X, .slice s3X X.tell.gone.length e3X]) X ⟨_, _, _, _, rfl, HMX.out.keep (w' := Wa) fun q _ hlt => hba.block q hlt⟩ KX.out.1 KX.out.2
  rw [HEq.out] at hU
  have Hsz := Lib.hid hba.size
  refine hU.mono ?_
  rintro e wq7 ⟨⟨r1, rfl, ho, hbd⟩, hb7⟩
  refine ⟨_, rfl, LaterT.of_later hb7, hK _ _ ?_⟩
  clear hK KK hU px0 pv0 pv1 pv2 pc0 pc1 pc2 pc3 pc4
  go_simp
  obtain ⟨t1, t2, t3, rfl, ho⟩ := ho
  dsimp only at ho hbd
  obtain ⟨n1, m1, rfl⟩ := own_shape ho.seen
  obtain ⟨n2, m2, rfl⟩ := own_shape ho.items
  obtain ⟨n3, m3, rfl⟩ := own_shape ho.gone
  have hb07 : Below w3.heap.size w3 wq7 := hba.trans (hb7.mono hba.size)
  have Hb07 := Lib.hid hb07; have Ho := Lib.hid ho; have Hbd := Lib.hid hbd
  clear hb07 ho hbd hb7 hwa hba hWa
  repeat (refine canF_yes (v := ?_) rfl (wanted_none rfl) (fun w' hC => ?_) (fun K hK => ?_); rotate_left; (focus (go_simp; (try simp (disch := omega) only [IntWalk.i64_in]); (try simp (disch := omega) only [IntWalk.u32_in]); (try simp (disch := omega) only [IntWalk.u8_in]); (try simp (disch := omega) only [IntWalk.i64_quo]); (try simp (disch := omega) only [IntWalk.rem_in]); first | done | exact rfl)); go_simp; (try simp (disch := omega) only [IntWalk.i64_in]); (try simp (disch := omega) only [IntWalk.u32_in]); (try simp (disch := omega) only [IntWalk.u8_in]); (try simp (disch := omega) only [IntWalk.i64_quo]); (try simp (disch := omega) only [IntWalk.rem_in]); refine hK _ ?_; clear hK K)
  refine canF_float rfl (fun vO Wd hWd hZ hU KK hK => ?_)
  obtain ⟨O6, LO, rfl, hO1, hO2, hO3⟩ := hZ
  refine hK _ _ ?_
  clear hK KK hU
  go_simp
  obtain ⟨x0, x1, x2, rfl⟩ : ∃ x0 x1 x2, LO = [x0, x1, x2] := by
    match LO, hO3 with
    | [x0, x1, x2], _ => exact ⟨x0, x1, x2, rfl⟩
  have hbd' : Below w3.heap.size w3 Wd := Hb07.out.trans (hWd.below Hb07.out.size)
  obtain ⟨w4, hw8, hblk8, hb8⟩ := fin3 hO2 hbd' hO1 (.slice n1 b.seen.length m1) (.slice n2 b.items.length m2) (.slice n3 b.gone.length m3)
  have hl8 : LaterT w3.heap.size 31 Wd w4 := by
    rw [hw8]
    exact laterT_trans _ _ _ _ _ (laterT_trans _ _ _ _ _ (LaterT.set hO2 hO1 0 _) (LaterT.set (hO2.set 0 _) hO1 1 _)) (LaterT.set ((hO2.set 0 _).set 1 _) hO1 2 _)
  have ho8 : OwnIn w4 w3.heap.size (.slice n1 b.seen.length m1) (.slice n2 b.items.length m2) (.slice n3 b.gone.length m3) b :=
    ⟨own_base (hl8.own (hWd.own Ho.out.seen (by decide)) (by decide)) Hsz.out, own_base (hl8.own (hWd.own Ho.out.items (by decide)) (by decide)) Hsz.out, own_base (hl8.own (hWd.own Ho.out.gone (by decide)) (by decide)) Hsz.out⟩
  have HO1w4 := Lib.hid hO1; have HOw4 := Lib.hid ho8; have HBkw4 := Lib.hid hblk8; have HBdw4 := Lib.hid Hbd.out
  obtain ⟨y0, y1, y2⟩ := cell3 hO2
  have z0 := hO2.free 0
  have z1 := hO2.free 1
  have z2 := hO2.free 2
  have HBw4 := Lib.hid hb8; have Hl8 := Lib.hid hl8; have Hw8 := Lib.hid hw8
  clear hb8 hl8 hw8 hblk8 hbd' hWd hO2 hO3 Ho Hbd Hb07 ho8
  refine canF_fixed rfl rfl (fun KK hK => ?_)
  go_simp
  rw [← Hw8.out]
  refine ⟨Hl8.out, hK _ _ ?_⟩
  clear hK KK y0 y1 y2 z0 z1 z2 Hl8 Hw8 hO1
  go_simp
  repeat (refine canF_yes (v := ?_) rfl (wanted_none rfl) (fun w' hC => ?_) (fun K hK => ?_); rotate_left; (focus (go_simp; (try simp (disch := omega) only [IntWalk.i64_in]); (try simp (disch := omega) only [IntWalk.u32_in]); (try simp (disch := omega) only [IntWalk.u8_in]); (try simp (disch := omega) only [IntWalk.i64_quo]); (try simp (disch := omega) only [IntWalk.rem_in]); first | done | exact rfl)); go_simp; (try simp (disch := omega) only [IntWalk.i64_in]); (try simp (disch := omega) only [IntWalk.u32_in]); (try simp (disch := omega) only [IntWalk.u8_in]); (try simp (disch := omega) only [IntWalk.i64_quo]); (try simp (disch := omega) only [IntWalk.rem_in]); refine hK _ ?_; clear hK K)
  refine canF_nil ?_
  have HMw4 := Lib.hid (show MapVar (Free p g hb lv w4) w4 O6 b from ⟨HZw3.out.fresh HO1w4.out HBkw4.out.lt, _, _, _, _, _, _, HBkw4.out, (HOw4.out.map HBdw4.out).mono fun q hq hlt => HZw3.out.fresh (W' := w4) hq hlt⟩)
  have HVw4 := Lib.hid (HVw3.out.keep HBw4.out)
  have HZw4 := Lib.hid (HZw3.out.keep HBw4.out)
  have HEw4 := Lib.hid (show Below w.heap.size w w4 from HEw3.out.trans (HBw4.out.mono HEw3.out.size))
  clear HMB HMX HEq
  obtain ⟨s1B, e1B, s2B, e2B, s3B, e3B, v0, v1, v2, hMB⟩ := HZw4.out.maps.get j hj3
  obtain ⟨-, s1A, e1A, s2A, e2A, s3A, e3A, hBA, hMA⟩ := HMw4.out
  obtain ⟨d0, d1, d2⟩ := cell3 hBA
  have x0 : w4.cell? ⟨p, 0, none⟩ = some (.slice (some ⟨g, 0, none⟩) 3 3) := HZw4.out.box.cell 0
  have pz : ∀ q x, w4.cell? q = some x → ∀ w', Later w4.drew w' → w'.cell? q = some x := fun q x hc w' hh => laterC hc hh
  have px0 := pz _ _ x0
  have pv0 := pz _ _ v0
  have pv1 := pz _ _ v1
  have pv2 := pz _ _ v2
  have pd0 := pz _ _ d0
  have pd1 := pz _ _ d1
  have pd2 := pz _ _ d2
  have hse := lenOk ((HI2.out.three.good j hj3).valid (by decide))
  rw [Hb'.out] at pv0 pv1 pv2 hMB hse
  have hE := equal_any w4.drew _ _ (.agg #[.slice s1A b.seen.length e1A, .slice s2A b.items.length e2A, .slice s3A b.gone.length e3A]) (.agg #[.slice s1B b.seen.length e1B, .slice s2B b.items.length e2B, .slice s3B b.gone.length e3B]) b b ⟨_, _, _, rfl, hMA.keep (w' := w4.drew) fun q _ _ => rfl⟩ ⟨_, _, _, rfl, hMB.keep (w' := w4.drew) fun q _ _ => rfl⟩ hse.1 hse.2.1 hse.2.2 hse.1 hse.2.1 hse.2.2
  have HE := Lib.hid hE
  clear hE hse hMA hMB hBA v0 v1 v2 d0 d1 d2 x0 pz
  go_wp2_with fail
  skip
  refine wp_region_can Later [(0, true), (1, true), (2, true), (3, true), (4, true), (5, true), (6, true), (7, true), (8, true), (9, true), (10, true), (11, true), (12, false), (13, true), (14, true)] (by kernel_rfl) (by kernel_rfl) later_refl later_trans ?_
  repeat (first
    | (refine can_yes (v := ?_) rfl (wanted_none rfl) (fun w' hC => ?_) (fun K hK => ?_); rotate_left; (focus (go_simp; first | done | exact rfl)); go_simp; refine hK _ ?_; clear hK K)
    | (refine can_guard rfl (fun A B hA hB => ?_); go_simp; first | (refine hA ⟨?_, fun w' hC => ?_, fun K hK => ?_⟩; rotate_left; (focus (go_simp; first | done | exact rfl)); go_simp; refine hK _ ?_; clear hK K hA hB A B) | (refine hB (fun K hK => ?_); go_simp; refine hK _ ?_; clear hK K hA hB A B))
    | (refine can_guard_go rfl (fun A B hA hB => ?_); go_simp; refine hB (fun K hK => ?_); go_simp; refine hK _ ?_; clear hK K hA hB A B))
  clear px0 pv0 pv1 pv2 pd0 pd1 pd2
  refine can_go rfl rfl (fun KK hK => ?_)
  go_simp
  refine HE.out.mono ?_
  rintro e w5 ⟨r, rfl, hr, hb9⟩
  obtain rfl : r = true := hr.2 rfl
  refine ⟨_, rfl, hb9, hK _ _ ?_⟩
  clear hK KK hr HE
  go_simp
  have hbn : Below w4.heap.size w4 w5 := (Below.refl w4.heap.size w4).drew.trans hb9
  have HEw5 := Lib.hid (show Below w.heap.size w w5 from HEw4.out.trans (hbn.mono HEw4.out.size))
  have HZw5 := Lib.hid (HZw4.out.keep hbn)
  have HVw5 := Lib.hid (HVw4.out.keep hbn)
  clear hb9 hbn
  repeat (first
    | (refine can_yes (v := ?_) rfl (wanted_none rfl) (fun w' hC => ?_) (fun K hK => ?_); rotate_left; (focus (go_simp; first | done | exact rfl)); go_simp; refine hK _ ?_; clear hK K)
    | (refine can_guard rfl (fun A B hA hB => ?_); go_simp; first | (refine hA ⟨?_, fun w' hC => ?_, fun K hK => ?_⟩; rotate_left; (focus (go_simp; first | done | exact rfl)); go_simp; refine hK _ ?_; clear hK K hA hB A B) | (refine hB (fun K hK => ?_); go_simp; refine hK _ ?_; clear hK K hA hB A B))
    | (refine can_guard_go rfl (fun A B hA hB => ?_); go_simp; refine hB (fun K hK => ?_); go_simp; refine hK _ ?_; clear hK K hA hB A B))
  refine can_nil ?_
  clear Hb'
  go_wp2_with fail
  obtain ⟨nb, hnb⟩ : ∃ nb, B.length = nb := ⟨_, rfl⟩
  have Hnb := Lib.hid hnb
  rw [hnb] at h9b h9bI h40b ⊢
  clear hnb
  have HZ5 := Lib.hid HZw5.out
  go_loopw [14] (fun q wr => ∃ k : Nat, k ≤ nb ∧ q = .int .i64 (k : Int) ∧ (∃ lv', WAt wr w.heap.size p g hb lv' (runB s2 B k) ∧ MsgVar (Free p g hb lv' wr) wr O5 X) ∧ Below w.heap.size w wr) (fun q _ => nb - (intOf q).toNat)
  case atStart => exact ⟨0, by omega, rfl, ⟨lv, HZw5.out, HVw5.out⟩, HEw5.out⟩
  case round =>
    rename World => wr
    obtain ⟨k, hk, rfl, ⟨lv', hW, hV⟩, hbw⟩ := hrel
    obtain ⟨hinv, hleK⟩ := runB_inv HOkB.out HI2.out (by have := HN.out; omega) HLF.out Hle.out k (by rw [Hnb.out]; exact hk) (by have := Hlb.out; have := Hnb.out; omega)
    by_cases hkn : k < nb
    · have hkI : (k : Int) < (nb : Int) := by omega
      have hkA : k < B.length := by rw [Hnb.out]; exact hkn
      obtain ⟨bA, oA, cA, x, c, ea, hax, c0, c1, c2, c3, c4, hB⟩ := (HBk.out wr hbw).get hkA
      rw [Hnb.out] at ea
      simp at ea
      obtain ⟨rfl, rfl⟩ := ea
      have hl := runB_lets s2 B k (by omega)
      have HC := Lib.hid (act_any wr (HTb.out _ hbw).1 (HTb.out _ hbw).2 w.heap.size p g hb lv' (runB s2 B k) (N + k) [l] hW hbw.size hinv (by have := HN.out; have := Hlb.out; omega) (by have := HLets2.out; have := Hlb.out; omega) B[k] hax x c hB)
      obtain ⟨D, hBk⟩ : ∃ D, B[k] = D := ⟨_, rfl⟩
      rw [hBk] at HC c0 c1 c2 c3 c4
      have HBk' := Lib.hid (show stepS (runB s2 B k) D = runB s2 B (k + 1) by rw [← hBk]; exact (runB_succ s2 B k hkA).symm)
      have Hbw := Lib.hid hbw; have HV := Lib.hid hV
      clear hW hbw hax hB hinv hl hBk hkA hV hleK
      go_wp2_with fail
      refine HC.out.mono ?_
      rintro e w6 ⟨rfl, lv2, hW6, hb6⟩
      rw [HBk'.out] at hW6
      have HW6 := Lib.hid hW6; have HB6 := Lib.hid (Hbw.out.trans hb6.bel); have HV6 := Lib.hid (HV.out.bf hb6)
      clear HC hW6 hb6 c0 c1 c2 c3 c4
      go_wp2_with fail
      go_roundw
      case rel => exact ⟨k + 1, by omega, by go_num, ⟨lv2, HW6.out, HV6.out⟩, HB6.out⟩
      case measure => first | (simp [intOf]; done) | (simp [intOf]; omega)
    · have hkI : ¬ (k : Int) < (nb : Int) := by omega
      obtain rfl : k = nb := by omega
      obtain ⟨w7, hw7⟩ : ∃ q, q = wr := ⟨_, rfl⟩
      rw [← hw7] at hW hV hbw ⊢
      clear hw7
      obtain ⟨s3, hs3⟩ : ∃ s3, runB s2 B k = s3 := ⟨_, rfl⟩
      rw [hs3] at hW hinv hleK
      have HI3 := Lib.hid hinv; have Hle3 := Lib.hid hleK; have HZw7 := Lib.hid hW; have HVw7 := Lib.hid hV; have HEw7 := Lib.hid hbw
      clear hW hV hbw hinv hleK hs3
      go_wp2_with fail
      obtain ⟨s1B, e1B, s2B, e2B, s3B, e3B, v0, v1, v2, hMB⟩ := HZw7.out.maps.get j hj3
      obtain ⟨-, s0X, e0X, s1X, e1X, s2X, e2X, s3X, e3X, hBX, hMX⟩ := HVw7.out
      obtain ⟨c0, c1, c2, c3, c4⟩ := cell5 hBX
      have x0 : w7.cell? ⟨p, 0, none⟩ = some (.slice (some ⟨g, 0, none⟩) 3 3) := HZw7.out.box.cell 0
      have pz : ∀ q x, w7.cell? q = some x → ∀ w', LaterT w7.heap.size 31 w7.drew w' → w'.cell? q = some x := fun q x hc w' hh => laterTC hc rfl hh
      have px0 := pz _ _ x0
      have pv0 := pz _ _ v0
      have pv1 := pz _ _ v1
      have pv2 := pz _ _ v2
      have pc0 := pz _ _ c0
      have pc1 := pz _ _ c1
      have pc2 := pz _ _ c2
      have pc3 := pz _ _ c3
      have pc4 := pz _ _ c4
      obtain ⟨b, hb'⟩ : ∃ b, (s3).m j = b := ⟨_, rfl⟩
      have hEq := (show recvR (s3.m j) X = (s3.m j, 0) by have h := recv_again HI3.out HXl.out (by rw [Hld.out]; exact Hle3.out); rw [Hld.out] at h; exact h)
      rw [hb'] at hMB pv0 pv1 pv2
      have KB := Lib.hid (valid_keys ((HI3.out.three.good j hj3).valid (by decide)))
      rw [hb'] at KB hEq
      have HEq := Lib.hid hEq; have HMB := Lib.hid hMB; have HMX := Lib.hid hMX; have Hb' := Lib.hid hb'
      clear hEq hMB hMX hBX hb' v0 v1 v2 c0 c1 c2 c3 c4 x0 pz
      go_wp2_with fail
      skip
      refine wp_region_fl (LaterT w7.heap.size 31) (FreshT w7.heap.size 31 3) [13] ordG9 60 (by kernel_rfl) (by kernel_rfl) (laterT_refl _ _) (laterT_trans _ _) (floats_of #[.slice none 0 0, .slice none 0 0, .slice none 0 0] rfl (Nat.le_refl _) (fun j hj => ?_) (fun i j hi hj hne => ?_)) ?_
      · obtain rfl : j = 13 := by simpa using hj
        exact ⟨_, rfl, rfl, fun a W => by go_simp⟩
      · simp at hi hj
        omega
      unfold ordG9
      repeat (refine canF_yes (v := ?_) rfl (wanted_none rfl) (fun w' hC => ?_) (fun K hK => ?_); rotate_left; (focus (go_simp; (try simp (disch := omega) only [IntWalk.i64_in]); (try simp (disch := omega) only [IntWalk.u32_in]); (try simp (disch := omega) only [IntWalk.u8_in]); (try simp (disch := omega) only [IntWalk.i64_quo]); (try simp (disch := omega) only [IntWalk.rem_in]); first | done | exact rfl)); go_simp; (try simp (disch := omega) only [IntWalk.i64_in]); (try simp (disch := omega) only [IntWalk.u32_in]); (try simp (disch := omega) only [IntWalk.u8_in]); (try simp (disch := omega) only [IntWalk.i64_quo]); (try simp (disch := omega) only [IntWalk.rem_in]); refine hK _ ?_; clear hK K)
      refine canF_go rfl rfl (fun Wa hWa KK hK => ?_)
      go_simp
      have hba : Below w7.heap.size w7 Wa := hWa.belD rfl
      have hwa : Below w.heap.size w Wa := HEw7.out.trans (hba.mono HEw7.out.size)
      have hU := recv_any Wa (HTb.out _ hwa).1 (HTb.out _ hwa).2 _ _ (.agg #[.slice s1B b.seen.length e1B, .slice s2B b.items.length e2B, .slice s3B b.gone.length e3B]) b ⟨_, _, _, rfl, HMB.out.keep (w' := Wa) fun q _ hlt => hba.block q hlt⟩ KB.out.1 KB.out.2 (.agg #[.int .i64 X.frm, .slice s0X X.seen.length e0X, .slice s1X X.tell.seen.length e1X, .slice s2X X.tell.items.length e2X, .slice s3X X.tell.gone.length e3X]) X ⟨_, _, _, _, rfl, HMX.out.keep (w' := Wa) fun q _ hlt => hba.block q hlt⟩ KX.out.1 KX.out.2
      rw [HEq.out] at hU
      have Hsz := Lib.hid hba.size
      refine hU.mono ?_
      rintro e wq7 ⟨⟨r1, rfl, ho, hbd⟩, hb7⟩
      refine ⟨_, rfl, LaterT.of_later hb7, hK _ _ ?_⟩
      clear hK KK hU px0 pv0 pv1 pv2 pc0 pc1 pc2 pc3 pc4
      go_simp
      obtain ⟨t1, t2, t3, rfl, ho⟩ := ho
      dsimp only at ho hbd
      obtain ⟨n1, m1, rfl⟩ := own_shape ho.seen
      obtain ⟨n2, m2, rfl⟩ := own_shape ho.items
      obtain ⟨n3, m3, rfl⟩ := own_shape ho.gone
      have hb07 : Below w7.heap.size w7 wq7 := hba.trans (hb7.mono hba.size)
      have Hb07 := Lib.hid hb07; have Ho := Lib.hid ho; have Hbd := Lib.hid hbd
      clear hb07 ho hbd hb7 hwa hba hWa
      repeat (refine canF_yes (v := ?_) rfl (wanted_none rfl) (fun w' hC => ?_) (fun K hK => ?_); rotate_left; (focus (go_simp; (try simp (disch := omega) only [IntWalk.i64_in]); (try simp (disch := omega) only [IntWalk.u32_in]); (try simp (disch := omega) only [IntWalk.u8_in]); (try simp (disch := omega) only [IntWalk.i64_quo]); (try simp (disch := omega) only [IntWalk.rem_in]); first | done | exact rfl)); go_simp; (try simp (disch := omega) only [IntWalk.i64_in]); (try simp (disch := omega) only [IntWalk.u32_in]); (try simp (disch := omega) only [IntWalk.u8_in]); (try simp (disch := omega) only [IntWalk.i64_quo]); (try simp (disch := omega) only [IntWalk.rem_in]); refine hK _ ?_; clear hK K)
      refine canF_float rfl (fun vO Wd hWd hZ hU KK hK => ?_)
      obtain ⟨O7, LO, rfl, hO1, hO2, hO3⟩ := hZ
      refine hK _ _ ?_
      clear hK KK hU
      go_simp
      obtain ⟨x0, x1, x2, rfl⟩ : ∃ x0 x1 x2, LO = [x0, x1, x2] := by
        match LO, hO3 with
        | [x0, x1, x2], _ => exact ⟨x0, x1, x2, rfl⟩
      have hbd' : Below w7.heap.size w7 Wd := Hb07.out.trans (hWd.below Hb07.out.size)
      obtain ⟨w8, hw8, hblk8, hb8⟩ := fin3 hO2 hbd' hO1 (.slice n1 b.seen.length m1) (.slice n2 b.items.length m2) (.slice n3 b.gone.length m3)
      have hl8 : LaterT w7.heap.size 31 Wd w8 := by
        rw [hw8]
        exact laterT_trans _ _ _ _ _ (laterT_trans _ _ _ _ _ (LaterT.set hO2 hO1 0 _) (LaterT.set (hO2.set 0 _) hO1 1 _)) (LaterT.set ((hO2.set 0 _).set 1 _) hO1 2 _)
      have ho8 : OwnIn w8 w7.heap.size (.slice n1 b.seen.length m1) (.slice n2 b.items.length m2) (.slice n3 b.gone.length m3) b :=
        ⟨own_base (hl8.own (hWd.own Ho.out.seen (by decide)) (by decide)) Hsz.out, own_base (hl8.own (hWd.own Ho.out.items (by decide)) (by decide)) Hsz.out, own_base (hl8.own (hWd.own Ho.out.gone (by decide)) (by decide)) Hsz.out⟩
      have HO1w8 := Lib.hid hO1; have HOw8 := Lib.hid ho8; have HBkw8 := Lib.hid hblk8; have HBdw8 := Lib.hid Hbd.out
      obtain ⟨y0, y1, y2⟩ := cell3 hO2
      have z0 := hO2.free 0
      have z1 := hO2.free 1
      have z2 := hO2.free 2
      have HBw8 := Lib.hid hb8; have Hl8 := Lib.hid hl8; have Hw8 := Lib.hid hw8
      clear hb8 hl8 hw8 hblk8 hbd' hWd hO2 hO3 Ho Hbd Hb07 ho8
      refine canF_fixed rfl rfl (fun KK hK => ?_)
      go_simp
      rw [← Hw8.out]
      refine ⟨Hl8.out, hK _ _ ?_⟩
      clear hK KK y0 y1 y2 z0 z1 z2 Hl8 Hw8 hO1
      go_simp
      repeat (refine canF_yes (v := ?_) rfl (wanted_none rfl) (fun w' hC => ?_) (fun K hK => ?_); rotate_left; (focus (go_simp; (try simp (disch := omega) only [IntWalk.i64_in]); (try simp (disch := omega) only [IntWalk.u32_in]); (try simp (disch := omega) only [IntWalk.u8_in]); (try simp (disch := omega) only [IntWalk.i64_quo]); (try simp (disch := omega) only [IntWalk.rem_in]); first | done | exact rfl)); go_simp; (try simp (disch := omega) only [IntWalk.i64_in]); (try simp (disch := omega) only [IntWalk.u32_in]); (try simp (disch := omega) only [IntWalk.u8_in]); (try simp (disch := omega) only [IntWalk.i64_quo]); (try simp (disch := omega) only [IntWalk.rem_in]); refine hK _ ?_; clear hK K)
      refine canF_nil ?_
      have HMw8 := Lib.hid (show MapVar (Free p g hb lv' w8) w8 O7 b from ⟨HZw7.out.fresh HO1w8.out HBkw8.out.lt, _, _, _, _, _, _, HBkw8.out, (HOw8.out.map HBdw8.out).mono fun q hq hlt => HZw7.out.fresh (W' := w8) hq hlt⟩)
      have HVw8 := Lib.hid (HVw7.out.keep HBw8.out)
      have HZw8 := Lib.hid (HZw7.out.keep HBw8.out)
      have HEw8 := Lib.hid (show Below w.heap.size w w8 from HEw7.out.trans (HBw8.out.mono HEw7.out.size))
      clear HMB HMX HEq
      obtain ⟨s1B, e1B, s2B, e2B, s3B, e3B, v0, v1, v2, hMB⟩ := HZw8.out.maps.get j hj3
      obtain ⟨-, s1A, e1A, s2A, e2A, s3A, e3A, hBA, hMA⟩ := HMw8.out
      obtain ⟨d0, d1, d2⟩ := cell3 hBA
      have x0 : w8.cell? ⟨p, 0, none⟩ = some (.slice (some ⟨g, 0, none⟩) 3 3) := HZw8.out.box.cell 0
      have pz : ∀ q x, w8.cell? q = some x → ∀ w', Later w8.drew w' → w'.cell? q = some x := fun q x hc w' hh => laterC hc hh
      have px0 := pz _ _ x0
      have pv0 := pz _ _ v0
      have pv1 := pz _ _ v1
      have pv2 := pz _ _ v2
      have pd0 := pz _ _ d0
      have pd1 := pz _ _ d1
      have pd2 := pz _ _ d2
      have hse := lenOk ((HI3.out.three.good j hj3).valid (by decide))
      rw [Hb'.out] at pv0 pv1 pv2 hMB hse
      have hE := equal_any w8.drew _ _ (.agg #[.slice s1A b.seen.length e1A, .slice s2A b.items.length e2A, .slice s3A b.gone.length e3A]) (.agg #[.slice s1B b.seen.length e1B, .slice s2B b.items.length e2B, .slice s3B b.gone.length e3B]) b b ⟨_, _, _, rfl, hMA.keep (w' := w8.drew) fun q _ _ => rfl⟩ ⟨_, _, _, rfl, hMB.keep (w' := w8.drew) fun q _ _ => rfl⟩ hse.1 hse.2.1 hse.2.2 hse.1 hse.2.1 hse.2.2
      have HE := Lib.hid hE
      clear hE hse hMA hMB hBA v0 v1 v2 d0 d1 d2 x0 pz
      go_wp2_with fail
      skip
      refine wp_region_can Later [(0, true), (1, true), (2, true), (3, true), (4, true), (5, true), (6, true), (7, true), (8, true), (9, true), (10, true), (11, true), (12, false), (13, true), (14, true), (15, false), (16, true), (17, true)] (by kernel_rfl) (by kernel_rfl) later_refl later_trans ?_
      repeat (first
        | (refine can_yes (v := ?_) rfl (wanted_none rfl) (fun w' hC => ?_) (fun K hK => ?_); rotate_left; (focus (go_simp; first | done | exact rfl)); go_simp; refine hK _ ?_; clear hK K)
        | (refine can_guard rfl (fun A B hA hB => ?_); go_simp; first | (refine hA ⟨?_, fun w' hC => ?_, fun K hK => ?_⟩; rotate_left; (focus (go_simp; first | done | exact rfl)); go_simp; refine hK _ ?_; clear hK K hA hB A B) | (refine hB (fun K hK => ?_); go_simp; refine hK _ ?_; clear hK K hA hB A B))
        | (refine can_guard_go rfl (fun A B hA hB => ?_); go_simp; refine hB (fun K hK => ?_); go_simp; refine hK _ ?_; clear hK K hA hB A B))
      clear px0 pv0 pv1 pv2 pd0 pd1 pd2
      refine can_go rfl rfl (fun KK hK => ?_)
      go_simp
      refine HE.out.mono ?_
      rintro e w9 ⟨r, rfl, hr, hb9⟩
      obtain rfl : r = true := hr.2 rfl
      refine ⟨_, rfl, hb9, hK _ _ ?_⟩
      clear hK KK hr HE
      go_simp
      have hbn : Below w8.heap.size w8 w9 := (Below.refl w8.heap.size w8).drew.trans hb9
      have HEw9 := Lib.hid (show Below w.heap.size w w9 from HEw8.out.trans (hbn.mono HEw8.out.size))
      have HZw9 := Lib.hid (HZw8.out.keep hbn)
      skip
      clear hb9 hbn
      repeat (first
        | (refine can_yes (v := ?_) rfl (wanted_none rfl) (fun w' hC => ?_) (fun K hK => ?_); rotate_left; (focus (go_simp; first | done | exact rfl)); go_simp; refine hK _ ?_; clear hK K)
        | (refine can_guard rfl (fun A B hA hB => ?_); go_simp; first | (refine hA ⟨?_, fun w' hC => ?_, fun K hK => ?_⟩; rotate_left; (focus (go_simp; first | done | exact rfl)); go_simp; refine hK _ ?_; clear hK K hA hB A B) | (refine hB (fun K hK => ?_); go_simp; refine hK _ ?_; clear hK K hA hB A B))
        | (refine can_guard_go rfl (fun A B hA hB => ?_); go_simp; refine hB (fun K hK => ?_); go_simp; refine hK _ ?_; clear hK K hA hB A B))
      refine can_go rfl rfl (fun KK hK => ?_)
      go_simp
      refine (works_any w9 (HTb.out _ HEw9.out).1 (HTb.out _ HEw9.out).2).mono ?_
      rintro e w10 ⟨rfl, hb10⟩
      refine ⟨_, rfl, hb10, hK _ _ ?_⟩
      clear hK KK
      have HEw10 := Lib.hid (HEw9.out.trans (hb10.mono HEw9.out.size))
      clear hb10
      go_simp
      repeat (first
        | (refine can_yes (v := ?_) rfl (wanted_none rfl) (fun w' hC => ?_) (fun K hK => ?_); rotate_left; (focus (go_simp; first | done | exact rfl)); go_simp; refine hK _ ?_; clear hK K)
        | (refine can_guard rfl (fun A B hA hB => ?_); go_simp; first | (refine hA ⟨?_, fun w' hC => ?_, fun K hK => ?_⟩; rotate_left; (focus (go_simp; first | done | exact rfl)); go_simp; refine hK _ ?_; clear hK K hA hB A B) | (refine hB (fun K hK => ?_); go_simp; refine hK _ ?_; clear hK K hA hB A B))
        | (refine can_guard_go rfl (fun A B hA hB => ?_); go_simp; refine hB (fun K hK => ?_); go_simp; refine hK _ ?_; clear hK K hA hB A B))
      refine can_nil ?_
      go_wp2_with fail
      go_ret
      exact ⟨rfl, HEw10.out⟩
end Go.Proofs.YtelphnigdancpaaGreatDoor
