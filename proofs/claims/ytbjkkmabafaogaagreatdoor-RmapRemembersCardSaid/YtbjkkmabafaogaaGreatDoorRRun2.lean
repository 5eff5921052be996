/- run: what happens to the copies of three devices. -/
import Derived.Test.YtbjkkmabafaogaaGreatDoorRRun
import Derived.Test.YtbjkkmabafaogaaGreatDoorRegionP
namespace Go.Proofs.YtbjkkmabafaogaaGreatDoor
open Go.RowKit Go.Lib
set_option linter.unusedVariables false
set_option maxRecDepth 20000
attribute [local go_sem ↓] seal_append
attribute [local go_sem] opC upC

/-! what becomes of three copies -/
def devN (x : RAct) : Nat := (x.dev.tmod 3).toNat
def frmN (x : RAct) : Nat := (x.frm.tmod 3).toNat
def stepM (m : Nat → RMap) (x : RAct) : Nat → RMap :=
  if x.kind.tmod 4 = 2 then putM m (devN x) (forgetM (m (devN x)) (devN x) (namedN x.keys))
  else if x.kind.tmod 4 = 3 then putM m (devN x) (mergeM (m (devN x)) (m (frmN x)))
  else putM m (devN x) (useM (m (devN x)) (devN x) (namedN x.keys))
def runK (A : List RAct) (k : Nat) : Nat → RMap := (A.take k).foldl stepM (fun _ => RMap.new)
theorem runK_succ (A : List RAct) (k : Nat) (h : k < A.length) : runK A (k + 1) = stepM (runK A k) A[k] := by
  unfold runK
  rw [List.take_succ_eq_append_getElem h, List.foldl_append]
  rfl
def ActR (x : RAct) : Prop := (0 ≤ x.kind ∧ x.kind ≤ 255) ∧ (0 ≤ x.dev ∧ x.dev ≤ 255) ∧ (0 ≤ x.frm ∧ x.frm ≤ 255)
theorem devN_lt {x : RAct} (h : ActR x) : devN x < 3 ∧ x.dev.tmod 3 = (devN x : Int) := by
  obtain ⟨-, ⟨h1, h2⟩, -⟩ := h
  unfold devN
  have : x.dev.tmod 3 = x.dev % 3 := Int.tmod_eq_emod_of_nonneg h1
  rw [this]
  omega
theorem frmN_lt {x : RAct} (h : ActR x) : frmN x < 3 ∧ x.frm.tmod 3 = (frmN x : Int) := by
  obtain ⟨-, -, h1, h2⟩ := h
  unfold frmN
  have : x.frm.tmod 3 = x.frm % 3 := Int.tmod_eq_emod_of_nonneg h1
  rw [this]
  omega
theorem kind4 {x : RAct} (h : ActR x) : x.kind.tmod 4 = 0 ∨ x.kind.tmod 4 = 1 ∨ x.kind.tmod 4 = 2 ∨ x.kind.tmod 4 = 3 := by
  obtain ⟨⟨h1, h2⟩, -⟩ := h
  have : x.kind.tmod 4 = x.kind % 4 := Int.tmod_eq_emod_of_nonneg h1
  rw [this]
  omega
theorem Three.mono {K : List RKey} {N N' : Int} {m : Nat → RMap} (h : Three K N m) (hN : N ≤ N') : Three K N' m := ⟨fun i hi => (h.good i hi).mono hN, h.own⟩
theorem step_three {N : Int} {m : Nat → RMap} (h : Three K5 N m) {x : RAct} (hx : ActR x) (hN : N < 1099511627776) : Three K5 (N + 1) (stepM m x) := by
  have hd := (devN_lt hx).1
  unfold stepM
  split
  · exact h.forget hd (named_allowed (by omega) (by omega) _) hN
  · split
    · exact (h.merge hd (frmN_lt hx).1).mono (by omega)
    · exact h.use hd (named_allowed (by omega) (by omega) _) (named_good _).2 hN
theorem run_three {A : List RAct} (hA : ∀ x ∈ A, ActR x) : ∀ k : Nat, k ≤ A.length → k ≤ 1000 → Three K5 k (runK A k)
  | 0, _, _ => Three.new K5
  | k + 1, hk, hk2 => by
    rw [runK_succ A k (by omega)]
    exact step_three (run_three hA k (by omega) (by omega)) (hA _ (List.getElem_mem _)) (by omega)

/-! three maps in memory -/
def M3 (W : World) (g : Nat) (m : Nat → RMap) : Prop := ∃ c : Nat → Value, Blk W g [c 0, c 1, c 2, c 3, c 4, c 5, c 6, c 7, c 8] 31 ∧
  ∀ i, i < 3 → ∃ s1 e1 s2 e2 s3 e3, c (i * 3) = .slice s1 (m i).seen.length e1 ∧ c (i * 3 + 1) = .slice s2 (m i).items.length e2 ∧ c (i * 3 + 2) = .slice s3 (m i).gone.length e3 ∧ MapIn (fun q => q < W.heap.size ∧ q ≠ g) W (.slice s1 (m i).seen.length e1) (.slice s2 (m i).items.length e2) (.slice s3 (m i).gone.length e3) (m i)
theorem M3.lt {W : World} {g : Nat} {m : Nat → RMap} (h : M3 W g m) : g < W.heap.size := by
  obtain ⟨c, h, -⟩ := h
  exact h.lt
theorem M3.keep {W W' : World} {g : Nat} {m : Nat → RMap} (h : M3 W g m) (hb : Below W.heap.size W W') : M3 W' g m := by
  obtain ⟨c, h1, h2⟩ := h
  refine ⟨c, h1.keep (hb.block _ h1.lt), fun i hi => ?_⟩
  obtain ⟨s1, e1, s2, e2, s3, e3, k1, k2, k3, hM⟩ := h2 i hi
  exact ⟨s1, e1, s2, e2, s3, e3, k1, k2, k3, (hM.keep (w' := W') fun q hq _ => hb.block q hq.1).mono fun q hq _ => ⟨Nat.lt_of_lt_of_le hq.1 hb.size, hq.2⟩⟩
theorem c9 (c : Nat → Value) : ∀ j, j < 9 → [c 0, c 1, c 2, c 3, c 4, c 5, c 6, c 7, c 8][j]? = some (c j)
  | 0, _ => rfl | 1, _ => rfl | 2, _ => rfl | 3, _ => rfl | 4, _ => rfl | 5, _ => rfl | 6, _ => rfl | 7, _ => rfl | 8, _ => rfl
  | j + 9, h => by omega
theorem M3.get {W : World} {g : Nat} {m : Nat → RMap} (h : M3 W g m) (i : Nat) (hi : i < 3) : ∃ s1 e1 s2 e2 s3 e3, W.cell? ⟨g, i * 3, none⟩ = some (.slice s1 (m i).seen.length e1) ∧ W.cell? ⟨g, i * 3 + 1, none⟩ = some (.slice s2 (m i).items.length e2) ∧ W.cell? ⟨g, i * 3 + 2, none⟩ = some (.slice s3 (m i).gone.length e3) ∧
    MapIn (fun q => q < W.heap.size ∧ q ≠ g) W (.slice s1 (m i).seen.length e1) (.slice s2 (m i).items.length e2) (.slice s3 (m i).gone.length e3) (m i) := by
  obtain ⟨c, h1, h2⟩ := h
  obtain ⟨s1, e1, s2, e2, s3, e3, k1, k2, k3, hM⟩ := h2 i hi
  exact ⟨s1, e1, s2, e2, s3, e3, by rw [h1.cell, c9 c _ (by omega), k1], by rw [h1.cell, c9 c _ (by omega), k2], by rw [h1.cell, c9 c _ (by omega), k3], hM⟩
theorem M3.free {W : World} {g : Nat} {m : Nat → RMap} (h : M3 W g m) (j : Nat) : W.frozen? ⟨g, j, none⟩ = false := by
  obtain ⟨c, h1, -⟩ := h
  exact h1.free j
theorem M3.set {W W' : World} {g : Nat} {m : Nat → RMap} (h : M3 W g m) {d : Nat} (hd : d < 3) {x : RMap} {s1 s2 s3 : Option Addr} {e1 e2 e3 : Nat} {base : Nat}
    (ho : OwnIn W base (.slice s1 x.seen.length e1) (.slice s2 x.items.length e2) (.slice s3 x.gone.length e3) x) (hx : Bnd x) (hg : g < base)
    (hW : W' = ((W.setCell ⟨g, d * 3, none⟩ (.slice s1 x.seen.length e1)).setCell ⟨g, d * 3 + 1, none⟩ (.slice s2 x.items.length e2)).setCell ⟨g, d * 3 + 2, none⟩ (.slice s3 x.gone.length e3)) : M3 W' g (putM m d x) := by
  obtain ⟨c, h1, h2⟩ := h
  have k1 := h1.set (d * 3) (.slice s1 x.seen.length e1)
  have k2 := k1.set (d * 3 + 1) (.slice s2 x.items.length e2)
  have k3 := k2.set (d * 3 + 2) (.slice s3 x.gone.length e3)
  rw [← hW] at k3
  have ho' : OwnIn W' base (.slice s1 x.seen.length e1) (.slice s2 x.items.length e2) (.slice s3 x.gone.length e3) x := by
    rw [hW]
    exact ((ho.setCell h1 _).setCell k1 _).setCell k2 _
  have hz : W'.heap.size = W.heap.size := by rw [hW]; simp [World.setCell]
  have hm := (ho'.map hx).mono (G := fun q => q < W'.heap.size ∧ q ≠ g) fun q hq hlt => ⟨hlt, by omega⟩
  have hoth : ∀ i, i < 3 → ∀ u1 u2 u3 y, MapIn (fun q => q < W.heap.size ∧ q ≠ g) W u1 u2 u3 y → MapIn (fun q => q < W'.heap.size ∧ q ≠ g) W' u1 u2 u3 y := fun i hi u1 u2 u3 y hM => by
    rw [hz]
    refine hM.keep (w' := W') fun q hq _ => ?_
    rw [hW]
    exact (Below.heap_setCell _ _ _ _ hq.2).trans ((Below.heap_setCell _ _ _ _ hq.2).trans (Below.heap_setCell _ _ _ _ hq.2))
  refine ⟨fun j => if j = d * 3 then .slice s1 x.seen.length e1 else if j = d * 3 + 1 then .slice s2 x.items.length e2 else if j = d * 3 + 2 then .slice s3 x.gone.length e3 else c j, ?_, fun i hi => ?_⟩
  · have h3 : d = 0 ∨ d = 1 ∨ d = 2 := by omega
    rcases h3 with rfl | rfl | rfl
    · exact k3
    · exact k3
    · exact k3
  · by_cases e : i = d
    · subst e
      refine ⟨s1, e1, s2, e2, s3, e3, ?_, ?_, ?_, ?_⟩
      · simp [putM]
      · simp [putM]
      · simp [putM]
      · simp only [putM, if_pos]; exact hm
    · obtain ⟨u1, f1, u2, f2, u3, f3, q1, q2, q3, hM⟩ := h2 i hi
      refine ⟨u1, f1, u2, f2, u3, f3, ?_, ?_, ?_, ?_⟩
      · simp only [putM, if_neg e]
        rw [if_neg (by omega), if_neg (by omega), if_neg (by omega)]; exact q1
      · simp only [putM, if_neg e]
        rw [if_neg (by omega), if_neg (by omega), if_neg (by omega)]; exact q2
      · simp only [putM, if_neg e]
        rw [if_neg (by omega), if_neg (by omega), if_neg (by omega)]; exact q3
      · simp only [putM, if_neg e]
        exact hoth i hi _ _ _ _ hM

set_option maxRecDepth 100000 in
set_option maxHeartbeats 8000000 in
theorem run_any (w : World) (hT : Tabs w) (h3 : 3 ≤ w.heap.size) (lo : Nat) (v : Value) (A : List RAct) (hA : ActsAt w lo v A) (hlo : lo ≤ w.heap.size) (hlen : A.length ≤ 60) :
    Calls Tryz.prog 36 #[v] w fun e w' => (∃ g, e = .returned (.tuple #[.slice (some ⟨g, 0, none⟩) 3 3, .bool true]) ∧ M3 w' g (runK A A.length) ∧ w.heap.size ≤ g ∧ Three K5 60 (runK A A.length)) ∧ Below w.heap.size w w' := by
  have hAk : ∀ W, Below w.heap.size w W → ActsAt W lo v A := fun W hW => hA.kept (hW.mono hlo)
  have HAk := Lib.hid hAk
  obtain ⟨aa, ca, rfl, h9, hx⟩ := hA
  have hR : ∀ x ∈ A, ActR x := fun x hx' => by
    obtain ⟨i, hi, rfl⟩ := List.getElem_of_mem hx'
    obtain ⟨b, off, -, -, hc⟩ := hx.resolve_left (by intro e; rw [e] at hi; simp at hi)
    obtain ⟨h1, h2, h3, -⟩ := hc i hi
    exact ⟨h1, h2, h3⟩
  have HR := Lib.hid hR
  have HTb := Lib.hid (show ∀ w', Below w.heap.size w w' → Tabs w' ∧ 3 ≤ w'.heap.size from fun w' hb => ⟨tabs_below hT h3 hb, Nat.le_trans h3 hb.size⟩)
  obtain ⟨n, hn⟩ : ∃ n, A.length = n := ⟨_, rfl⟩
  have Hn := Lib.hid hn
  have HN1 := Lib.hid (pnew_any w)
  rw [hn] at hlen h9
  clear hx hR hAk hT
  go_enter Tryz.func36, Tryz.ntmps36
  go_wp2_with fail
  refine HN1.out.mono ?_
  rintro e w1 ⟨v1, rfl, ⟨x1, x2, x3, rfl, hm1⟩, hb1⟩
  have HN2 := Lib.hid (pnew_any w1)
  clear HN1
  go_wp2_with fail
  refine HN2.out.mono ?_
  rintro e w2 ⟨v2, rfl, ⟨y1, y2, y3, rfl, hm2⟩, hb2⟩
  have HN3 := Lib.hid (pnew_any w2)
  clear HN2
  go_wp2_with fail
  refine HN3.out.mono ?_
  rintro e w3 ⟨v3, rfl, ⟨z1, z2, z3, rfl, hm3⟩, hb3⟩
  clear HN3
  obtain ⟨ax1, cx1, rfl, -⟩ := hm1.seen.shape
  obtain ⟨ax2, cx2, rfl, -⟩ := hm1.items.shape
  obtain ⟨ax3, cx3, rfl, -⟩ := hm1.gone.shape
  obtain ⟨ay1, cy1, rfl, -⟩ := hm2.seen.shape
  obtain ⟨ay2, cy2, rfl, -⟩ := hm2.items.shape
  obtain ⟨ay3, cy3, rfl, -⟩ := hm2.gone.shape
  obtain ⟨az1, cz1, rfl, -⟩ := hm3.seen.shape
  obtain ⟨az2, cz2, rfl, -⟩ := hm3.items.shape
  obtain ⟨az3, cz3, rfl, -⟩ := hm3.gone.shape
  obtain ⟨g, hg⟩ : ∃ g, w3.heap.size = g := ⟨_, rfl⟩
  obtain ⟨w4, hw4⟩ : ∃ w4, w4 = w3.alloc (.cells #[.slice ax1 RMap.new.seen.length cx1, .slice ax2 RMap.new.items.length cx2, .slice ax3 RMap.new.gone.length cx3, .slice ay1 RMap.new.seen.length cy1, .slice ay2 RMap.new.items.length cy2, .slice ay3 RMap.new.gone.length cy3, .slice az1 RMap.new.seen.length cz1, .slice az2 RMap.new.items.length cz2, .slice az3 RMap.new.gone.length cz3] 31) := ⟨_, rfl⟩
  have hk4 : Below w3.heap.size w3 w4 := by rw [hw4]; exact kept_alloc _ _
  have hz4 : w4.heap.size = g + 1 := by rw [hw4, ← hg]; simp
  have hm34 : M3 w4 g (fun _ => RMap.new) := by
    refine ⟨fun j => match j with | 0 => .slice ax1 RMap.new.seen.length cx1 | 1 => .slice ax2 RMap.new.items.length cx2 | 2 => .slice ax3 RMap.new.gone.length cx3 | 3 => .slice ay1 RMap.new.seen.length cy1 | 4 => .slice ay2 RMap.new.items.length cy2 | 5 => .slice ay3 RMap.new.gone.length cy3 | 6 => .slice az1 RMap.new.seen.length cz1 | 7 => .slice az2 RMap.new.items.length cz2 | _ => .slice az3 RMap.new.gone.length cz3, ?_, fun i hi => ?_⟩
    · rw [hw4, ← hg]; exact Blk.new _ _ _
    · have hx : i = 0 ∨ i = 1 ∨ i = 2 := by omega
      rcases hx with rfl | rfl | rfl
      · exact ⟨_, _, _, _, _, _, rfl, rfl, rfl, (((hm1.mono (G := fun q => q < w1.heap.size) fun q _ hlt => hlt).keep (w' := w4) fun q hq _ => by
          rw [hk4.block q (by have := hb2.size; have := hb3.size; omega), hb3.block q (by have := hb2.size; omega), hb2.block q hq])).mono fun q hq _ => ⟨by have := hb2.size; have := hb3.size; omega, by have := hb2.size; have := hb3.size; omega⟩⟩
      · exact ⟨_, _, _, _, _, _, rfl, rfl, rfl, (((hm2.mono (G := fun q => q < w2.heap.size) fun q _ hlt => hlt).keep (w' := w4) fun q hq _ => by
          rw [hk4.block q (by have := hb3.size; omega), hb3.block q hq])).mono fun q hq _ => ⟨by have := hb3.size; omega, by have := hb3.size; omega⟩⟩
      · exact ⟨_, _, _, _, _, _, rfl, rfl, rfl, (((hm3.mono (G := fun q => q < w3.heap.size) fun q _ hlt => hlt).keep (w' := w4) fun q hq _ => by
          rw [hk4.block q hq])).mono fun q hq _ => ⟨by omega, by omega⟩⟩
  have hgw : w.heap.size ≤ g := by have := hb1.size; have := hb2.size; have := hb3.size; omega
  have Hm4 := Lib.hid hm34
  have HB4 := Lib.hid (show Below w.heap.size w w4 from ((hb1.trans (hb2.mono hb1.size)).trans (hb3.mono (by have := hb1.size; have := hb2.size; omega))).trans (hk4.mono (by rw [hg]; exact hgw)))
  have Hw4 := Lib.hid hw4
  clear hm1 hm2 hm3 hb1 hb2 hb3 hk4 hz4 hm34 hw4
  go_wp2_with fail
  rw [← Hw4.out]
  clear hg
  go_loopw [5] (fun i wr => ∃ k : Nat, k ≤ n ∧ i = .int .i64 (k : Int) ∧ M3 wr g (runK A k) ∧ Below w.heap.size w wr) (fun i _ => n - (intOf i).toNat)
  case atStart => exact ⟨0, by omega, rfl, Hm4.out, HB4.out⟩
  case round =>
    obtain ⟨k, hk, rfl, hm3, hbw⟩ := hrel
    have Hbw := Lib.hid hbw
    by_cases hkn : k < n
    · have hkI : (k : Int) < (n : Int) := by omega
      have hkA : k < A.length := by rw [Hn.out]; exact hkn
      have hax := HR.out _ (List.getElem_mem hkA)
      obtain ⟨ba, oa, ea, hbl, hc⟩ : ∃ ba oa, aa = some ⟨ba, oa, none⟩ ∧ ba < lo ∧ _ := by
        obtain ⟨_, _, e, -, hx⟩ := HAk.out wr hbw
        simp at e
        obtain ⟨rfl, rfl⟩ := e
        obtain ⟨ba, oa, ea, hbl, hc⟩ := hx.resolve_left (by intro e; rw [e] at hkA; simp at hkA)
        exact ⟨ba, oa, ea, hbl, hc⟩
      subst ea
      obtain ⟨-, -, -, xb, cb, c0, c1, c2, c3, hB⟩ := hc k hkA
      obtain ⟨d, hd⟩ : ∃ d, devN A[k] = d := ⟨_, rfl⟩
      obtain ⟨hd3, hdm⟩ := devN_lt hax
      obtain ⟨hf3, hfm⟩ := frmN_lt hax
      rw [hd] at hd3 hdm
      obtain ⟨f, hf⟩ : ∃ f, frmN A[k] = f := ⟨_, rfl⟩
      rw [hf] at hf3 hfm
      have hd3I : (d : Int) < 3 := by omega
      have hf3I : (f : Int) < 3 := by omega
      have hstep := runK_succ A k hkA
      unfold stepM at hstep
      rw [hd, hf] at hstep
      have hth := run_three HR.out k (by omega) (by omega)
      have hk4 := kind4 hax
      obtain ⟨kd, hkd⟩ : ∃ kd, A[k].kind = kd := ⟨_, rfl⟩
      obtain ⟨dv, hdv⟩ : ∃ dv, A[k].dev = dv := ⟨_, rfl⟩
      obtain ⟨fm, hfmm⟩ : ∃ fm, A[k].frm = fm := ⟨_, rfl⟩
      rw [hkd] at hk4 hstep c0
      rw [hdv] at hdm c1
      rw [hfmm] at hfm c2
      have HC := Lib.hid hc
      clear hc hkd hdv hfmm hd hf hax hbw
      rcases hk4 with h4 | h4 | h4 | h4
      · rw [if_neg (by omega), if_neg (by omega)] at hstep
        obtain ⟨s1, e1, s2, e2, s3, e3, z0, z1, z2, hMd⟩ := hm3.get d hd3
        have pz0 : ∀ w', Later wr.drew w' → w'.cell? _ = _ := fun w' hh => laterC z0 hh
        have pz1 : ∀ w', Later wr.drew w' → w'.cell? _ = _ := fun w' hh => laterC z1 hh
        have pz2 : ∀ w', Later wr.drew w' → w'.cell? _ = _ := fun w' hh => laterC z2 hh
        have pc3 : ∀ w', Later wr.drew w' → w'.cell? _ = _ := fun w' hh => laterC c3 hh
        have hbd := (Below.refl wr.heap.size wr).drew
        have hNm := named_any wr.drew _ (.slice xb A[k].keys.length cb) A[k].keys (hB.keep (w' := wr.drew) fun _ _ _ => rfl) (fun q hq => Nat.lt_of_lt_of_le hq (Nat.le_trans hlo Hbw.out.size))
        have HNm := Lib.hid hNm; have HMd := Lib.hid hMd; have Hm3 := Lib.hid hm3
        have Hgd := Lib.hid ((hth.good d hd3)); have Hst := Lib.hid hstep; have Hth := Lib.hid hth
        clear hMd hm3 hNm hth hstep z0 z1 z2 hB
        go_wp2_with fail
        clear c0 c1 c2 c3
        refine wp_region_canP Later 18 [16] [(0, true), (1, true), (2, true), (3, true), (4, true), (5, true), (6, true), (7, true), (8, true), (9, true), (10, true), (11, true), (12, false), (13, false), (14, true), (15, true), (16, true), (17, true), (18, false), (19, true)] (by kernel_rfl) (by kernel_rfl) (by kernel_rfl) later_refl later_trans ?_
        repeat (first | (refine canP_yes (v := ?_) rfl (wanted_none rfl) rfl (fun w' hC => ?_) (fun K hK => ?_); rotate_left; (focus (go_simp; (try simp (disch := omega) only [IntWalk.i64_in]); first | done | exact rfl)); go_simp; (try simp (disch := omega) only [IntWalk.i64_in]); refine hK _ ?_; clear hK K) | (refine canP_pure (v := ?_) rfl (wanted_none rfl) (fun w' => ?_) (fun K hK => ?_); rotate_left; (focus (go_simp; (try simp (disch := omega) only [IntWalk.i64_in]); first | done | exact rfl)); go_simp; (try simp (disch := omega) only [IntWalk.i64_in]); refine hK _ ?_; clear hK K))
        refine canP_go rfl rfl (fun KK hK => ?_)
        go_simp
        refine HNm.out.mono ?_
        rintro e w8 ⟨⟨r, rfl, hr⟩, hb8⟩
        obtain ⟨ar, cr, rfl⟩ := own_shape hr
        refine ⟨_, rfl, hb8, hK _ _ ?_⟩
        have hw8 : Below wr.heap.size wr w8 := hbd.trans hb8
        have hW8 : Below w.heap.size w w8 := Hbw.out.trans (hw8.mono Hbw.out.size)
        have hal := named_allowed (d := (d : Int)) (by omega) (by omega) A[k].keys
        have hkv := valid_keys (Hgd.out.valid (by decide))
        have hlv := valid_lens (Hgd.out.valid (by decide))
        have hU := puse_any w8 (HTb.out _ hW8).1 (HTb.out _ hW8).2 _ (.agg #[.slice s1 (runK A k d).seen.length e1, .slice s2 (runK A k d).items.length e2, .slice s3 (runK A k d).gone.length e3]) (runK A k d) ⟨_, _, _, rfl, HMd.out.keep (w' := w8) fun q hq _ => hw8.block q hq.1⟩ hkv.1 hkv.2 (by omega) (by omega) (d : Int) _ (.slice ar (namedN A[k].keys).length cr) (namedN A[k].keys) (Rows.of_owns hr) (by have := named_len A[k].keys; omega) (fun q hq => by have := K5_keys ((named_good A[k].keys).2 q hq); omega)
        rw [useR_ok Hgd.out (by decide) hal (by omega) (named_good A[k].keys).2 (by omega)] at hU
        have HU := Lib.hid hU; have Hw8 := Lib.hid hw8; have HW8 := Lib.hid hW8
        clear hK KK hU hkv hlv hal hw8 hW8 hr hb8
        go_simp
        refine canP_go rfl rfl (fun KK hK => ?_)
        go_simp
        refine HU.out.mono ?_
        rintro e w9 ⟨⟨r, rfl, ho, hbx⟩, hb9⟩
        refine ⟨_, rfl, hb9, hK _ _ ?_⟩
        clear hK KK HU pz0 pz1 pz2 pc3
        go_simp
        obtain ⟨t1, t2, t3, rfl, ho⟩ := ho
        obtain ⟨n1, m1, rfl⟩ := own_shape ho.seen
        obtain ⟨n2, m2, rfl⟩ := own_shape ho.items
        obtain ⟨n3, m3, rfl⟩ := own_shape ho.gone
        dsimp only at ho hbx
        repeat (first | (refine canP_yes (v := ?_) rfl (wanted_none rfl) rfl (fun w' hC => ?_) (fun K hK => ?_); rotate_left; (focus (go_simp; (try simp (disch := omega) only [IntWalk.i64_in]); first | done | exact rfl)); go_simp; (try simp (disch := omega) only [IntWalk.i64_in]); refine hK _ ?_; clear hK K) | (refine canP_pure (v := ?_) rfl (wanted_none rfl) (fun w' => ?_) (fun K hK => ?_); rotate_left; (focus (go_simp; (try simp (disch := omega) only [IntWalk.i64_in]); first | done | exact rfl)); go_simp; (try simp (disch := omega) only [IntWalk.i64_in]); refine hK _ ?_; clear hK K))
        have hb19 : Below wr.heap.size wr w9 := Hw8.out.trans (hb9.mono Hw8.out.size)
        have hm9 := Hm3.out.keep hb19
        obtain ⟨q1, f1, q2, f2, q3, f3, y0, y1, y2, -⟩ := hm9.get d hd3
        have z0 := hm9.free (d * 3); have z1 := hm9.free (d * 3 + 1); have z2 := hm9.free (d * 3 + 2)
        obtain ⟨w10, hw10⟩ : ∃ w10, w10 = ((w9.setCell ⟨g, d * 3, none⟩ (.slice n1 (useM (runK A k d) (d : Int) (namedN A[k].keys)).seen.length m1)).setCell ⟨g, d * 3 + 1, none⟩ (.slice n2 (useM (runK A k d) (d : Int) (namedN A[k].keys)).items.length m2)).setCell ⟨g, d * 3 + 2, none⟩ (.slice n3 (useM (runK A k d) (d : Int) (namedN A[k].keys)).gone.length m3) := ⟨_, rfl⟩
        have hm10 := hm9.set hd3 ho hbx (base := w8.heap.size) (by have := Hm3.out.lt; have := Hw8.out.size; omega) hw10
        rw [← Hst.out] at hm10
        have Hm10 := Lib.hid hm10
        have hW9 := Hbw.out.trans (hb19.mono Hbw.out.size)
        have HW10 := Lib.hid (show Below w.heap.size w w10 by rw [hw10]; exact ((hW9.setCell (p := ⟨g, d * 3, none⟩) hgw _).setCell (p := ⟨g, d * 3 + 1, none⟩) hgw _).setCell (p := ⟨g, d * 3 + 2, none⟩) hgw _)
        have Hw10 := Lib.hid hw10
        clear hm9 hm10 hb19 hW9 hw10 ho hbx hb9
        refine canP_last rfl rfl rfl (fun KK hK => ?_)
        go_simp
        rw [← Hw10.out]
        refine hK _ _ ?_
        clear hK KK y0 y1 y2 z0 z1 z2
        go_simp
        repeat (first | (refine canP_yes (v := ?_) rfl (wanted_none rfl) rfl (fun w' hC => ?_) (fun K hK => ?_); rotate_left; (focus (go_simp; (try simp (disch := omega) only [IntWalk.i64_in]); first | done | exact rfl)); go_simp; (try simp (disch := omega) only [IntWalk.i64_in]); refine hK _ ?_; clear hK K) | (refine canP_pure (v := ?_) rfl (wanted_none rfl) (fun w' => ?_) (fun K hK => ?_); rotate_left; (focus (go_simp; (try simp (disch := omega) only [IntWalk.i64_in]); first | done | exact rfl)); go_simp; (try simp (disch := omega) only [IntWalk.i64_in]); refine hK _ ?_; clear hK K))
        refine canP_nil ?_
        go_wp2_with fail
        go_roundw
        case rel => exact ⟨k + 1, by omega, by go_num, Hm10.out, HW10.out⟩
        case measure => simp [intOf]; omega
      · rw [if_neg (by omega), if_neg (by omega)] at hstep
        obtain ⟨s1, e1, s2, e2, s3, e3, z0, z1, z2, hMd⟩ := hm3.get d hd3
        have pz0 : ∀ w', Later wr.drew w' → w'.cell? _ = _ := fun w' hh => laterC z0 hh
        have pz1 : ∀ w', Later wr.drew w' → w'.cell? _ = _ := fun w' hh => laterC z1 hh
        have pz2 : ∀ w', Later wr.drew w' → w'.cell? _ = _ := fun w' hh => laterC z2 hh
        have pc3 : ∀ w', Later wr.drew w' → w'.cell? _ = _ := fun w' hh => laterC c3 hh
        have hbd := (Below.refl wr.heap.size wr).drew
        have hNm := named_any wr.drew _ (.slice xb A[k].keys.length cb) A[k].keys (hB.keep (w' := wr.drew) fun _ _ _ => rfl) (fun q hq => Nat.lt_of_lt_of_le hq (Nat.le_trans hlo Hbw.out.size))
        have HNm := Lib.hid hNm; have HMd := Lib.hid hMd; have Hm3 := Lib.hid hm3
        have Hgd := Lib.hid ((hth.good d hd3)); have Hst := Lib.hid hstep; have Hth := Lib.hid hth
        clear hMd hm3 hNm hth hstep z0 z1 z2 hB
        go_wp2_with fail
        clear c0 c1 c2 c3
        refine wp_region_canP Later 18 [16] [(0, true), (1, true), (2, true), (3, true), (4, true), (5, true), (6, true), (7, true), (8, true), (9, true), (10, true), (11, true), (12, false), (13, false), (14, true), (15, true), (16, true), (17, true), (18, false), (19, true)] (by kernel_rfl) (by kernel_rfl) (by kernel_rfl) later_refl later_trans ?_
        repeat (first | (refine canP_yes (v := ?_) rfl (wanted_none rfl) rfl (fun w' hC => ?_) (fun K hK => ?_); rotate_left; (focus (go_simp; (try simp (disch := omega) only [IntWalk.i64_in]); first | done | exact rfl)); go_simp; (try simp (disch := omega) only [IntWalk.i64_in]); refine hK _ ?_; clear hK K) | (refine canP_pure (v := ?_) rfl (wanted_none rfl) (fun w' => ?_) (fun K hK => ?_); rotate_left; (focus (go_simp; (try simp (disch := omega) only [IntWalk.i64_in]); first | done | exact rfl)); go_simp; (try simp (disch := omega) only [IntWalk.i64_in]); refine hK _ ?_; clear hK K))
        refine canP_go rfl rfl (fun KK hK => ?_)
        go_simp
        refine HNm.out.mono ?_
        rintro e w8 ⟨⟨r, rfl, hr⟩, hb8⟩
        obtain ⟨ar, cr, rfl⟩ := own_shape hr
        refine ⟨_, rfl, hb8, hK _ _ ?_⟩
        have hw8 : Below wr.heap.size wr w8 := hbd.trans hb8
        have hW8 : Below w.heap.size w w8 := Hbw.out.trans (hw8.mono Hbw.out.size)
        have hal := named_allowed (d := (d : Int)) (by omega) (by omega) A[k].keys
        have hkv := valid_keys (Hgd.out.valid (by decide))
        have hlv := valid_lens (Hgd.out.valid (by decide))
        have hU := puse_any w8 (HTb.out _ hW8).1 (HTb.out _ hW8).2 _ (.agg #[.slice s1 (runK A k d).seen.length e1, .slice s2 (runK A k d).items.length e2, .slice s3 (runK A k d).gone.length e3]) (runK A k d) ⟨_, _, _, rfl, HMd.out.keep (w' := w8) fun q hq _ => hw8.block q hq.1⟩ hkv.1 hkv.2 (by omega) (by omega) (d : Int) _ (.slice ar (namedN A[k].keys).length cr) (namedN A[k].keys) (Rows.of_owns hr) (by have := named_len A[k].keys; omega) (fun q hq => by have := K5_keys ((named_good A[k].keys).2 q hq); omega)
        rw [useR_ok Hgd.out (by decide) hal (by omega) (named_good A[k].keys).2 (by omega)] at hU
        have HU := Lib.hid hU; have Hw8 := Lib.hid hw8; have HW8 := Lib.hid hW8
        clear hK KK hU hkv hlv hal hw8 hW8 hr hb8
        go_simp
        refine canP_go rfl rfl (fun KK hK => ?_)
        go_simp
        refine HU.out.mono ?_
        rintro e w9 ⟨⟨r, rfl, ho, hbx⟩, hb9⟩
        refine ⟨_, rfl, hb9, hK _ _ ?_⟩
        clear hK KK HU pz0 pz1 pz2 pc3
        go_simp
        obtain ⟨t1, t2, t3, rfl, ho⟩ := ho
        obtain ⟨n1, m1, rfl⟩ := own_shape ho.seen
        obtain ⟨n2, m2, rfl⟩ := own_shape ho.items
        obtain ⟨n3, m3, rfl⟩ := own_shape ho.gone
        dsimp only at ho hbx
        repeat (first | (refine canP_yes (v := ?_) rfl (wanted_none rfl) rfl (fun w' hC => ?_) (fun K hK => ?_); rotate_left; (focus (go_simp; (try simp (disch := omega) only [IntWalk.i64_in]); first | done | exact rfl)); go_simp; (try simp (disch := omega) only [IntWalk.i64_in]); refine hK _ ?_; clear hK K) | (refine canP_pure (v := ?_) rfl (wanted_none rfl) (fun w' => ?_) (fun K hK => ?_); rotate_left; (focus (go_simp; (try simp (disch := omega) only [IntWalk.i64_in]); first | done | exact rfl)); go_simp; (try simp (disch := omega) only [IntWalk.i64_in]); refine hK _ ?_; clear hK K))
        have hb19 : Below wr.heap.size wr w9 := Hw8.out.trans (hb9.mono Hw8.out.size)
        have hm9 := Hm3.out.keep hb19
        obtain ⟨q1, f1, q2, f2, q3, f3, y0, y1, y2, -⟩ := hm9.get d hd3
        have z0 := hm9.free (d * 3); have z1 := hm9.free (d * 3 + 1); have z2 := hm9.free (d * 3 + 2)
        obtain ⟨w10, hw10⟩ : ∃ w10, w10 = ((w9.setCell ⟨g, d * 3, none⟩ (.slice n1 (useM (runK A k d) (d : Int) (namedN A[k].keys)).seen.length m1)).setCell ⟨g, d * 3 + 1, none⟩ (.slice n2 (useM (runK A k d) (d : Int) (namedN A[k].keys)).items.length m2)).setCell ⟨g, d * 3 + 2, none⟩ (.slice n3 (useM (runK A k d) (d : Int) (namedN A[k].keys)).gone.length m3) := ⟨_, rfl⟩
        have hm10 := hm9.set hd3 ho hbx (base := w8.heap.size) (by have := Hm3.out.lt; have := Hw8.out.size; omega) hw10
        rw [← Hst.out] at hm10
        have Hm10 := Lib.hid hm10
        have hW9 := Hbw.out.trans (hb19.mono Hbw.out.size)
        have HW10 := Lib.hid (show Below w.heap.size w w10 by rw [hw10]; exact ((hW9.setCell (p := ⟨g, d * 3, none⟩) hgw _).setCell (p := ⟨g, d * 3 + 1, none⟩) hgw _).setCell (p := ⟨g, d * 3 + 2, none⟩) hgw _)
        have Hw10 := Lib.hid hw10
        clear hm9 hm10 hb19 hW9 hw10 ho hbx hb9
        refine canP_last rfl rfl rfl (fun KK hK => ?_)
        go_simp
        rw [← Hw10.out]
        refine hK _ _ ?_
        clear hK KK y0 y1 y2 z0 z1 z2
        go_simp
        repeat (first | (refine canP_yes (v := ?_) rfl (wanted_none rfl) rfl (fun w' hC => ?_) (fun K hK => ?_); rotate_left; (focus (go_simp; (try simp (disch := omega) only [IntWalk.i64_in]); first | done | exact rfl)); go_simp; (try simp (disch := omega) only [IntWalk.i64_in]); refine hK _ ?_; clear hK K) | (refine canP_pure (v := ?_) rfl (wanted_none rfl) (fun w' => ?_) (fun K hK => ?_); rotate_left; (focus (go_simp; (try simp (disch := omega) only [IntWalk.i64_in]); first | done | exact rfl)); go_simp; (try simp (disch := omega) only [IntWalk.i64_in]); refine hK _ ?_; clear hK K))
        refine canP_nil ?_
        go_wp2_with fail
        go_roundw
        case rel => exact ⟨k + 1, by omega, by go_num, Hm10.out, HW10.out⟩
        case measure => simp [intOf]; omega
      · rw [if_pos h4] at hstep
        obtain ⟨s1, e1, s2, e2, s3, e3, z0, z1, z2, hMd⟩ := hm3.get d hd3
        have pz0 : ∀ w', Later wr.drew w' → w'.cell? _ = _ := fun w' hh => laterC z0 hh
        have pz1 : ∀ w', Later wr.drew w' → w'.cell? _ = _ := fun w' hh => laterC z1 hh
        have pz2 : ∀ w', Later wr.drew w' → w'.cell? _ = _ := fun w' hh => laterC z2 hh
        have pc3 : ∀ w', Later wr.drew w' → w'.cell? _ = _ := fun w' hh => laterC c3 hh
        have hbd := (Below.refl wr.heap.size wr).drew
        have hNm := named_any wr.drew _ (.slice xb A[k].keys.length cb) A[k].keys (hB.keep (w' := wr.drew) fun _ _ _ => rfl) (fun q hq => Nat.lt_of_lt_of_le hq (Nat.le_trans hlo Hbw.out.size))
        have HNm := Lib.hid hNm; have HMd := Lib.hid hMd; have Hm3 := Lib.hid hm3
        have Hgd := Lib.hid ((hth.good d hd3)); have Hst := Lib.hid hstep; have Hth := Lib.hid hth
        clear hMd hm3 hNm hth hstep z0 z1 z2 hB
        go_wp2_with fail
        clear c0 c1 c2 c3
        refine wp_region_canP Later 18 [16] [(0, true), (1, true), (2, true), (3, true), (4, true), (5, true), (6, true), (7, true), (8, true), (9, true), (10, true), (11, true), (12, false), (13, false), (14, true), (15, true), (16, true), (17, true), (18, false), (19, true)] (by kernel_rfl) (by kernel_rfl) (by kernel_rfl) later_refl later_trans ?_
        repeat (first | (refine canP_yes (v := ?_) rfl (wanted_none rfl) rfl (fun w' hC => ?_) (fun K hK => ?_); rotate_left; (focus (go_simp; (try simp (disch := omega) only [IntWalk.i64_in]); first | done | exact rfl)); go_simp; (try simp (disch := omega) only [IntWalk.i64_in]); refine hK _ ?_; clear hK K) | (refine canP_pure (v := ?_) rfl (wanted_none rfl) (fun w' => ?_) (fun K hK => ?_); rotate_left; (focus (go_simp; (try simp (disch := omega) only [IntWalk.i64_in]); first | done | exact rfl)); go_simp; (try simp (disch := omega) only [IntWalk.i64_in]); refine hK _ ?_; clear hK K))
        refine canP_go rfl rfl (fun KK hK => ?_)
        go_simp
        refine HNm.out.mono ?_
        rintro e w8 ⟨⟨r, rfl, hr⟩, hb8⟩
        obtain ⟨ar, cr, rfl⟩ := own_shape hr
        refine ⟨_, rfl, hb8, hK _ _ ?_⟩
        have hw8 : Below wr.heap.size wr w8 := hbd.trans hb8
        have hW8 : Below w.heap.size w w8 := Hbw.out.trans (hw8.mono Hbw.out.size)
        have hal := named_allowed (d := (d : Int)) (by omega) (by omega) A[k].keys
        have hkv := valid_keys (Hgd.out.valid (by decide))
        have hlv := valid_lens (Hgd.out.valid (by decide))
        have hU := pforget_any w8 (HTb.out _ hW8).1 (HTb.out _ hW8).2 _ (.agg #[.slice s1 (runK A k d).seen.length e1, .slice s2 (runK A k d).items.length e2, .slice s3 (runK A k d).gone.length e3]) (runK A k d) ⟨_, _, _, rfl, HMd.out.keep (w' := w8) fun q hq _ => hw8.block q hq.1⟩ hkv.1 hkv.2 (by omega) (by omega) (d : Int) _ (.slice ar (namedN A[k].keys).length cr) (namedN A[k].keys) (Rows.of_owns hr) (by have := named_len A[k].keys; omega) (fun q hq => by have := K5_keys ((named_good A[k].keys).2 q hq); omega)
        rw [forgetR_ok Hgd.out (by decide) hal (by omega)] at hU
        have HU := Lib.hid hU; have Hw8 := Lib.hid hw8; have HW8 := Lib.hid hW8
        clear hK KK hU hkv hlv hal hw8 hW8 hr hb8
        go_simp
        refine canP_go rfl rfl (fun KK hK => ?_)
        go_simp
        refine HU.out.mono ?_
        rintro e w9 ⟨⟨r, rfl, ho, hbx⟩, hb9⟩
        refine ⟨_, rfl, hb9, hK _ _ ?_⟩
        clear hK KK HU pz0 pz1 pz2 pc3
        go_simp
        obtain ⟨t1, t2, t3, rfl, ho⟩ := ho
        obtain ⟨n1, m1, rfl⟩ := own_shape ho.seen
        obtain ⟨n2, m2, rfl⟩ := own_shape ho.items
        obtain ⟨n3, m3, rfl⟩ := own_shape ho.gone
        dsimp only at ho hbx
        repeat (first | (refine canP_yes (v := ?_) rfl (wanted_none rfl) rfl (fun w' hC => ?_) (fun K hK => ?_); rotate_left; (focus (go_simp; (try simp (disch := omega) only [IntWalk.i64_in]); first | done | exact rfl)); go_simp; (try simp (disch := omega) only [IntWalk.i64_in]); refine hK _ ?_; clear hK K) | (refine canP_pure (v := ?_) rfl (wanted_none rfl) (fun w' => ?_) (fun K hK => ?_); rotate_left; (focus (go_simp; (try simp (disch := omega) only [IntWalk.i64_in]); first | done | exact rfl)); go_simp; (try simp (disch := omega) only [IntWalk.i64_in]); refine hK _ ?_; clear hK K))
        have hb19 : Below wr.heap.size wr w9 := Hw8.out.trans (hb9.mono Hw8.out.size)
        have hm9 := Hm3.out.keep hb19
        obtain ⟨q1, f1, q2, f2, q3, f3, y0, y1, y2, -⟩ := hm9.get d hd3
        have z0 := hm9.free (d * 3); have z1 := hm9.free (d * 3 + 1); have z2 := hm9.free (d * 3 + 2)
        obtain ⟨w10, hw10⟩ : ∃ w10, w10 = ((w9.setCell ⟨g, d * 3, none⟩ (.slice n1 (forgetM (runK A k d) (d : Int) (namedN A[k].keys)).seen.length m1)).setCell ⟨g, d * 3 + 1, none⟩ (.slice n2 (forgetM (runK A k d) (d : Int) (namedN A[k].keys)).items.length m2)).setCell ⟨g, d * 3 + 2, none⟩ (.slice n3 (forgetM (runK A k d) (d : Int) (namedN A[k].keys)).gone.length m3) := ⟨_, rfl⟩
        have hm10 := hm9.set hd3 ho hbx (base := w8.heap.size) (by have := Hm3.out.lt; have := Hw8.out.size; omega) hw10
        rw [← Hst.out] at hm10
        have Hm10 := Lib.hid hm10
        have hW9 := Hbw.out.trans (hb19.mono Hbw.out.size)
        have HW10 := Lib.hid (show Below w.heap.size w w10 by rw [hw10]; exact ((hW9.setCell (p := ⟨g, d * 3, none⟩) hgw _).setCell (p := ⟨g, d * 3 + 1, none⟩) hgw _).setCell (p := ⟨g, d * 3 + 2, none⟩) hgw _)
        have Hw10 := Lib.hid hw10
        clear hm9 hm10 hb19 hW9 hw10 ho hbx hb9
        refine canP_last rfl rfl rfl (fun KK hK => ?_)
        go_simp
        rw [← Hw10.out]
        refine hK _ _ ?_
        clear hK KK y0 y1 y2 z0 z1 z2
        go_simp
        repeat (first | (refine canP_yes (v := ?_) rfl (wanted_none rfl) rfl (fun w' hC => ?_) (fun K hK => ?_); rotate_left; (focus (go_simp; (try simp (disch := omega) only [IntWalk.i64_in]); first | done | exact rfl)); go_simp; (try simp (disch := omega) only [IntWalk.i64_in]); refine hK _ ?_; clear hK K) | (refine canP_pure (v := ?_) rfl (wanted_none rfl) (fun w' => ?_) (fun K hK => ?_); rotate_left; (focus (go_simp; (try simp (disch := omega) only [IntWalk.i64_in]); first | done | exact rfl)); go_simp; (try simp (disch := omega) only [IntWalk.i64_in]); refine hK _ ?_; clear hK K))
        refine canP_nil ?_
        go_wp2_with fail
        go_roundw
        case rel => exact ⟨k + 1, by omega, by go_num, Hm10.out, HW10.out⟩
        case measure => simp [intOf]; omega
      · rw [if_neg (by omega), if_pos h4] at hstep
        obtain ⟨s1, e1, s2, e2, s3, e3, z0, z1, z2, hMd⟩ := hm3.get d hd3
        obtain ⟨u1, f1, u2, f2, u3, f3, v0, v1, v2, hMf⟩ := hm3.get f hf3
        have pz0 : ∀ w', Later wr.drew w' → w'.cell? _ = _ := fun w' hh => laterC z0 hh
        have pz1 : ∀ w', Later wr.drew w' → w'.cell? _ = _ := fun w' hh => laterC z1 hh
        have pz2 : ∀ w', Later wr.drew w' → w'.cell? _ = _ := fun w' hh => laterC z2 hh
        have pv0 : ∀ w', Later wr.drew w' → w'.cell? _ = _ := fun w' hh => laterC v0 hh
        have pv1 : ∀ w', Later wr.drew w' → w'.cell? _ = _ := fun w' hh => laterC v1 hh
        have pv2 : ∀ w', Later wr.drew w' → w'.cell? _ = _ := fun w' hh => laterC v2 hh
        have pc2 : ∀ w', Later wr.drew w' → w'.cell? _ = _ := fun w' hh => laterC c2 hh
        have hbd := (Below.refl wr.heap.size wr).drew
        have hWd : Below w.heap.size w wr.drew := Hbw.out.trans (hbd.mono Hbw.out.size)
        have hgd := hth.good d hd3
        have hgf := hth.good f hf3
        have hkv := valid_keys (hgd.valid (by decide))
        have hkf := valid_keys (hgf.valid (by decide))
        have hU := pmerge_any wr.drew (HTb.out _ hWd).1 (HTb.out _ hWd).2 _ _ (.agg #[.slice s1 (runK A k d).seen.length e1, .slice s2 (runK A k d).items.length e2, .slice s3 (runK A k d).gone.length e3]) (.agg #[.slice u1 (runK A k f).seen.length f1, .slice u2 (runK A k f).items.length f2, .slice u3 (runK A k f).gone.length f3]) (runK A k d) (runK A k f) ⟨_, _, _, rfl, hMd.keep (w' := wr.drew) fun q hq _ => rfl⟩ ⟨_, _, _, rfl, hMf.keep (w' := wr.drew) fun q hq _ => rfl⟩ hkv.1 hkv.2 hkf.1 hkf.2
        rw [mergeR_ok hgd hgf (by decide)] at hU
        have HU := Lib.hid hU; have Hm3 := Lib.hid hm3; have Hst := Lib.hid hstep; have Hth := Lib.hid hth
        clear hMd hMf hm3 hU hth hstep hgd hgf hkv hkf z0 z1 z2 v0 v1 v2 hB hWd
        go_wp2_with fail
        clear c0 c1 c2 c3
        refine wp_region_canP Later 20 [18] [(0, true), (1, true), (2, true), (3, true), (4, true), (5, true), (6, true), (7, true), (8, true), (9, true), (10, true), (11, true), (12, true), (13, true), (14, true), (15, false), (16, true), (17, true), (18, true), (19, true), (20, false), (21, true)] (by kernel_rfl) (by kernel_rfl) (by kernel_rfl) later_refl later_trans ?_
        repeat (first | (refine canP_yes (v := ?_) rfl (wanted_none rfl) rfl (fun w' hC => ?_) (fun K hK => ?_); rotate_left; (focus (go_simp; (try simp (disch := omega) only [IntWalk.i64_in]); first | done | exact rfl)); go_simp; (try simp (disch := omega) only [IntWalk.i64_in]); refine hK _ ?_; clear hK K) | (refine canP_pure (v := ?_) rfl (wanted_none rfl) (fun w' => ?_) (fun K hK => ?_); rotate_left; (focus (go_simp; (try simp (disch := omega) only [IntWalk.i64_in]); first | done | exact rfl)); go_simp; (try simp (disch := omega) only [IntWalk.i64_in]); refine hK _ ?_; clear hK K))
        refine canP_go rfl rfl (fun KK hK => ?_)
        go_simp
        refine HU.out.mono ?_
        rintro e w9 ⟨⟨r, rfl, ho, hbx⟩, hb9⟩
        refine ⟨_, rfl, hb9, hK _ _ ?_⟩
        clear hK KK HU pz0 pz1 pz2 pv0 pv1 pv2 pc2
        go_simp
        obtain ⟨t1, t2, t3, rfl, ho⟩ := ho
        obtain ⟨n1, m1, rfl⟩ := own_shape ho.seen
        obtain ⟨n2, m2, rfl⟩ := own_shape ho.items
        obtain ⟨n3, m3, rfl⟩ := own_shape ho.gone
        dsimp only at ho hbx
        repeat (first | (refine canP_yes (v := ?_) rfl (wanted_none rfl) rfl (fun w' hC => ?_) (fun K hK => ?_); rotate_left; (focus (go_simp; (try simp (disch := omega) only [IntWalk.i64_in]); first | done | exact rfl)); go_simp; (try simp (disch := omega) only [IntWalk.i64_in]); refine hK _ ?_; clear hK K) | (refine canP_pure (v := ?_) rfl (wanted_none rfl) (fun w' => ?_) (fun K hK => ?_); rotate_left; (focus (go_simp; (try simp (disch := omega) only [IntWalk.i64_in]); first | done | exact rfl)); go_simp; (try simp (disch := omega) only [IntWalk.i64_in]); refine hK _ ?_; clear hK K))
        have hb19 : Below wr.heap.size wr w9 := hbd.trans hb9
        have hm9 := Hm3.out.keep hb19
        obtain ⟨q1, f1, q2, f2, q3, f3, y0, y1, y2, -⟩ := hm9.get d hd3
        have z0 := hm9.free (d * 3); have z1 := hm9.free (d * 3 + 1); have z2 := hm9.free (d * 3 + 2)
        obtain ⟨w10, hw10⟩ : ∃ w10, w10 = ((w9.setCell ⟨g, d * 3, none⟩ (.slice n1 (mergeM (runK A k d) (runK A k f)).seen.length m1)).setCell ⟨g, d * 3 + 1, none⟩ (.slice n2 (mergeM (runK A k d) (runK A k f)).items.length m2)).setCell ⟨g, d * 3 + 2, none⟩ (.slice n3 (mergeM (runK A k d) (runK A k f)).gone.length m3) := ⟨_, rfl⟩
        have hm10 := hm9.set hd3 ho hbx (base := wr.drew.heap.size) Hm3.out.lt hw10
        rw [← Hst.out] at hm10
        have Hm10 := Lib.hid hm10
        have hW9 := Hbw.out.trans (hb19.mono Hbw.out.size)
        have HW10 := Lib.hid (show Below w.heap.size w w10 by rw [hw10]; exact ((hW9.setCell (p := ⟨g, d * 3, none⟩) hgw _).setCell (p := ⟨g, d * 3 + 1, none⟩) hgw _).setCell (p := ⟨g, d * 3 + 2, none⟩) hgw _)
        have Hw10 := Lib.hid hw10
        clear hm9 hm10 hb19 hW9 hw10 ho hbx hb9
        refine canP_last rfl rfl rfl (fun KK hK => ?_)
        go_simp
        rw [← Hw10.out]
        refine hK _ _ ?_
        clear hK KK y0 y1 y2 z0 z1 z2
        go_simp
        repeat (first | (refine canP_yes (v := ?_) rfl (wanted_none rfl) rfl (fun w' hC => ?_) (fun K hK => ?_); rotate_left; (focus (go_simp; (try simp (disch := omega) only [IntWalk.i64_in]); first | done | exact rfl)); go_simp; (try simp (disch := omega) only [IntWalk.i64_in]); refine hK _ ?_; clear hK K) | (refine canP_pure (v := ?_) rfl (wanted_none rfl) (fun w' => ?_) (fun K hK => ?_); rotate_left; (focus (go_simp; (try simp (disch := omega) only [IntWalk.i64_in]); first | done | exact rfl)); go_simp; (try simp (disch := omega) only [IntWalk.i64_in]); refine hK _ ?_; clear hK K))
        refine canP_nil ?_
        go_wp2_with fail
        go_roundw
        case rel => exact ⟨k + 1, by omega, by go_num, Hm10.out, HW10.out⟩
        case measure => simp [intOf]; omega
    · have hkI : ¬ (k : Int) < (n : Int) := by omega
      have hkA : k = A.length := by rw [Hn.out]; omega
      have Hf := Lib.hid (show M3 wr g (runK A A.length) ∧ w.heap.size ≤ g ∧ Three K5 60 (runK A A.length) from ⟨by rw [← hkA]; exact hm3, hgw, (run_three HR.out A.length (Nat.le_refl _) (by rw [Hn.out]; omega)).mono (by rw [Hn.out]; omega)⟩)
      clear hm3 hkA hbw
      go_wp2_with fail
      exact bodyPost_ret (v := .tuple #[.slice (some ⟨g, 0, none⟩) 3 3, .bool true]) (by simp [results, Tryz.results36, go_sem]) rfl ⟨⟨g, rfl, by have h := Hf.out; rw [Hn.out] at h; exact h⟩, Hbw.out⟩
end Go.Proofs.YtbjkkmabafaogaaGreatDoor
