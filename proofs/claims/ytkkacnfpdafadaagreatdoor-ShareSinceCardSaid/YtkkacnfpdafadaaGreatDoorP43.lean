/-
  SLawS
-/
import Derived.Test.YtkkacnfpdafadaaGreatDoorP28
import Derived.Test.YtkkacnfpdafadaaGreatDoorP29
import Derived.Test.YtkkacnfpdafadaaGreatDoorP30
import Derived.Test.YtkkacnfpdafadaaGreatDoorP40
import Derived.Test.YtkkacnfpdafadaaGreatDoorP41
import Derived.Test.YtkkacnfpdafadaaGreatDoorP42
namespace Go.Proofs.YtkkacnfpdafadaaGreatDoor
open Go.RowKit Go.Lib
set_option linter.unusedVariables false
set_option maxRecDepth 20000
attribute [local go_sem ↓] seal_append
attribute [local go_sem] opC upC

structure SnSt (B5 O9 B7 O13 : Nat) (w wr : World) (a0 a1 a2 : Value) (na : Nat) (x0 x1 x2 x3 x4 : Value) (nx ni : Nat) : Prop where
  boxA : Blk wr O9 [a0, a1, a2] 31
  boxX : Blk wr O13 [x0, x1, x2, x3, x4] 39
  rowA : WRow B5 O9 wr a0 na 1
  rowI : WRow B7 O13 wr x3 ni 4
  rowX : WRow B7 O13 wr x1 nx 1
  bel : Below B5 w wr
  lt1 : B5 ≤ O9
  lt2 : O9 < B7
  lt3 : B7 ≤ O13
section
variable {B5 O9 B7 O13 : Nat} {w wr : World} {a0 a1 a2 : Value} {na : Nat} {x0 x1 x2 x3 x4 : Value} {nx ni : Nat}
theorem SnSt.setX (h : SnSt B5 O9 B7 O13 w wr a0 a1 a2 na x0 x1 x2 x3 x4 nx ni) {g : Nat} (hB : B7 ≤ g) (hO : g < O13) (j : Nat) (u : Value) : SnSt B5 O9 B7 O13 w (wr.setCell ⟨g, j, none⟩ u) a0 a1 a2 na x0 x1 x2 x3 x4 nx ni := by
  have h1 := h.lt1; have h2 := h.lt2
  exact ⟨h.boxA.set_other u (by show O9 ≠ g; omega), h.boxX.set_other u (by show O13 ≠ g; omega), h.rowA.set g j u, h.rowI.set g j u, h.rowX.set g j u, h.bel.setCell (p := ⟨g, j, none⟩) (by show B5 ≤ g; omega) u, h.lt1, h.lt2, h.lt3⟩
theorem SnSt.setA (h : SnSt B5 O9 B7 O13 w wr a0 a1 a2 na x0 x1 x2 x3 x4 nx ni) {g : Nat} (hB : B5 ≤ g) (hO : g < O9) (j : Nat) (u : Value) : SnSt B5 O9 B7 O13 w (wr.setCell ⟨g, j, none⟩ u) a0 a1 a2 na x0 x1 x2 x3 x4 nx ni := by
  have h2 := h.lt2; have h3 := h.lt3
  exact ⟨h.boxA.set_other u (by show O9 ≠ g; omega), h.boxX.set_other u (by show O13 ≠ g; omega), h.rowA.set g j u, h.rowI.set g j u, h.rowX.set g j u, h.bel.setCell (p := ⟨g, j, none⟩) hB u, h.lt1, h.lt2, h.lt3⟩
theorem SnSt.keep (h : SnSt B5 O9 B7 O13 w wr a0 a1 a2 na x0 x1 x2 x3 x4 nx ni) {w' : World} (hb : Below wr.heap.size wr w') : SnSt B5 O9 B7 O13 w w' a0 a1 a2 na x0 x1 x2 x3 x4 nx ni := by
  have h1 := h.lt1; have h2 := h.lt2; have h3 := h.lt3
  have hl := h.boxX.lt
  exact ⟨h.boxA.keep (hb.block _ h.boxA.lt), h.boxX.keep (hb.block _ hl), h.rowA.keep fun g hg => hb.block g (by omega), h.rowI.keep fun g hg => hb.block g (by omega), h.rowX.keep fun g hg => hb.block g (by omega), h.bel.trans (hb.mono (by omega)), h.lt1, h.lt2, h.lt3⟩
end
theorem since_smallS {m : RMap} (h : Small m) (s : List Int) : (sinceR m s).1.seen.length ≤ 1000000 ∧ (sinceR m s).1.items.length ≤ 1000000 ∧ (sinceR m s).1.gone.length ≤ 1000000 := by
  unfold sinceR
  split
  · have h1 := h.seen; have h2 := h.items; have h3 := h.gone
    have h4 := List.length_filter_le (fun x => !seqIn s x) m.items
    exact ⟨by show m.seen.length ≤ _; omega, by show (m.items.filter _).length ≤ _; omega, by show m.gone.length ≤ _; omega⟩
  · decide
theorem send_smallS {m : RMap} (h : Small m) (d : Int) (s : List Int) (hs : s.length ≤ 20) : SmallS (sendR d m s).1 := by
  have h1 := since_smallS h s
  have he : SmallS .empty := ⟨by decide, by decide, by decide, by decide⟩
  unfold sendR
  split
  · split
    · exact ⟨by show s.length ≤ _; omega, h1.1, h1.2.1, h1.2.2⟩
    · exact he
  · exact he
set_option maxRecDepth 100000 in
set_option maxHeartbeats 8000000 in
theorem ShareSince_walk (v sv : Value) (d : Int) (w : World) (hv : IsRMap w v) (hsv : IsInts w sv) (hd : (Lit.int .i64 d).wf = true) (hq : Tabs w ∧ 3 ≤ w.heap.size) :
    Calls Tryz.prog 3 #[v, sv, .int .i64 d] w fun e w' => e = .returned (.bool true) ∧ Below w.heap.size w w' := by
  obtain ⟨m, h⟩ := hv
  obtain ⟨s, hs64, hs⟩ := hsv
  have HTb := Lib.hid (show ∀ w', Below w.heap.size w w' → Tabs w' ∧ 3 ≤ w'.heap.size from fun w' hb => ⟨tabs_below hq.1 hq.2 hb, Nat.le_trans hq.2 hb.size⟩)
  clear hq
  obtain ⟨s1, s2, s3, rfl, h⟩ := h
  obtain ⟨a1, p1, rfl, -⟩ := h.seen.shape
  obtain ⟨a2, p2, rfl, -⟩ := h.items.shape
  obtain ⟨a3, p3, rfl, -⟩ := h.gone.shape
  obtain ⟨wx, hwx⟩ : ∃ wx, wx = w.alloc (.cells #[.slice a1 m.seen.length p1, .slice a2 m.items.length p2, .slice a3 m.gone.length p3] 26) := ⟨_, rfl⟩
  have hbx : Below w.heap.size w wx := by rw [hwx]; exact kept_alloc _ _
  have hzx : wx.heap.size = w.heap.size + 1 := by rw [hwx]; simp
  have hx := h.keep (w' := wx) fun b _ hlt => hbx.block b hlt
  have hnx : Blk wx w.heap.size [.slice a1 m.seen.length p1, .slice a2 m.items.length p2, .slice a3 m.gone.length p3] 26 := by rw [hwx]; exact Blk.new _ _ _
  have Hx := Lib.hid hx
  have Hwx := Lib.hid hwx; have Hbx := Lib.hid hbx; have Hzx := Lib.hid hzx
  have Hnx := Lib.hid hnx
  clear hx hwx hbx hnx hzx h
  obtain ⟨al, cl, rfl, -⟩ := hs.shape
  have hls := hs.len
  unfold maxLen at hls
  have hMa := Hx.out
  have HR := Lib.hid (show ∀ W, Below wx.heap.size wx W → Below w.heap.size w W ∧ Blk W w.heap.size [.slice a1 m.seen.length p1, .slice a2 m.items.length p2, .slice a3 m.gone.length p3] 26 ∧ MapIn (fun q => q < w.heap.size) W (.slice a1 m.seen.length p1) (.slice a2 m.items.length p2) (.slice a3 m.gone.length p3) m ∧ Rows (fun q => q < w.heap.size) W 1 (.slice al s.length cl) s.length (s.map eI) from fun W hW => by
    have hz := Hzx.out
    have hB : Below w.heap.size w W := Hbx.out.trans (hW.mono (by omega))
    exact ⟨hB, Hnx.out.keep (hW.block _ Hnx.out.lt), hMa.keep (w' := W) fun q hq _ => (hB.block q hq).trans (Hbx.out.block q hq).symm, hs.keep (w' := W) fun q hq _ => hB.block q hq⟩)
  have HF := Lib.hid (few_any wx _ (.agg #[.slice a1 m.seen.length p1, .slice a2 m.items.length p2, .slice a3 m.gone.length p3]) m ⟨_, _, _, rfl, (HR.out wx (Below.refl _ _)).2.2.1⟩)
  obtain ⟨c0, c1, c2⟩ := cell3 (HR.out wx (Below.refl _ _)).2.1
  clear hMa hs hs64 hd
  go_enter Tryz.func3, Tryz.ntmps3
  go_wp2_with fail
  rw [← Hwx.out]
  refine HF.out.mono ?_
  rintro e w1 ⟨r, rfl, hsm, hb1⟩
  have HB1 := Lib.hid (HR.out w1 hb1).1
  have Hb1 := Lib.hid hb1
  clear HF c0 c1 c2
  cases r with
  | false =>
    clear hsm hb1
    go_wp2_with fail
    go_ret
    exact ⟨rfl, HB1.out⟩
  | true =>
    have Hsm := Lib.hid (hsm rfl)
    by_cases h20 : (s.length : Int) > 20
    · have dd : decide ((s.length : Int) > 20) = true := by simpa using h20
      clear hsm hb1
      go_wp2_with fail
      go_ret
      exact ⟨rfl, HB1.out⟩
    have dd : decide ((s.length : Int) > 20) = false := by simpa using h20
    have Hs20 := Lib.hid (show s.length ≤ 20 by omega)
    have HkI := Lib.hid (show ∀ y ∈ m.items, y.key.length ≤ 1000000 from fun y hy => by have := Hsm.out.ikeys y hy; omega)
    have HkG := Lib.hid (show ∀ y ∈ m.gone, y.key.length ≤ 1000000 from fun y hy => by have := Hsm.out.gkeys y hy; omega)
    obtain ⟨-, kM, mM, -⟩ := HR.out w1 hb1
    obtain ⟨c0, c1, c2⟩ := cell3 kM
    have HG := Lib.hid (given_any w1 _ (.agg #[.slice a1 m.seen.length p1, .slice a2 m.items.length p2, .slice a3 m.gone.length p3]) m ⟨_, _, _, rfl, mM⟩ (by have := Hsm.out.seen; omega) (by have := Hsm.out.items; omega) (by have := Hsm.out.gone; omega))
    clear hsm hb1 kM mM
    go_wp2_with fail
    refine HG.out.mono ?_
    rintro e w2 ⟨v2, rfl, hi, hb2⟩
    clear HG c0 c1 c2
    obtain ⟨s1i, s2i, s3i, rfl, hi⟩ := hi
    obtain ⟨a1i, p1i, rfl, -⟩ := hi.seen.shape
    obtain ⟨a2i, p2i, rfl, -⟩ := hi.items.shape
    obtain ⟨a3i, p3i, rfl, -⟩ := hi.gone.shape
    obtain ⟨wxi, hwxi⟩ : ∃ wx, wx = w2.alloc (.cells #[.slice a1i m.seen.length p1i, .slice a2i m.items.length p2i, .slice a3i m.gone.length p3i] 31) := ⟨_, rfl⟩
    have hbxi : Below w2.heap.size w2 wxi := by rw [hwxi]; exact kept_alloc _ _
    have hzxi : wxi.heap.size = w2.heap.size + 1 := by rw [hwxi]; simp
    have hxi := hi.keep (w' := wxi) fun b _ hlt => hbxi.block b hlt
    have hnxi : Blk wxi w2.heap.size [.slice a1i m.seen.length p1i, .slice a2i m.items.length p2i, .slice a3i m.gone.length p3i] 31 := by rw [hwxi]; exact Blk.new _ _ _
    have Hxi := Lib.hid hxi
    have Hwxi := Lib.hid hwxi; have Hbxi := Lib.hid hbxi; have Hzxi := Lib.hid hzxi
    have Hnxi := Lib.hid hnxi
    clear hxi hwxi hbxi hnxi hzxi hi
    have hb12 : Below w1.heap.size w1 wxi := hb2.trans (Hbxi.out.mono hb2.size)
    have hL3 := Hb1.out.trans (hb12.mono Hb1.out.size)
    have hmb : MB wxi w2.heap.size m := ⟨_, _, _, _, _, _, Hnxi.out, Hxi.out.mono fun q _ hlt => hlt⟩
    -- the numbers
    obtain ⟨i0, t1', t2', t3', t4'⟩ := info_parts infoI
    obtain ⟨vn, w4, hr4, hown4, hg4⟩ := run_append_rows (P := Tryz.prog) (wxi.alloc (.cells #[] 3)) wxi.heap.size 22 3 Tryz.underlying22 t1' t2' t3' t4' rfl (by decide) (.slice (some ⟨wxi.heap.size, 0, none⟩) 0 0) 0 []
      ⟨rfl, .inr ⟨wxi.heap.size, 0, #[], rfl, Nat.le_refl _, by unfold World.alloc; simp, Nat.le_refl _, by unfold maxLen; omega, rfl, rfl⟩⟩ _ _ s.length (s.map eI) ((HR.out wxi hL3).2.2.2.keep (w' := wxi.alloc (.cells #[] 3)) fun b _ hlt => Below.heap_alloc _ _ _ hlt) (one_eI s) (by have := Hs20.out; unfold maxLen; omega) (by have := Hs20.out; omega) (by simp)
    rw [Nat.zero_add, List.nil_append] at hown4
    obtain ⟨an, cn, rfl⟩ := own_shape hown4
    have hb34 : Below wxi.heap.size wxi w4 := (kept_alloc _ _).grown hg4 (by simp) (fun q hq => by simp [Value.ownBlock] at hq; omega)
    have hmb4 := hmb.keep hb34
    have hN4 : Rows (fun q => q < w4.heap.size) w4 1 (.slice an s.length cn) s.length (s.map eI) := (Rows.of_owns hown4).mono fun q hq _ => hq.2
    have hL4 := hL3.trans (hb34.mono hL3.size)
    have hB4 := (HR.out w4 hL4).1
    have hr4' := hr4
    rw [Hzxi.out, Hwxi.out] at hr4'
    have HmbI := Lib.hid hmb4; have HN4 := Lib.hid hN4; have HL4 := Lib.hid hL4; have HB4 := Lib.hid hB4
    obtain ⟨s1A, e1A, s2A, e2A, s3A, e3A, hBA, hMA⟩ := id hmb4
    obtain ⟨c0A, c1A, c2A⟩ := cell3 hBA
    have hU := since_any w4 (HTb.out _ hB4).1 (HTb.out _ hB4).2 _ _ (.agg #[.slice s1A m.seen.length e1A, .slice s2A m.items.length e2A, .slice s3A m.gone.length e3A]) m ⟨_, _, _, rfl, hMA⟩ HkI.out HkG.out (.slice an s.length cn) s hN4
    obtain ⟨mr, hmr⟩ : ∃ mr, sinceR m s = mr := ⟨_, rfl⟩
    have hks := since_smallS Hsm.out s
    rw [hmr] at hU hks
    obtain ⟨M, er⟩ := mr
    dsimp only at hks
    have HU := Lib.hid hU; have Hmr := Lib.hid hmr; have Hks := Lib.hid hks
    clear hU hmr hks hmb hmb4 hN4 hL4 hB4 hb34 hown4 hg4 hr4 hL3 hb12 hb2 t1' t2' t3' t4' hBA hMA
    go_wp2_with fail
    refine HU.out.mono ?_
    rintro e wm ⟨⟨r, rfl, ho, hbd⟩, hbm⟩
    obtain ⟨v1, v2, v3, rfl, ho⟩ := ho
    dsimp only at ho hbd ⊢
    obtain ⟨n1, m1, rfl⟩ := own_shape ho.seen
    obtain ⟨n2, m2, rfl⟩ := own_shape ho.items
    obtain ⟨n3, m3, rfl⟩ := own_shape ho.gone
    obtain ⟨O9, hO9⟩ : ∃ q, wm.heap.size = q := ⟨_, rfl⟩
    obtain ⟨w5, hw5⟩ : ∃ q, q = wm.alloc (.cells #[.slice n1 M.seen.length m1, .slice n2 M.items.length m2, .slice n3 M.gone.length m3] 31) := ⟨_, rfl⟩
    have hk5 : Below wm.heap.size wm w5 := by rw [hw5]; exact kept_alloc _ _
    have hz5 : w5.heap.size = O9 + 1 := by rw [hw5, ← hO9]; simp
    have h45 : Below w4.heap.size w4 w5 := hbm.trans (hk5.mono hbm.size)
    have HmA := Lib.hid (show MapIn (fun q => q < w5.heap.size) w5 (.slice n1 M.seen.length m1) (.slice n2 M.items.length m2) (.slice n3 M.gone.length m3) M from ((ho.below hk5).map hbd).mono fun q _ hlt => hlt)
    have HrA := Lib.hid (show Blk w5 O9 [.slice n1 M.seen.length m1, .slice n2 M.items.length m2, .slice n3 M.gone.length m3] 31 ∧ WRow w4.heap.size O9 w5 (.slice n1 M.seen.length m1) M.seen.length 1 ∧ w4.heap.size ≤ O9 from ⟨by rw [hw5, ← hO9]; exact Blk.new _ _ _, (WRow.of_own ho.seen (by rw [hO9]; exact Nat.le_refl _)).keep fun g hg => hk5.block g (by omega), by rw [← hO9]; exact hbm.size⟩)
    have H45 := Lib.hid h45; have Hw5 := Lib.hid hw5; have Hz5 := Lib.hid hz5
    have hL5 := HL4.out.trans (h45.mono HL4.out.size)
    have HL5 := Lib.hid hL5
    clear hw5 hk5 hz5 h45 ho hbd hbm HU c0A c1A c2A hr4'
    -- the reference
    obtain ⟨-, kM, mM, sS⟩ := HR.out w5 hL5
    have hR := rsince_any w5 _ _ (.agg #[.slice a1 m.seen.length p1, .slice a2 m.items.length p2, .slice a3 m.gone.length p3]) m ⟨_, _, _, rfl, mM⟩ (fun y hy => by have := HkI.out y hy; omega) (fun y hy => by have := HkG.out y hy; omega) (.slice al s.length cl) s sS
    rw [Hmr.out] at hR
    have HRr := Lib.hid hR
    obtain ⟨c0, c1, c2⟩ := cell3 kM
    rw [Hw5.out] at c0 c1 c2
    clear hR kM mM sS hL5
    go_wp2_with fail
    try rw [hO9]
    rw [← Hw5.out]
    refine HRr.out.mono ?_
    rintro e wn ⟨r, rfl, hmv, hbn⟩
    obtain ⟨v1, v2, v3, rfl, hmi⟩ := hmv
    dsimp only at hmi ⊢
    obtain ⟨f1, h1', rfl, -⟩ := hmi.seen.shape
    obtain ⟨f2, h2', rfl, -⟩ := hmi.items.shape
    obtain ⟨f3, h3', rfl, -⟩ := hmi.gone.shape
    obtain ⟨O11, hO11⟩ : ∃ q, wn.heap.size = q := ⟨_, rfl⟩
    obtain ⟨w6, hw6⟩ : ∃ q, q = wn.alloc (.cells #[.slice f1 M.seen.length h1', .slice f2 M.items.length h2', .slice f3 M.gone.length h3'] 26) := ⟨_, rfl⟩
    have hk6 : Below wn.heap.size wn w6 := by rw [hw6]; exact kept_alloc _ _
    have h56 : Below w5.heap.size w5 w6 := hbn.trans (hk6.mono hbn.size)
    have HmB := Lib.hid (show MapIn (fun q => q < w6.heap.size) w6 (.slice f1 M.seen.length h1') (.slice f2 M.items.length h2') (.slice f3 M.gone.length h3') M from (hmi.keep (w' := w6) fun q _ hlt => hk6.block q hlt).mono fun q _ hlt => hlt)
    have HbB := Lib.hid (show Blk w6 O11 [.slice f1 M.seen.length h1', .slice f2 M.items.length h2', .slice f3 M.gone.length h3'] 26 by rw [hw6, ← hO11]; exact Blk.new _ _ _)
    have H56 := Lib.hid h56; have Hw6 := Lib.hid hw6
    have hL6 := HL5.out.trans (h56.mono HL5.out.size)
    have HL6 := Lib.hid hL6
    have h46 := H45.out.trans (h56.mono H45.out.size)
    have H46 := Lib.hid h46
    have hB6 := (HR.out w6 hL6).1
    have HB6 := Lib.hid hB6
    clear hw6 hk6 h56 hmi hbn HRr c0 c1 c2
    -- Send
    obtain ⟨s1B, e1B, s2B, e2B, s3B, e3B, hBB, hMB⟩ := HmbI.out.keep h46
    obtain ⟨c0B, c1B, c2B⟩ := cell3 hBB
    rw [Hw6.out] at c0B c1B c2B
    have hU := send_any w6 (HTb.out _ hB6).1 (HTb.out _ hB6).2 _ _ d (.agg #[.slice s1B m.seen.length e1B, .slice s2B m.items.length e2B, .slice s3B m.gone.length e3B]) m ⟨_, _, _, rfl, hMB⟩ HkI.out HkG.out (.slice an s.length cn) s (HN4.out.keep (w' := w6) fun q hq _ => h46.block q hq)
    obtain ⟨mr2, hmr2⟩ : ∃ mr, sendR d m s = mr := ⟨_, rfl⟩
    have hks2 := send_smallS Hsm.out d s Hs20.out
    rw [hmr2] at hU hks2
    obtain ⟨X, ex⟩ := mr2
    dsimp only at hks2
    have HU := Lib.hid hU; have Hmr2 := Lib.hid hmr2; have Hks2 := Lib.hid hks2
    clear hU hmr2 hks2 hBB hMB hL6 h46 hB6
    go_wp2_with fail
    try rw [hO11]
    rw [← Hw6.out]
    refine HU.out.mono ?_
    rintro e wm2 ⟨⟨r, rfl, ho, hbd⟩, hbm⟩
    obtain ⟨v0, v1, v2, v3, rfl, ho⟩ := ho
    dsimp only at ho hbd ⊢
    obtain ⟨l0, o0, rfl⟩ := own_shape ho.seen
    obtain ⟨l1, o1, rfl⟩ := own_shape ho.tell.seen
    obtain ⟨l2, o2, rfl⟩ := own_shape ho.tell.items
    obtain ⟨l3, o3, rfl⟩ := own_shape ho.tell.gone
    obtain ⟨O13, hO13⟩ : ∃ q, wm2.heap.size = q := ⟨_, rfl⟩
    obtain ⟨w7, hw7⟩ : ∃ q, q = wm2.alloc (.cells #[.int .i64 X.frm, .slice l0 X.seen.length o0, .slice l1 X.tell.seen.length o1, .slice l2 X.tell.items.length o2, .slice l3 X.tell.gone.length o3] 39) := ⟨_, rfl⟩
    have hk7 : Below wm2.heap.size wm2 w7 := by rw [hw7]; exact kept_alloc _ _
    have h67 : Below w6.heap.size w6 w7 := hbm.trans (hk7.mono hbm.size)
    have HmX := Lib.hid (show MsgIn (fun q => q < w7.heap.size) w7 (.slice l0 X.seen.length o0) (.slice l1 X.tell.seen.length o1) (.slice l2 X.tell.items.length o2) (.slice l3 X.tell.gone.length o3) X from ((ho.below hk7).msg hbd).mono fun q _ hlt => hlt)
    have H67 := Lib.hid h67; have Hw7 := Lib.hid hw7
    have h57 := H56.out.trans (h67.mono H56.out.size)
    have Hst := Lib.hid (show SnSt w4.heap.size O9 w6.heap.size O13 w4 w7 (.slice n1 M.seen.length m1) (.slice n2 M.items.length m2) (.slice n3 M.gone.length m3) M.seen.length (.int .i64 X.frm) (.slice l0 X.seen.length o0) (.slice l1 X.tell.seen.length o1) (.slice l2 X.tell.items.length o2) (.slice l3 X.tell.gone.length o3) X.seen.length X.tell.items.length from
      ⟨HrA.out.1.keep (h57.block _ HrA.out.1.lt), by rw [hw7, ← hO13]; exact Blk.new _ _ _, HrA.out.2.1.keep fun g hg => h57.block g (by have := Hz5.out; omega), (WRow.of_own ho.tell.items (by rw [hO13]; exact Nat.le_refl _)).keep fun g hg => hk7.block g (by omega), (WRow.of_own ho.seen (by rw [hO13]; exact Nat.le_refl _)).keep fun g hg => hk7.block g (by omega), H46.out.trans (h67.mono H46.out.size), HrA.out.2.2, by have := Hz5.out; have := H56.out.size; omega, by rw [← hO13]; exact hbm.size⟩)
    have hL7 := HL6.out.trans (h67.mono HL6.out.size)
    have HL7 := Lib.hid hL7
    clear hw7 hk7 h67 h57 ho hbd hbm HU c0B c1B c2B
    -- Send of the reference
    obtain ⟨-, kM, mM, sS⟩ := HR.out w7 hL7
    have hR := rsend_any w7 _ _ d (.agg #[.slice a1 m.seen.length p1, .slice a2 m.items.length p2, .slice a3 m.gone.length p3]) m ⟨_, _, _, rfl, mM⟩ (fun y hy => by have := HkI.out y hy; omega) (fun y hy => by have := HkG.out y hy; omega) (.slice al s.length cl) s sS
    rw [Hmr2.out] at hR
    have HRr := Lib.hid hR
    obtain ⟨c0, c1, c2⟩ := cell3 kM
    rw [Hw7.out] at c0 c1 c2
    clear hR kM mM sS hL7
    go_wp2_with fail
    try rw [hO13]
    rw [← Hw7.out]
    refine HRr.out.mono ?_
    rintro e wn2 ⟨r, rfl, hmv, hbn⟩
    obtain ⟨v0, v1, v2, v3, rfl, hmi⟩ := hmv
    dsimp only at hmi ⊢
    obtain ⟨j0, k0', rfl, -⟩ := hmi.seen.shape
    obtain ⟨j1, k1', rfl, -⟩ := hmi.tell.seen.shape
    obtain ⟨j2, k2', rfl, -⟩ := hmi.tell.items.shape
    obtain ⟨j3, k3', rfl, -⟩ := hmi.tell.gone.shape
    obtain ⟨O15, hO15⟩ : ∃ q, wn2.heap.size = q := ⟨_, rfl⟩
    obtain ⟨w8, hw8⟩ : ∃ q, q = wn2.alloc (.cells #[.int .i64 X.frm, .slice j0 X.seen.length k0', .slice j1 X.tell.seen.length k1', .slice j2 X.tell.items.length k2', .slice j3 X.tell.gone.length k3'] 43) := ⟨_, rfl⟩
    have hk8 : Below wn2.heap.size wn2 w8 := by rw [hw8]; exact kept_alloc _ _
    have h78 : Below w7.heap.size w7 w8 := hbn.trans (hk8.mono hbn.size)
    have h68 := H67.out.trans (h78.mono H67.out.size)
    have h58 := H56.out.trans (h68.mono H56.out.size)
    have HmY := Lib.hid (show MsgIn (fun q => q < w8.heap.size) w8 (.slice j0 X.seen.length k0') (.slice j1 X.tell.seen.length k1') (.slice j2 X.tell.items.length k2') (.slice j3 X.tell.gone.length k3') X from (hmi.keep (w' := w8) fun q _ hlt => hk8.block q hlt).mono fun q _ hlt => hlt)
    have kY : Blk w8 O15 [.int .i64 X.frm, .slice j0 X.seen.length k0', .slice j1 X.tell.seen.length k1', .slice j2 X.tell.items.length k2', .slice j3 X.tell.gone.length k3'] 43 := by rw [hw8, ← hO15]; exact Blk.new _ _ _
    have hst8 := Hst.out.keep h78
    have kB := HbB.out.keep (h68.block _ HbB.out.lt)
    have pa0 : ∀ w', Later w8.drew w' → w'.cell? _ = _ := fun w' hh => laterC (cell3 hst8.boxA).1 hh
    have pa1 : ∀ w', Later w8.drew w' → w'.cell? _ = _ := fun w' hh => laterC (cell3 hst8.boxA).2.1 hh
    have pa2 : ∀ w', Later w8.drew w' → w'.cell? _ = _ := fun w' hh => laterC (cell3 hst8.boxA).2.2 hh
    have pb0 : ∀ w', Later w8.drew w' → w'.cell? _ = _ := fun w' hh => laterC (cell3 kB).1 hh
    have pb1 : ∀ w', Later w8.drew w' → w'.cell? _ = _ := fun w' hh => laterC (cell3 kB).2.1 hh
    have pb2 : ∀ w', Later w8.drew w' → w'.cell? _ = _ := fun w' hh => laterC (cell3 kB).2.2 hh
    have HC := Lib.hid (show ∀ a u, w8.cell? a = some u → ∀ w', Below w8.heap.size w8 w' → w'.cell? a = some u from fun a u h w' hh => (hh.cell (p := a) (cellLt h)).trans h)
    have HcX := Lib.hid (cell5 hst8.boxX)
    have HcY := Lib.hid (cell5 kY)
    have Hst8 := Lib.hid hst8; have Hw8 := Lib.hid hw8; have H58 := Lib.hid h58; have H68 := Lib.hid h68; have H78 := Lib.hid h78
    have HL8 := Lib.hid (HL7.out.trans (h78.mono HL7.out.size))
    clear hw8 hk8 h78 h68 h58 hmi hbn HRr c0 c1 c2 kY kB hst8
    go_wp2_with fail
    try rw [hO15]
    rw [← Hw8.out]
    refine wp_region_can Later [(0, true), (1, true), (2, true), (3, true), (4, true), (5, true), (6, false), (7, true), (8, true), (9, true), (10, true), (11, true), (12, true), (13, true), (14, true), (15, true), (17, true), (16, false), (18, false), (19, true), (20, true)] (by kernel_rfl) (by kernel_rfl) later_refl later_trans ?_
    repeat (first
      | (refine can_yes (v := ?_) rfl (wanted_none rfl) (fun w' hC => ?_) (fun K hK => ?_); rotate_left; (focus (go_simp; first | done | exact rfl)); go_simp; refine hK _ ?_; clear hK K)
      | (refine can_guard rfl (fun A B hA hB => ?_); go_simp; first | (refine hA ⟨?_, fun w' hC => ?_, fun K hK => ?_⟩; rotate_left; (focus (go_simp; first | done | exact rfl)); go_simp; refine hK _ ?_; clear hK K hA hB A B) | (refine hB (fun K hK => ?_); go_simp; refine hK _ ?_; clear hK K hA hB A B))
      | (refine can_guard_go rfl (fun A B hA hB => ?_); go_simp; refine hB (fun K hK => ?_); go_simp; refine hK _ ?_; clear hK K hA hB A B))
    clear pa0 pa1 pa2 pb0 pb1 pb2
    have hbd := (Below.refl w8.heap.size w8).drew
    refine can_go rfl rfl (fun KK hK => ?_)
    go_simp
    refine (same_any w8.drew _ _ (.agg #[.slice n1 M.seen.length m1, .slice n2 M.items.length m2, .slice n3 M.gone.length m3]) (.agg #[.slice f1 M.seen.length h1', .slice f2 M.items.length h2', .slice f3 M.gone.length h3']) M M ⟨_, _, _, rfl, HmA.out.keep (w' := w8.drew) fun q hq _ => H58.out.block q hq⟩ ⟨_, _, _, rfl, HmB.out.keep (w' := w8.drew) fun q hq _ => H68.out.block q hq⟩ Hks.out.1 Hks.out.2.1 Hks.out.2.2).mono ?_
    rintro e w9 ⟨r, rfl, hr, hb9⟩
    obtain rfl : r = true := hr.2 rfl
    have h89 := hbd.trans hb9
    refine ⟨_, rfl, hb9, hK _ _ ?_⟩
    clear hK KK hr
    go_simp
    have pX0 : ∀ w', Later w9 w' → w'.cell? _ = _ := fun w' hh => HC.out _ _ HcX.out.1 w' (h89.trans (RowKit.Below.mono hh h89.size))
    have pX1 : ∀ w', Later w9 w' → w'.cell? _ = _ := fun w' hh => HC.out _ _ HcX.out.2.1 w' (h89.trans (RowKit.Below.mono hh h89.size))
    have pX2 : ∀ w', Later w9 w' → w'.cell? _ = _ := fun w' hh => HC.out _ _ HcX.out.2.2.1 w' (h89.trans (RowKit.Below.mono hh h89.size))
    have pX3 : ∀ w', Later w9 w' → w'.cell? _ = _ := fun w' hh => HC.out _ _ HcX.out.2.2.2.1 w' (h89.trans (RowKit.Below.mono hh h89.size))
    have pX4 : ∀ w', Later w9 w' → w'.cell? _ = _ := fun w' hh => HC.out _ _ HcX.out.2.2.2.2 w' (h89.trans (RowKit.Below.mono hh h89.size))
    have pY0 : ∀ w', Later w9 w' → w'.cell? _ = _ := fun w' hh => HC.out _ _ HcY.out.1 w' (h89.trans (RowKit.Below.mono hh h89.size))
    have pY1 : ∀ w', Later w9 w' → w'.cell? _ = _ := fun w' hh => HC.out _ _ HcY.out.2.1 w' (h89.trans (RowKit.Below.mono hh h89.size))
    have pY2 : ∀ w', Later w9 w' → w'.cell? _ = _ := fun w' hh => HC.out _ _ HcY.out.2.2.1 w' (h89.trans (RowKit.Below.mono hh h89.size))
    have pY3 : ∀ w', Later w9 w' → w'.cell? _ = _ := fun w' hh => HC.out _ _ HcY.out.2.2.2.1 w' (h89.trans (RowKit.Below.mono hh h89.size))
    have pY4 : ∀ w', Later w9 w' → w'.cell? _ = _ := fun w' hh => HC.out _ _ HcY.out.2.2.2.2 w' (h89.trans (RowKit.Below.mono hh h89.size))
    repeat (first
      | (refine can_yes (v := ?_) rfl (wanted_none rfl) (fun w' hC => ?_) (fun K hK => ?_); rotate_left; (focus (go_simp; first | done | exact rfl)); go_simp; refine hK _ ?_; clear hK K)
      | (refine can_guard rfl (fun A B hA hB => ?_); go_simp; first | (refine hA ⟨?_, fun w' hC => ?_, fun K hK => ?_⟩; rotate_left; (focus (go_simp; first | done | exact rfl)); go_simp; refine hK _ ?_; clear hK K hA hB A B) | (refine hB (fun K hK => ?_); go_simp; refine hK _ ?_; clear hK K hA hB A B))
      | (refine can_guard_go rfl (fun A B hA hB => ?_); go_simp; refine hB (fun K hK => ?_); go_simp; refine hK _ ?_; clear hK K hA hB A B))
    clear pX0 pX1 pX2 pX3 pX4 pY0 pY1 pY2 pY3 pY4
    refine can_go rfl rfl (fun KK hK => ?_)
    go_simp
    refine (got_any w9 _ (.agg #[.int .i64 X.frm, .slice l0 X.seen.length o0, .slice l1 X.tell.seen.length o1, .slice l2 X.tell.items.length o2, .slice l3 X.tell.gone.length o3]) X ⟨_, _, _, _, rfl, HmX.out.keep (w' := w9) fun q hq _ => (h89.block q (Nat.lt_of_lt_of_le hq H78.out.size)).trans (H78.out.block q hq)⟩ Hks2.out).mono ?_
    rintro e w10 ⟨v10, rfl, hv10, hb10⟩
    have h810 := h89.trans (hb10.mono h89.size)
    refine ⟨_, rfl, hb10, hK _ _ ?_⟩
    clear hK KK
    go_simp
    refine can_go rfl rfl (fun KK hK => ?_)
    go_simp
    refine (sameS_any w10 _ _ v10 (.agg #[.int .i64 X.frm, .slice j0 X.seen.length k0', .slice j1 X.tell.seen.length k1', .slice j2 X.tell.items.length k2', .slice j3 X.tell.gone.length k3']) X X hv10 ⟨_, _, _, _, rfl, HmY.out.keep (w' := w10) fun q hq _ => h810.block q hq⟩).mono ?_
    rintro e w11 ⟨r, rfl, hr, hb11⟩
    obtain rfl : r = true := hr.2 rfl
    have h811 := h810.trans (hb11.mono h810.size)
    refine ⟨_, rfl, hb11, hK _ _ ?_⟩
    have Hst11 := Lib.hid (Hst8.out.keep h811)
    have hln1 := Hks2.out.items
    have hln2 := Hks.out.1
    have hln3 := Hks2.out.seen
    clear hK KK hr hv10 hbd h89 h810 h811 hb9 hb10 hb11
    go_simp
    repeat (first
      | (refine can_yes (v := ?_) rfl (wanted_none rfl) (fun w' hC => ?_) (fun K hK => ?_); rotate_left; (focus (go_simp; first | done | exact rfl)); go_simp; refine hK _ ?_; clear hK K)
      | (refine can_guard rfl (fun A B hA hB => ?_); go_simp; first | (refine hA ⟨?_, fun w' hC => ?_, fun K hK => ?_⟩; rotate_left; (focus (go_simp; first | done | exact rfl)); go_simp; refine hK _ ?_; clear hK K hA hB A B) | (refine hB (fun K hK => ?_); go_simp; refine hK _ ?_; clear hK K hA hB A B))
      | (refine can_guard_go rfl (fun A B hA hB => ?_); go_simp; refine hB (fun K hK => ?_); go_simp; refine hK _ ?_; clear hK K hA hB A B))
    refine can_nil ?_
    clear hO9 hO11 hO13 hO15
    go_wp2_with fail
    go_loopw [17] (fun i wr => ∃ k : Nat, k ≤ X.tell.items.length ∧ i = .int .i64 (k : Int) ∧ SnSt w4.heap.size O9 w6.heap.size O13 w4 wr (.slice n1 M.seen.length m1) (.slice n2 M.items.length m2) (.slice n3 M.gone.length m3) M.seen.length (.int .i64 X.frm) (.slice l0 X.seen.length o0) (.slice l1 X.tell.seen.length o1) (.slice l2 X.tell.items.length o2) (.slice l3 X.tell.gone.length o3) X.seen.length X.tell.items.length) (fun i _ => X.tell.items.length - (intOf i).toNat)
    case atStart => exact ⟨0, by omega, rfl, Hst11.out⟩
    case round =>
      skip
      obtain ⟨k, hk, rfl, hst⟩ := hrel
      obtain ⟨e0, e1, e2⟩ := cell3 hst.boxA
      obtain ⟨f0, f1, f2, f3, f4⟩ := cell5 hst.boxX
      by_cases hkn : k < X.tell.items.length
      · have hkI : (k : Int) < (X.tell.items.length : Int) := by omega
        rcases id hst.rowI with h0 | ⟨g, cap, L, t, hv, hB, hA, hg, hlen⟩
        · omega
        · simp only [Value.slice.injEq, true_and] at hv
          obtain ⟨rfl, rfl⟩ := hv
          have hlt : k * 4 + 2 < L.length := by omega
          obtain ⟨z, y2⟩ : ∃ z, wr.cell? ⟨g, k * 4 + 2, none⟩ = some z := ⟨_, (hg.cell (k * 4 + 2)).trans (List.getElem?_eq_getElem hlt)⟩
          have f2' := hg.free (k * 4 + 2)
          have Hst' := Lib.hid (hst.setX hB hA (k * 4 + 2) (.int .i64 (-1)))
          clear hst hg hlen hlt
          go_wp2_with fail
          go_roundw
          case rel => exact ⟨k + 1, by omega, by go_num, Hst'.out⟩
          case measure => simp [intOf]; omega
      · have hkI : ¬ (k : Int) < (X.tell.items.length : Int) := by omega
        have Hst12 := Lib.hid hst
        clear hst f0 f1 f2 f4 e0 e1 e2 hkn hk
        go_wp2_with fail
        go_loopw [18] (fun i wr => ∃ k : Nat, k ≤ M.seen.length ∧ i = .int .i64 (k : Int) ∧ SnSt w4.heap.size O9 w6.heap.size O13 w4 wr (.slice n1 M.seen.length m1) (.slice n2 M.items.length m2) (.slice n3 M.gone.length m3) M.seen.length (.int .i64 X.frm) (.slice l0 X.seen.length o0) (.slice l1 X.tell.seen.length o1) (.slice l2 X.tell.items.length o2) (.slice l3 X.tell.gone.length o3) X.seen.length X.tell.items.length) (fun i _ => M.seen.length - (intOf i).toNat)
        case atStart => exact ⟨0, by omega, rfl, Hst12.out⟩
        case round =>
          rename World => wr2
          obtain ⟨k, hk, rfl, hst⟩ := hrel
          obtain ⟨e0, e1, e2⟩ := cell3 hst.boxA
          obtain ⟨f0, f1, f2, f3, f4⟩ := cell5 hst.boxX
          by_cases hkn : k < M.seen.length
          · have hkI : (k : Int) < (M.seen.length : Int) := by omega
            rcases id hst.rowA with h0 | ⟨g, cap, L, t, hv, hB, hA, hg, hlen⟩
            · omega
            · simp only [Value.slice.injEq, true_and] at hv
              obtain ⟨rfl, rfl⟩ := hv
              have hlt : k < L.length := by omega
              obtain ⟨z, y2⟩ : ∃ z, wr2.cell? ⟨g, k, none⟩ = some z := ⟨_, (hg.cell (k)).trans (List.getElem?_eq_getElem hlt)⟩
              have f2' := hg.free (k)
              have Hst' := Lib.hid (hst.setA hB hA (k) (.int .i64 (-1)))
              clear hst hg hlen hlt
              go_wp2_with fail
              go_roundw
              case rel => exact ⟨k + 1, by omega, by go_num, Hst'.out⟩
              case measure => simp [intOf]; omega
          · have hkI : ¬ (k : Int) < (M.seen.length : Int) := by omega
            have Hst13 := Lib.hid hst
            clear hst f0 f1 f2 f3 f4 e1 e2 hkn hk
            go_wp2_with fail
            go_loopw [19] (fun i wr => ∃ k : Nat, k ≤ X.seen.length ∧ i = .int .i64 (k : Int) ∧ SnSt w4.heap.size O9 w6.heap.size O13 w4 wr (.slice n1 M.seen.length m1) (.slice n2 M.items.length m2) (.slice n3 M.gone.length m3) M.seen.length (.int .i64 X.frm) (.slice l0 X.seen.length o0) (.slice l1 X.tell.seen.length o1) (.slice l2 X.tell.items.length o2) (.slice l3 X.tell.gone.length o3) X.seen.length X.tell.items.length) (fun i _ => X.seen.length - (intOf i).toNat)
            case atStart => exact ⟨0, by omega, rfl, Hst13.out⟩
            case round =>
              rename World => wr3
              obtain ⟨k, hk, rfl, hst⟩ := hrel
              obtain ⟨e0, e1, e2⟩ := cell3 hst.boxA
              obtain ⟨f0, f1, f2, f3, f4⟩ := cell5 hst.boxX
              by_cases hkn : k < X.seen.length
              · have hkI : (k : Int) < (X.seen.length : Int) := by omega
                rcases id hst.rowX with h0 | ⟨g, cap, L, t, hv, hB, hA, hg, hlen⟩
                · omega
                · simp only [Value.slice.injEq, true_and] at hv
                  obtain ⟨rfl, rfl⟩ := hv
                  have hlt : k < L.length := by omega
                  obtain ⟨z, y2⟩ : ∃ z, wr3.cell? ⟨g, k, none⟩ = some z := ⟨_, (hg.cell (k)).trans (List.getElem?_eq_getElem hlt)⟩
                  have f2' := hg.free (k)
                  have Hst' := Lib.hid (hst.setX hB hA (k) (.int .i64 (-1)))
                  clear hst hg hlen hlt
                  go_wp2_with fail
                  go_roundw
                  case rel => exact ⟨k + 1, by omega, by go_num, Hst'.out⟩
                  case measure => simp [intOf]; omega
              · have hkI : ¬ (k : Int) < (X.seen.length : Int) := by omega
                have Hst14 := Lib.hid hst
                clear hst f0 f2 f3 f4 e0 e1 e2 hkn hk
                have hls20 := Hs20.out
                go_wp2_with fail
                go_loopw [20] (fun i wr => ∃ k : Nat, k ≤ s.length ∧ i = .int .i64 (k : Int) ∧ Below w4.heap.size w4 wr) (fun i _ => s.length - (intOf i).toNat)
                case atStart => exact ⟨0, by omega, rfl, Hst14.out.bel⟩
                case round =>
                  rename World => wr4
                  obtain ⟨k, hk, rfl, hb⟩ := hrel
                  have hLr := HL4.out.trans (hb.mono HL4.out.size)
                  obtain ⟨hBr, kM, mM, sS⟩ := HR.out wr4 hLr
                  by_cases hkn : k < s.length
                  · have hkI : (k : Int) < (s.length : Int) := by omega
                    have hN := HN4.out.keep (w' := wr4) fun q hq _ => hb.block q hq
                    obtain ⟨bn, on, rfl, -, -, hcn⟩ := int_cell hN (by omega)
                    obtain ⟨bs, os, rfl, -, -, hcs⟩ := int_cell sS (by omega)
                    have g0 := hcn k hkn
                    have g1 := hcs k hkn
                    obtain ⟨y, hy⟩ : ∃ y, s[k] = y := ⟨_, rfl⟩
                    rw [hy] at g0 g1
                    have Hb := Lib.hid hb
                    clear hcn hcs hN hy kM mM sS hBr hLr hb f1
                    go_wp2_with fail
                    go_quiet (fail)
                    go_wp2_with fail
                    go_roundw
                    case rel => exact ⟨k + 1, by omega, by go_num, kept_drewN Hb.out _⟩
                    case measure => simp [intOf]; omega
                  · have hkI : ¬ (k : Int) < (s.length : Int) := by omega
                    obtain ⟨s1D, e1D, s2D, e2D, s3D, e3D, hBD, hMD⟩ := HmbI.out.keep hb
                    obtain ⟨c0D, c1D, c2D⟩ := cell3 hBD
                    obtain ⟨c0, c1, c2⟩ := cell3 kM
                    have HS := Lib.hid (same_any wr4 _ _ (.agg #[.slice s1D m.seen.length e1D, .slice s2D m.items.length e2D, .slice s3D m.gone.length e3D]) (.agg #[.slice a1 m.seen.length p1, .slice a2 m.items.length p2, .slice a3 m.gone.length p3]) m m ⟨_, _, _, rfl, hMD⟩ ⟨_, _, _, rfl, mM⟩ (by have := Hsm.out.seen; omega) (by have := Hsm.out.items; omega) (by have := Hsm.out.gone; omega))
                    have HBr := Lib.hid hBr
                    clear hBD hMD kM mM sS hBr hLr hb f1
                    go_wp2_with fail
                    refine HS.out.mono ?_
                    rintro e w15 ⟨r, rfl, hr, hb15⟩
                    obtain rfl : r = true := hr.2 rfl
                    have hB15 := HBr.out.trans (hb15.mono HBr.out.size)
                    have HB15 := Lib.hid hB15
                    have HWk := Lib.hid (works_any w15 (HTb.out _ hB15).1 (HTb.out _ hB15).2)
                    clear HS hr hb15 hB15 c0D c1D c2D c0 c1 c2
                    go_wp2_with fail
                    refine HWk.out.mono ?_
                    rintro e w16 ⟨rfl, hb16⟩
                    clear HWk
                    go_wp2_with fail
                    go_ret
                    exact ⟨rfl, HB15.out.trans (hb16.mono HB15.out.size)⟩
end Go.Proofs.YtkkacnfpdafadaaGreatDoor
