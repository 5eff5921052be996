/- The law RmapChecks. -/
import Derived.Test.YtbjkkmabafaogaaGreatDoorRWorks
import Derived.Test.YtbjkkmabafaogaaGreatDoorRRefF
import Derived.Test.YtbjkkmabafaogaaGreatDoorRArg
import Derived.Test.YtbjkkmabafaogaaGreatDoorLaidU
namespace Go.Proofs.YtbjkkmabafaogaaGreatDoor
open Go.RowKit Go.Lib
set_option linter.unusedVariables false
set_option maxRecDepth 20000

theorem RMap.new_small : RMap.new.seen.length ≤ 1000000 ∧ RMap.new.items.length ≤ 1000000 ∧ RMap.new.gone.length ≤ 1000000 := by decide

set_option maxRecDepth 100000 in
set_option maxHeartbeats 3000000 in
theorem RmapChecks_walk (v : Value) (w : World) (hv : IsRMap w v) (hq : Tabs w ∧ 3 ≤ w.heap.size) :
    Calls Tryz.prog 3 #[v] w fun e w' => e = .returned (.bool true) ∧ Below w.heap.size w w' := by
  obtain ⟨m, h⟩ := hv
  have HTb := Lib.hid (show ∀ w', Below w.heap.size w w' → Tabs w' ∧ 3 ≤ w'.heap.size from fun w' hb => ⟨tabs_below hq.1 hq.2 hb, Nat.le_trans hq.2 hb.size⟩)
  clear hq
  obtain ⟨s1, s2, s3, rfl, h⟩ := h
  obtain ⟨a1, p1, rfl, -⟩ := h.seen.shape
  obtain ⟨a2, p2, rfl, -⟩ := h.items.shape
  obtain ⟨a3, p3, rfl, -⟩ := h.gone.shape
  obtain ⟨wx, hwx⟩ : ∃ wx, wx = w.alloc (.cells #[.slice a1 m.seen.length p1, .slice a2 m.items.length p2, .slice a3 m.gone.length p3] 26) := ⟨_, rfl⟩
  have hbx : Below w.heap.size w wx := by rw [hwx]; exact kept_alloc _ _
  have hzx : wx.heap.size = w.heap.size + 1 := by rw [hwx]; simp
  have hx := h.keep (w' := wx) fun b _ hlt => hbx.block b hlt
  have hnx : Blk wx w.heap.size [.slice a1 m.seen.length p1, .slice a2 m.items.length p2, .slice a3 m.gone.length p3] 26 := by rw [hwx]; exact Blk.new _ _ _
  have Hx := Lib.hid hx
  have Hwx := Lib.hid hwx; have Hbx := Lib.hid hbx; have Hzx := Lib.hid hzx
  have Hnx := Lib.hid hnx
  clear hx hwx hbx hnx hzx h
  have HF := Lib.hid (few_any wx _ _ m ⟨_, _, _, rfl, Hx.out⟩)
  obtain ⟨c0, c1, c2⟩ := cell3 Hnx.out
  go_enter Tryz.func3, Tryz.ntmps3
  go_wp2_with fail
  rw [← Hwx.out]
  refine HF.out.mono ?_
  rintro e w1 ⟨r, rfl, hsm, hb1⟩
  have hb1' : Below w.heap.size w w1 := Hbx.out.trans (hb1.mono Hbx.out.size)
  cases r with
  | false =>
    clear HF
    have Hb1 := Lib.hid hb1'
    clear hb1' hb1 hsm
    go_wp2_with fail
    go_ret
    exact ⟨rfl, Hb1.out⟩
  | true =>
    have hsm := hsm rfl
    have kI : ∀ x ∈ m.items, x.key.length ≤ 1000000 := fun x hx => by have := hsm.ikeys x hx; omega
    have kG : ∀ x ∈ m.gone, x.key.length ≤ 1000000 := fun x hx => by have := hsm.gkeys x hx; omega
    have hS1 := Hx.out.keep (w' := w1) fun b _ hlt => hb1.block b hlt
    have hN1 := Hnx.out.keep (hb1.block _ Hnx.out.lt)
    have HG := Lib.hid (given_any w1 _ _ m ⟨_, _, _, rfl, hS1⟩ (by have := hsm.seen; omega) (by have := hsm.items; omega) (by have := hsm.gone; omega))
    clear c0 c1 c2
    obtain ⟨c0, c1, c2⟩ := cell3 hN1
    have Hb1 := Lib.hid hb1'; have HS1 := Lib.hid hS1; have HN1 := Lib.hid hN1; have Hsm := Lib.hid hsm; have HkI := Lib.hid kI; have HkG := Lib.hid kG
    have Hz1 := Lib.hid hb1.size
    clear HF hb1 hb1' hS1 hN1 hsm kI kG
    go_wp2_with fail
    refine HG.out.mono ?_
    rintro e w2 ⟨v2, rfl, hi, hb2⟩
    have hb2' : Below w.heap.size w w2 := Hb1.out.trans (hb2.mono Hb1.out.size)
    obtain ⟨s1i, s2i, s3i, rfl, hi⟩ := hi
    obtain ⟨a1i, p1i, rfl, -⟩ := hi.seen.shape
    obtain ⟨a2i, p2i, rfl, -⟩ := hi.items.shape
    obtain ⟨a3i, p3i, rfl, -⟩ := hi.gone.shape
    obtain ⟨wxi, hwxi⟩ : ∃ wx, wx = w2.alloc (.cells #[.slice a1i m.seen.length p1i, .slice a2i m.items.length p2i, .slice a3i m.gone.length p3i] 31) := ⟨_, rfl⟩
    have hbxi : Below w2.heap.size w2 wxi := by rw [hwxi]; exact kept_alloc _ _
    have hzxi : wxi.heap.size = w2.heap.size + 1 := by rw [hwxi]; simp
    have hxi := hi.keep (w' := wxi) fun b _ hlt => hbxi.block b hlt
    have hnxi : Blk wxi w2.heap.size [.slice a1i m.seen.length p1i, .slice a2i m.items.length p2i, .slice a3i m.gone.length p3i] 31 := by rw [hwxi]; exact Blk.new _ _ _
    have Hxi := Lib.hid hxi
    have Hwxi := Lib.hid hwxi; have Hbxi := Lib.hid hbxi; have Hzxi := Lib.hid hzxi
    have Hnxi := Lib.hid hnxi
    clear hxi hwxi hbxi hnxi hzxi hi
    have hb3 : Below w.heap.size w wxi := hb2'.trans (Hbxi.out.mono hb2'.size)
    have hw13 : Below w1.heap.size w1 wxi := hb2.trans (Hbxi.out.mono hb2.size)
    have HC := Lib.hid (check_any wxi (HTb.out _ hb3).1 (HTb.out _ hb3).2 _ _ m ⟨_, _, _, rfl, Hxi.out⟩ HkI.out HkG.out)
    clear c0 c1 c2
    obtain ⟨c0, c1, c2⟩ := cell3 Hnxi.out
    have Hb3 := Lib.hid hb3; have Hw13 := Lib.hid hw13
    clear HG hb2 hb2' hb3 hw13
    go_wp2_with fail
    rw [← Hwxi.out]
    refine HC.out.mono ?_
    rintro e w4 ⟨rfl, hb4⟩
    have hb4' : Below w.heap.size w w4 := Hb3.out.trans (hb4.mono Hb3.out.size)
    have hw14 : Below w1.heap.size w1 w4 := Hw13.out.trans (hb4.mono Hw13.out.size)
    have hS4 := HS1.out.keep (w' := w4) fun b _ hlt => hw14.block b hlt
    have hN4 := HN1.out.keep (hw14.block _ HN1.out.lt)
    have HV := Lib.hid (rvalid2_any w4 _ _ m ⟨_, _, _, rfl, hS4⟩ (fun x hx => by have := HkI.out x hx; omega) (fun x hx => by have := HkG.out x hx; omega))
    have hSi := Hxi.out.keep (w' := w4) fun b _ hlt => hb4.block b hlt
    have hNi := Hnxi.out.keep (hb4.block _ Hnxi.out.lt)
    clear c0 c1 c2
    obtain ⟨c0, c1, c2⟩ := cell3 hN4
    have Hb4 := Lib.hid hb4'; have HS4 := Lib.hid hS4; have HN4 := Lib.hid hN4; have HSi := Lib.hid hSi; have HNi := Lib.hid hNi
    clear HC hb4 hb4' hw14 hS4 hN4 hSi hNi Hw13
    obtain ⟨ok, hok⟩ : ∃ ok, validR m = ok := ⟨_, rfl⟩
    rw [hok] at HV ⊢
    clear hok
    cases ok with
    | false =>
      go_wp2_with fail
      refine HV.out.mono ?_
      rintro e w5 ⟨rfl, hb5⟩
      have hb5' : Below w.heap.size w w5 := Hb4.out.trans (hb5.mono Hb4.out.size)
      have hN5 := HN4.out.keep (hb5.block _ HN4.out.lt)
      have hNi5 := HNi.out.keep (hb5.block _ HNi.out.lt)
      have hS5 := HS4.out.keep (w' := w5) fun b _ hlt => hb5.block b hlt
      have hSi5 := HSi.out.keep (w' := w5) fun b _ hlt => hb5.block b hlt
      have HS := Lib.hid (same_any w5 _ _ _ _ m m ⟨_, _, _, rfl, hSi5⟩ ⟨_, _, _, rfl, hS5⟩ (by have := Hsm.out.seen; omega) (by have := Hsm.out.items; omega) (by have := Hsm.out.gone; omega))
      clear c0 c1 c2
      obtain ⟨c0, c1, c2⟩ := cell3 hN5
      obtain ⟨d0, d1, d2⟩ := cell3 hNi5
      have Hb5 := Lib.hid hb5'
      clear hb5 hb5' hN5 hNi5 hS5 hSi5 HV HN4 HNi HS4 HSi
      go_wp2_with fail
      refine HS.out.mono ?_
      rintro e w6 ⟨r, rfl, hr, hb6⟩
      obtain rfl : r = true := hr.2 rfl
      have Hb6 := Lib.hid (show Below w.heap.size w w6 from Hb5.out.trans (hb6.mono Hb5.out.size))
      have HN := Lib.hid (pnew_any w6)
      clear hr hb6 HS c0 c1 c2 d0 d1 d2
      go_wp2_with fail
      refine HN.out.mono ?_
      rintro e w7 ⟨v7, rfl, hm7, hb7⟩
      have Hb7 := Lib.hid (show Below w.heap.size w w7 from Hb6.out.trans (hb7.mono Hb6.out.size))
      have HN2 := Lib.hid (rnew_any w7)
      obtain ⟨t1, t2, t3, rfl, hm7⟩ := hm7
      have Hm7 := Lib.hid hm7
      clear hb7 HN hm7
      go_wp2_with fail
      refine HN2.out.mono ?_
      rintro e w8 ⟨v8, rfl, hm8, hb8⟩
      have Hb8 := Lib.hid (show Below w.heap.size w w8 from Hb7.out.trans (hb8.mono Hb7.out.size))
      have HS := Lib.hid (same_any w8 _ _ _ _ .new .new ⟨_, _, _, rfl, Hm7.out.keep (w' := w8) fun b _ hlt => hb8.block b hlt⟩ hm8 RMap.new_small.1 RMap.new_small.2.1 RMap.new_small.2.2)
      obtain ⟨u1, u2, u3, rfl, hm8⟩ := hm8
      clear hb8 HN2 hm8
      go_wp2_with fail
      refine HS.out.mono ?_
      rintro e w9 ⟨r, rfl, hr, hb9⟩
      obtain rfl : r = true := hr.2 rfl
      have Hb9 := Lib.hid (show Below w.heap.size w w9 from Hb8.out.trans (hb9.mono Hb8.out.size))
      have HW := Lib.hid (works_any w9 (HTb.out _ Hb9.out).1 (HTb.out _ Hb9.out).2)
      clear hr hb9 HS
      go_wp2_with fail
      refine HW.out.mono ?_
      rintro e wf ⟨rfl, hbf⟩
      clear HW
      go_wp2_with fail
      go_ret
      exact ⟨rfl, Hb9.out.trans (hbf.mono Hb9.out.size)⟩
    | true =>
      go_wp2_with fail
      refine HV.out.mono ?_
      rintro e w5 ⟨rfl, hb5⟩
      have hb5' : Below w.heap.size w w5 := Hb4.out.trans (hb5.mono Hb4.out.size)
      have hN5 := HN4.out.keep (hb5.block _ HN4.out.lt)
      have hNi5 := HNi.out.keep (hb5.block _ HNi.out.lt)
      have hS5 := HS4.out.keep (w' := w5) fun b _ hlt => hb5.block b hlt
      have hSi5 := HSi.out.keep (w' := w5) fun b _ hlt => hb5.block b hlt
      have HS := Lib.hid (same_any w5 _ _ _ _ m m ⟨_, _, _, rfl, hSi5⟩ ⟨_, _, _, rfl, hS5⟩ (by have := Hsm.out.seen; omega) (by have := Hsm.out.items; omega) (by have := Hsm.out.gone; omega))
      clear c0 c1 c2
      obtain ⟨c0, c1, c2⟩ := cell3 hN5
      obtain ⟨d0, d1, d2⟩ := cell3 hNi5
      have Hb5 := Lib.hid hb5'
      clear hb5 hb5' hN5 hNi5 hS5 hSi5 HV HN4 HNi HS4 HSi
      go_wp2_with fail
      refine HS.out.mono ?_
      rintro e w6 ⟨r, rfl, hr, hb6⟩
      obtain rfl : r = true := hr.2 rfl
      have Hb6 := Lib.hid (show Below w.heap.size w w6 from Hb5.out.trans (hb6.mono Hb5.out.size))
      have HN := Lib.hid (pnew_any w6)
      clear hr hb6 HS c0 c1 c2 d0 d1 d2
      go_wp2_with fail
      refine HN.out.mono ?_
      rintro e w7 ⟨v7, rfl, hm7, hb7⟩
      have Hb7 := Lib.hid (show Below w.heap.size w w7 from Hb6.out.trans (hb7.mono Hb6.out.size))
      have HN2 := Lib.hid (rnew_any w7)
      obtain ⟨t1, t2, t3, rfl, hm7⟩ := hm7
      have Hm7 := Lib.hid hm7
      clear hb7 HN hm7
      go_wp2_with fail
      refine HN2.out.mono ?_
      rintro e w8 ⟨v8, rfl, hm8, hb8⟩
      have Hb8 := Lib.hid (show Below w.heap.size w w8 from Hb7.out.trans (hb8.mono Hb7.out.size))
      have HS := Lib.hid (same_any w8 _ _ _ _ .new .new ⟨_, _, _, rfl, Hm7.out.keep (w' := w8) fun b _ hlt => hb8.block b hlt⟩ hm8 RMap.new_small.1 RMap.new_small.2.1 RMap.new_small.2.2)
      obtain ⟨u1, u2, u3, rfl, hm8⟩ := hm8
      clear hb8 HN2 hm8
      go_wp2_with fail
      refine HS.out.mono ?_
      rintro e w9 ⟨r, rfl, hr, hb9⟩
      obtain rfl : r = true := hr.2 rfl
      have Hb9 := Lib.hid (show Below w.heap.size w w9 from Hb8.out.trans (hb9.mono Hb8.out.size))
      have HW := Lib.hid (works_any w9 (HTb.out _ Hb9.out).1 (HTb.out _ Hb9.out).2)
      clear hr hb9 HS
      go_wp2_with fail
      refine HW.out.mono ?_
      rintro e wf ⟨rfl, hbf⟩
      clear HW
      go_wp2_with fail
      go_ret
      exact ⟨rfl, Hb9.out.trans (hbf.mono Hb9.out.size)⟩
end Go.Proofs.YtbjkkmabafaogaaGreatDoor
