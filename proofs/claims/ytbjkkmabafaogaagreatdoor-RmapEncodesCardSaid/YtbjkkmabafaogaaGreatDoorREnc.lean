/- Encode of both, and the law RmapEncodes. -/
import Derived.Test.YtbjkkmabafaogaaGreatDoorRWorks
import Derived.Test.YtbjkkmabafaogaaGreatDoorRRef4
import Derived.Test.YtbjkkmabafaogaaGreatDoorRSpoil
import Derived.Test.YtbjkkmabafaogaaGreatDoorRArg
import Derived.Test.YtbjkkmabafaogaaGreatDoorStr
namespace Go.Proofs.YtbjkkmabafaogaaGreatDoor
open Go.RowKit Go.Lib
set_option linter.unusedVariables false
set_option maxRecDepth 20000
attribute [local go_sem ↓] seal_append
attribute [local go_sem] opC upC

def encR (m : RMap) : List UInt8 × Int := if validR m then (codeR m, 0) else ([], 5)
def EncPost (w : World) (r : List UInt8 × Int) (e : Ending) (w' : World) : Prop := (∃ v, e = .returned (.tuple #[v, .int .i64 r.2]) ∧ Bytes (fun _ => True) w' v r.1) ∧ Below w.heap.size w w'
theorem bytes_nil (F : Blks) (w : World) : Bytes F w (.slice none 0 0) [] := ⟨none, 0, rfl, by simp, by unfold maxLen; omega, fun _ => rfl, .inl rfl⟩
theorem valid_codable {m : RMap} (h : validR m = true) : Codable m := codable_of_formed (valid_formed h) (valid_lens h).2.1 (valid_lens h).2.2.1

set_option maxRecDepth 100000 in
set_option maxHeartbeats 1500000 in
theorem pencode_any (w : World) (hT : Tabs w) (h3 : 3 ≤ w.heap.size) (F : Blks) (v : Value) (m : RMap) (h : MapV F w v m) (hki : ∀ x ∈ m.items, x.key.length ≤ 1000000) (hkg : ∀ x ∈ m.gone, x.key.length ≤ 1000000) :
    Calls Tryz.prog 29 #[v] w (EncPost w (encR m)) := by
  replace h := h.mono (G := fun b => b < w.heap.size) fun b _ hlt => hlt
  obtain ⟨s1, s2, s3, rfl, h⟩ := h
  obtain ⟨a1, p1, rfl, -⟩ := h.seen.shape
  obtain ⟨a2, p2, rfl, -⟩ := h.items.shape
  obtain ⟨a3, p3, rfl, -⟩ := h.gone.shape
  have l1 := h.seen.len
  have l2 := h.items.len
  have l3 := h.gone.len
  unfold maxLen at l1 l2 l3
  obtain ⟨n1, hn1⟩ : ∃ n, m.seen.length = n := ⟨_, rfl⟩
  obtain ⟨n2, hn2⟩ : ∃ n, m.items.length = n := ⟨_, rfl⟩
  obtain ⟨n3, hn3⟩ : ∃ n, m.gone.length = n := ⟨_, rfl⟩
  rw [hn1, hn2, hn3] at h
  rw [hn1] at l1 ⊢
  rw [hn2] at l2 ⊢
  rw [hn3] at l3 ⊢
  obtain ⟨wx, hwx⟩ : ∃ wx, wx = w.alloc (.cells #[.slice a1 n1 p1, .slice a2 n2 p2, .slice a3 n3 p3] 31) := ⟨_, rfl⟩
  have hbx : Below w.heap.size w wx := by rw [hwx]; exact kept_alloc _ _
  have hzx : wx.heap.size = w.heap.size + 1 := by rw [hwx]; simp
  have hx := h.keep (w' := wx) fun b _ hlt => hbx.block b hlt
  have hnx : Blk wx w.heap.size [.slice a1 n1 p1, .slice a2 n2 p2, .slice a3 n3 p3] 31 := by rw [hwx]; exact Blk.new _ _ _
  have Hx := Lib.hid hx; have Hn1 := Lib.hid hn1; have Hn2 := Lib.hid hn2; have Hn3 := Lib.hid hn3
  have Hwx := Lib.hid hwx; have Hbx := Lib.hid hbx; have Hzx := Lib.hid hzx
  have c0 := hnx.cell 0
  have c1 := hnx.cell 1
  have c2 := hnx.cell 2
  simp at c0 c1 c2
  have Hnx := Lib.hid hnx
  clear hx hn1 hn2 hn3 hwx hbx hnx hzx
  clear h
  have HC := Lib.hid (check_any wx (tabs_below hT h3 Hbx.out) (by rw [Hzx.out]; omega) _ (.agg #[.slice a1 n1 p1, .slice a2 n2 p2, .slice a3 n3 p3]) m ⟨_, _, _, rfl, Hx.out⟩ hki hkg)
  obtain ⟨ok, hok⟩ : ∃ ok, validR m = ok := ⟨_, rfl⟩
  rw [hok] at HC
  have Hok := Lib.hid hok
  clear hok hT hki hkg c0 c1 c2
  go_enter Tryz.func29, Tryz.ntmps29
  go_wp2_with fail
  rw [← Hwx.out]
  refine HC.out.mono ?_
  rintro e w3 ⟨rfl, hb3⟩
  have Hb3 := Lib.hid (Hbx.out.trans (hb3.mono Hbx.out.size))
  obtain ⟨d0, d1, d2⟩ := cell3 (Hnx.out.keep (hb3.block _ Hnx.out.lt))
  have Hx3 := Lib.hid (Hx.out.keep (w' := w3) fun b _ hlt => hb3.block b hlt)
  clear HC hb3
  cases ok with
  | false =>
    have He := Lib.hid (show encR m = ([], 5) by unfold encR; rw [Hok.out]; rfl)
    go_wp2_with fail
    exact bodyPost_ret (v := .tuple #[.slice none 0 0, .int .i64 5]) (by simp [results, Tryz.results29, go_sem]) rfl ⟨⟨_, by rw [He.out], by rw [He.out]; exact bytes_nil _ _⟩, Hb3.out⟩
  | true =>
    have He := Lib.hid (show encR m = (codeR m, 0) by unfold encR; rw [Hok.out]; rfl)
    have HS := Lib.hid (code_any w3 _ (.agg #[.slice a1 n1 p1, .slice a2 n2 p2, .slice a3 n3 p3]) m ⟨_, _, _, rfl, Hx3.out⟩ (valid_codable Hok.out))
    go_wp2_with fail
    refine HS.out.mono ?_
    rintro e w4 ⟨⟨r, rfl, hr⟩, hb4⟩
    have Hb4 := Lib.hid (Hb3.out.trans (hb4.mono Hb3.out.size)); have Hr := Lib.hid hr
    clear hb4 hr HS
    go_wp2_with fail
    exact bodyPost_ret (v := .tuple #[r, .int .i64 0]) (by simp [results, Tryz.results29, go_sem]) rfl ⟨⟨_, by rw [He.out], by rw [He.out]; exact Hr.out⟩, Hb4.out⟩

set_option maxRecDepth 100000 in
set_option maxHeartbeats 1500000 in
theorem rencode_any (w : World) (F : Blks) (v : Value) (m : RMap) (h : MapV F w v m) (hki : ∀ x ∈ m.items, x.key.length ≤ 1000000000) (hkg : ∀ x ∈ m.gone, x.key.length ≤ 1000000000) :
    Calls Tryz.prog 30 #[v] w (EncPost w (encR m)) := by
  replace h := h.mono (G := fun b => b < w.heap.size) fun b _ hlt => hlt
  obtain ⟨s1, s2, s3, rfl, h⟩ := h
  obtain ⟨a1, p1, rfl, -⟩ := h.seen.shape
  obtain ⟨a2, p2, rfl, -⟩ := h.items.shape
  obtain ⟨a3, p3, rfl, -⟩ := h.gone.shape
  have l1 := h.seen.len
  have l2 := h.items.len
  have l3 := h.gone.len
  unfold maxLen at l1 l2 l3
  obtain ⟨n1, hn1⟩ : ∃ n, m.seen.length = n := ⟨_, rfl⟩
  obtain ⟨n2, hn2⟩ : ∃ n, m.items.length = n := ⟨_, rfl⟩
  obtain ⟨n3, hn3⟩ : ∃ n, m.gone.length = n := ⟨_, rfl⟩
  rw [hn1, hn2, hn3] at h
  rw [hn1] at l1 ⊢
  rw [hn2] at l2 ⊢
  rw [hn3] at l3 ⊢
  obtain ⟨wx, hwx⟩ : ∃ wx, wx = w.alloc (.cells #[.slice a1 n1 p1, .slice a2 n2 p2, .slice a3 n3 p3] 26) := ⟨_, rfl⟩
  have hbx : Below w.heap.size w wx := by rw [hwx]; exact kept_alloc _ _
  have hzx : wx.heap.size = w.heap.size + 1 := by rw [hwx]; simp
  have hx := h.keep (w' := wx) fun b _ hlt => hbx.block b hlt
  have hnx : Blk wx w.heap.size [.slice a1 n1 p1, .slice a2 n2 p2, .slice a3 n3 p3] 26 := by rw [hwx]; exact Blk.new _ _ _
  have Hx := Lib.hid hx; have Hn1 := Lib.hid hn1; have Hn2 := Lib.hid hn2; have Hn3 := Lib.hid hn3
  have Hwx := Lib.hid hwx; have Hbx := Lib.hid hbx; have Hzx := Lib.hid hzx
  have c0 := hnx.cell 0
  have c1 := hnx.cell 1
  have c2 := hnx.cell 2
  simp at c0 c1 c2
  have Hnx := Lib.hid hnx
  clear hx hn1 hn2 hn3 hwx hbx hnx hzx
  clear h
  have HC := Lib.hid (rvalid2_any wx _ (.agg #[.slice a1 n1 p1, .slice a2 n2 p2, .slice a3 n3 p3]) m ⟨_, _, _, rfl, Hx.out⟩ hki hkg)
  obtain ⟨ok, hok⟩ : ∃ ok, validR m = ok := ⟨_, rfl⟩
  rw [hok] at HC
  have Hok := Lib.hid hok
  clear hok hki hkg c0 c1 c2
  go_enter Tryz.func30, Tryz.ntmps30
  go_wp2_with fail
  rw [← Hwx.out]
  refine HC.out.mono ?_
  rintro e w3 ⟨rfl, hb3⟩
  have Hb3 := Lib.hid (Hbx.out.trans (hb3.mono Hbx.out.size))
  obtain ⟨d0, d1, d2⟩ := cell3 (Hnx.out.keep (hb3.block _ Hnx.out.lt))
  have Hx3 := Lib.hid (Hx.out.keep (w' := w3) fun b _ hlt => hb3.block b hlt)
  clear HC hb3
  cases ok with
  | false =>
    have He := Lib.hid (show encR m = ([], 5) by unfold encR; rw [Hok.out]; rfl)
    go_wp2_with fail
    exact bodyPost_ret (v := .tuple #[.slice none 0 0, .int .i64 5]) (by simp [results, Tryz.results30, go_sem]) rfl ⟨⟨_, by rw [He.out], by rw [He.out]; exact bytes_nil _ _⟩, Hb3.out⟩
  | true =>
    have He := Lib.hid (show encR m = (codeR m, 0) by unfold encR; rw [Hok.out]; rfl)
    have HS := Lib.hid (refCode_any w3 _ (.agg #[.slice a1 n1 p1, .slice a2 n2 p2, .slice a3 n3 p3]) m ⟨_, _, _, rfl, Hx3.out⟩ (valid_codable Hok.out))
    go_wp2_with fail
    refine HS.out.mono ?_
    rintro e w4 ⟨⟨r, rfl, hr⟩, hb4⟩
    have Hb4 := Lib.hid (Hb3.out.trans (hb4.mono Hb3.out.size)); have Hr := Lib.hid hr
    clear hb4 hr HS
    go_wp2_with fail
    exact bodyPost_ret (v := .tuple #[r, .int .i64 0]) (by simp [results, Tryz.results30, go_sem]) rfl ⟨⟨_, by rw [He.out], by rw [He.out]; exact Hr.out⟩, Hb4.out⟩

set_option maxRecDepth 100000 in
set_option maxHeartbeats 3000000 in
theorem RmapEncodes_walk (v : Value) (w : World) (hv : IsRMap w v) (hq : Tabs w ∧ 3 ≤ w.heap.size) :
    Calls Tryz.prog 6 #[v] w fun e w' => e = .returned (.bool true) ∧ Below w.heap.size w w' := by
  obtain ⟨m, h⟩ := hv
  have HTb := Lib.hid (show ∀ w', Below w.heap.size w w' → Tabs w' ∧ 3 ≤ w'.heap.size from fun w' hb => ⟨tabs_below hq.1 hq.2 hb, Nat.le_trans hq.2 hb.size⟩)
  clear hq
  obtain ⟨s1, s2, s3, rfl, h⟩ := h
  obtain ⟨a1, p1, rfl, -⟩ := h.seen.shape
  obtain ⟨a2, p2, rfl, -⟩ := h.items.shape
  obtain ⟨a3, p3, rfl, -⟩ := h.gone.shape
  obtain ⟨wx, hwx⟩ : ∃ wx, wx = w.alloc (.cells #[.slice a1 m.seen.length p1, .slice a2 m.items.length p2, .slice a3 m.gone.length p3] 26) := ⟨_, rfl⟩
  have hbx : Below w.heap.size w wx := by rw [hwx]; exact kept_alloc _ _
  have hzx : wx.heap.size = w.heap.size + 1 := by rw [hwx]; simp
  have hx := h.keep (w' := wx) fun b _ hlt => hbx.block b hlt
  have hnx : Blk wx w.heap.size [.slice a1 m.seen.length p1, .slice a2 m.items.length p2, .slice a3 m.gone.length p3] 26 := by rw [hwx]; exact Blk.new _ _ _
  have Hx := Lib.hid hx
  have Hwx := Lib.hid hwx; have Hbx := Lib.hid hbx; have Hzx := Lib.hid hzx
  have Hnx := Lib.hid hnx
  clear hx hwx hbx hnx hzx h
  have HF := Lib.hid (few_any wx _ _ m ⟨_, _, _, rfl, Hx.out⟩)
  obtain ⟨c0, c1, c2⟩ := cell3 Hnx.out
  go_enter Tryz.func6, Tryz.ntmps6
  go_wp2_with fail
  rw [← Hwx.out]
  refine HF.out.mono ?_
  rintro e w1 ⟨r, rfl, hsm, hb1⟩
  have hb1' : Below w.heap.size w w1 := Hbx.out.trans (hb1.mono Hbx.out.size)
  clear HF
  cases r with
  | false =>
    have Hb1 := Lib.hid hb1'
    clear hb1' hb1 hsm
    go_wp2_with fail
    go_ret
    exact ⟨rfl, Hb1.out⟩
  | true =>
    have hsm := hsm rfl
    have kI : ∀ x ∈ m.items, x.key.length ≤ 1000000 := fun x hx => by have := hsm.ikeys x hx; omega
    have kG : ∀ x ∈ m.gone, x.key.length ≤ 1000000 := fun x hx => by have := hsm.gkeys x hx; omega
    have hS1 := Hx.out.keep (w' := w1) fun b _ hlt => hb1.block b hlt
    have hN1 := Hnx.out.keep (hb1.block _ Hnx.out.lt)
    have HG := Lib.hid (given_any w1 _ _ m ⟨_, _, _, rfl, hS1⟩ (by have := hsm.seen; omega) (by have := hsm.items; omega) (by have := hsm.gone; omega))
    clear c0 c1 c2
    obtain ⟨c0, c1, c2⟩ := cell3 hN1
    have Hb1 := Lib.hid hb1'; have HS1 := Lib.hid hS1; have HN1 := Lib.hid hN1; have Hsm := Lib.hid hsm; have HkI := Lib.hid kI; have HkG := Lib.hid kG
    clear hb1 hb1' hS1 hN1 hsm kI kG
    go_wp2_with fail
    refine HG.out.mono ?_
    rintro e w2 ⟨v2, rfl, hi, hb2⟩
    have hb2' : Below w.heap.size w w2 := Hb1.out.trans (hb2.mono Hb1.out.size)
    obtain ⟨s1i, s2i, s3i, rfl, hi⟩ := hi
    obtain ⟨a1i, p1i, rfl, -⟩ := hi.seen.shape
    obtain ⟨a2i, p2i, rfl, -⟩ := hi.items.shape
    obtain ⟨a3i, p3i, rfl, -⟩ := hi.gone.shape
    obtain ⟨wxi, hwxi⟩ : ∃ wx, wx = w2.alloc (.cells #[.slice a1i m.seen.length p1i, .slice a2i m.items.length p2i, .slice a3i m.gone.length p3i] 31) := ⟨_, rfl⟩
    have hbxi : Below w2.heap.size w2 wxi := by rw [hwxi]; exact kept_alloc _ _
    have hzxi : wxi.heap.size = w2.heap.size + 1 := by rw [hwxi]; simp
    have hxi := hi.keep (w' := wxi) fun b _ hlt => hbxi.block b hlt
    have hnxi : Blk wxi w2.heap.size [.slice a1i m.seen.length p1i, .slice a2i m.items.length p2i, .slice a3i m.gone.length p3i] 31 := by rw [hwxi]; exact Blk.new _ _ _
    have Hxi := Lib.hid hxi
    have Hwxi := Lib.hid hwxi; have Hbxi := Lib.hid hbxi; have Hzxi := Lib.hid hzxi
    have Hnxi := Lib.hid hnxi
    clear hxi hwxi hbxi hnxi hzxi hi
    have hb3 : Below w.heap.size w wxi := hb2'.trans (Hbxi.out.mono hb2'.size)
    have hw13 : Below w1.heap.size w1 wxi := hb2.trans (Hbxi.out.mono hb2.size)
    have HR := Lib.hid (show ∀ W, Below wxi.heap.size wxi W → Below w.heap.size w W ∧ Blk W w.heap.size [.slice a1 m.seen.length p1, .slice a2 m.items.length p2, .slice a3 m.gone.length p3] 26 ∧ MapIn (fun b => b < w.heap.size) W (.slice a1 m.seen.length p1) (.slice a2 m.items.length p2) (.slice a3 m.gone.length p3) m ∧ Blk W w2.heap.size [.slice a1i m.seen.length p1i, .slice a2i m.items.length p2i, .slice a3i m.gone.length p3i] 31 ∧ MapIn (fun b => w1.heap.size ≤ b) W (.slice a1i m.seen.length p1i) (.slice a2i m.items.length p2i) (.slice a3i m.gone.length p3i) m from fun W hb => by
      have hB : Below w.heap.size w W := hb3.trans (hb.mono hb3.size)
      have h1 : Below w1.heap.size w1 W := hw13.trans (hb.mono hw13.size)
      exact ⟨hB, HN1.out.keep (h1.block _ HN1.out.lt), HS1.out.keep (w' := W) fun b _ hlt => h1.block b hlt, Hnxi.out.keep (hb.block _ Hnxi.out.lt), Hxi.out.keep (w' := W) fun b _ hlt => hb.block b hlt⟩)
    have hrr := Below.refl wxi.heap.size wxi
    have HE := Lib.hid (pencode_any wxi (HTb.out _ (HR.out wxi hrr).1).1 (HTb.out _ (HR.out wxi hrr).1).2 _ (.agg #[.slice a1i m.seen.length p1i, .slice a2i m.items.length p2i, .slice a3i m.gone.length p3i]) m ⟨_, _, _, rfl, (HR.out wxi hrr).2.2.2.2⟩ HkI.out HkG.out)
    clear hb2 hb2' hb3 hw13 HG c0 c1 c2 hrr
    obtain ⟨c0, c1, c2⟩ := cell3 Hnxi.out
    obtain ⟨en, hen⟩ : ∃ en, encR m = en := ⟨_, rfl⟩
    rw [hen] at HE
    have Hen := Lib.hid hen
    clear hen
    go_wp2_with fail
    rw [← Hwxi.out]
    refine HE.out.mono ?_
    rintro e w4 ⟨⟨v4, rfl, hv4⟩, hb4⟩
    clear HE c0 c1 c2
    have HE := Lib.hid (rencode_any w4 _ (.agg #[.slice a1 m.seen.length p1, .slice a2 m.items.length p2, .slice a3 m.gone.length p3]) m ⟨_, _, _, rfl, (HR.out w4 hb4).2.2.1⟩ (fun x hx => by have := HkI.out x hx; omega) (fun x hx => by have := HkG.out x hx; omega))
    rw [Hen.out] at HE
    obtain ⟨c0, c1, c2⟩ := cell3 (HR.out w4 hb4).2.1
    have Hb4 := Lib.hid hb4; have Hv4 := Lib.hid hv4
    clear hb4 hv4
    go_wp2_with fail
    refine HE.out.mono ?_
    rintro e w5 ⟨⟨v5, rfl, hv5⟩, hb5⟩
    clear HE c0 c1 c2
    have h41 := run_strB (Hv4.out.keep (w' := w5) fun b _ hlt => hb5.block b hlt)
    have h51 := run_strB hv5
    have hb5' : Below wxi.heap.size wxi w5 := Hb4.out.trans (hb5.mono Hb4.out.size)
    obtain ⟨hw5, kA, hMi, kI, hIn⟩ := HR.out w5 hb5'
    have HS := Lib.hid (same_any w5 _ _ _ _ m m ⟨_, _, _, rfl, hIn⟩ ⟨_, _, _, rfl, hMi⟩ (by have := Hsm.out.seen; omega) (by have := Hsm.out.items; omega) (by have := Hsm.out.gone; omega))
    obtain ⟨c0, c1, c2⟩ := cell3 kA
    obtain ⟨d0, d1, d2⟩ := cell3 kI
    have Hw5 := Lib.hid hw5
    clear hw5 kA hMi kI hIn hb5 hb5' hv5
    go_wp2_with fail
    refine HS.out.mono ?_
    rintro e w6 ⟨r, rfl, hr, hb6⟩
    obtain rfl : r = true := hr.2 rfl
    have Hb6 := Lib.hid (show Below w.heap.size w w6 from Hw5.out.trans (hb6.mono Hw5.out.size))
    have HW := Lib.hid (works_any w6 (HTb.out _ Hb6.out).1 (HTb.out _ Hb6.out).2)
    clear HS hr hb6 c0 c1 c2 d0 d1 d2 h41 h51
    go_wp2_with fail
    refine HW.out.mono ?_
    rintro e w7 ⟨rfl, hb7⟩
    clear HW
    go_wp2_with fail
    go_ret
    exact ⟨rfl, Hb6.out.trans (hb7.mono Hb6.out.size)⟩
end Go.Proofs.YtbjkkmabafaogaaGreatDoor
