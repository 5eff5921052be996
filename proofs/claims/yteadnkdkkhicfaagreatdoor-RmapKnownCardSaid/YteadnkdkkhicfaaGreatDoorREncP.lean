/- The program's Encode. -/
import Derived.Test.YteadnkdkkhicfaaGreatDoorRUse
import Derived.Test.YteadnkdkkhicfaaGreatDoorStr
namespace Go.Proofs.YteadnkdkkhicfaaGreatDoor
open Go.RowKit Go.Lib
set_option linter.unusedVariables false
set_option maxRecDepth 20000
attribute [local go_sem ↓] seal_append
attribute [local go_sem] opC upC

def encR (m : RMap) : List UInt8 × Int := if validR m then (codeR m, 0) else ([], 5)
def EncPost (w : World) (r : List UInt8 × Int) (e : Ending) (w' : World) : Prop := (∃ v, e = .returned (.tuple #[v, .int .i64 r.2]) ∧ Bytes (fun _ => True) w' v r.1) ∧ Below w.heap.size w w'
theorem bytes_nil (F : Blks) (w : World) : Bytes F w (.slice none 0 0) [] := ⟨none, 0, rfl, by simp, by unfold maxLen; omega, fun _ => rfl, .inl rfl⟩
theorem valid_codable {m : RMap} (h : validR m = true) : Codable m := codable_of_formed (valid_formed h) (valid_lens h).2.1 (valid_lens h).2.2.1

set_option maxRecDepth 100000 in
set_option maxHeartbeats 1500000 in
theorem pencode_any (w : World) (hT : Tabs w) (h3 : 3 ≤ w.heap.size) (F : Blks) (v : Value) (m : RMap) (h : MapV F w v m) (hki : ∀ x ∈ m.items, x.key.length ≤ 1000000) (hkg : ∀ x ∈ m.gone, x.key.length ≤ 1000000) :
    Calls Tryz.prog 16 #[v] w (EncPost w (encR m)) := by
  replace h := h.mono (G := fun b => b < w.heap.size) fun b _ hlt => hlt
  obtain ⟨s1, s2, s3, rfl, h⟩ := h
  obtain ⟨a1, p1, rfl, -⟩ := h.seen.shape
  obtain ⟨a2, p2, rfl, -⟩ := h.items.shape
  obtain ⟨a3, p3, rfl, -⟩ := h.gone.shape
  have l1 := h.seen.len
  have l2 := h.items.len
  have l3 := h.gone.len
  unfold maxLen at l1 l2 l3
  obtain ⟨n1, hn1⟩ : ∃ n, m.seen.length = n := ⟨_, rfl⟩
  obtain ⟨n2, hn2⟩ : ∃ n, m.items.length = n := ⟨_, rfl⟩
  obtain ⟨n3, hn3⟩ : ∃ n, m.gone.length = n := ⟨_, rfl⟩
  rw [hn1, hn2, hn3] at h
  rw [hn1] at l1 ⊢
  rw [hn2] at l2 ⊢
  rw [hn3] at l3 ⊢
  obtain ⟨wx, hwx⟩ : ∃ wx, wx = w.alloc (.cells #[.slice a1 n1 p1, .slice a2 n2 p2, .slice a3 n3 p3] 27) := ⟨_, rfl⟩
  have hbx : Below w.heap.size w wx := by rw [hwx]; exact kept_alloc _ _
  have hzx : wx.heap.size = w.heap.size + 1 := by rw [hwx]; simp
  have hx := h.keep (w' := wx) fun b _ hlt => hbx.block b hlt
  have hnx : Blk wx w.heap.size [.slice a1 n1 p1, .slice a2 n2 p2, .slice a3 n3 p3] 27 := by rw [hwx]; exact Blk.new _ _ _
  have Hx := Lib.hid hx; have Hn1 := Lib.hid hn1; have Hn2 := Lib.hid hn2; have Hn3 := Lib.hid hn3
  have Hwx := Lib.hid hwx; have Hbx := Lib.hid hbx; have Hzx := Lib.hid hzx
  have c0 := hnx.cell 0
  have c1 := hnx.cell 1
  have c2 := hnx.cell 2
  simp at c0 c1 c2
  have Hnx := Lib.hid hnx
  clear hx hn1 hn2 hn3 hwx hbx hnx hzx
  clear h
  have HC := Lib.hid (check_any wx (tabs_below hT h3 Hbx.out) (by rw [Hzx.out]; omega) _ (.agg #[.slice a1 n1 p1, .slice a2 n2 p2, .slice a3 n3 p3]) m ⟨_, _, _, rfl, Hx.out⟩ hki hkg)
  obtain ⟨ok, hok⟩ : ∃ ok, validR m = ok := ⟨_, rfl⟩
  rw [hok] at HC
  have Hok := Lib.hid hok
  clear hok hT hki hkg c0 c1 c2
  go_enter Tryz.func16, Tryz.ntmps16
  go_wp2_with fail
  rw [← Hwx.out]
  refine HC.out.mono ?_
  rintro e w3 ⟨rfl, hb3⟩
  have Hb3 := Lib.hid (Hbx.out.trans (hb3.mono Hbx.out.size))
  obtain ⟨d0, d1, d2⟩ := cell3 (Hnx.out.keep (hb3.block _ Hnx.out.lt))
  have Hx3 := Lib.hid (Hx.out.keep (w' := w3) fun b _ hlt => hb3.block b hlt)
  clear HC hb3
  cases ok with
  | false =>
    have He := Lib.hid (show encR m = ([], 5) by unfold encR; rw [Hok.out]; rfl)
    go_wp2_with fail
    exact bodyPost_ret (v := .tuple #[.slice none 0 0, .int .i64 5]) (by simp [results, Tryz.results16, go_sem]) rfl ⟨⟨_, by rw [He.out], by rw [He.out]; exact bytes_nil _ _⟩, Hb3.out⟩
  | true =>
    have He := Lib.hid (show encR m = (codeR m, 0) by unfold encR; rw [Hok.out]; rfl)
    have HS := Lib.hid (code_any w3 _ (.agg #[.slice a1 n1 p1, .slice a2 n2 p2, .slice a3 n3 p3]) m ⟨_, _, _, rfl, Hx3.out⟩ (valid_codable Hok.out))
    go_wp2_with fail
    refine HS.out.mono ?_
    rintro e w4 ⟨⟨r, rfl, hr⟩, hb4⟩
    have Hb4 := Lib.hid (Hb3.out.trans (hb4.mono Hb3.out.size)); have Hr := Lib.hid hr
    clear hb4 hr HS
    go_wp2_with fail
    exact bodyPost_ret (v := .tuple #[r, .int .i64 0]) (by simp [results, Tryz.results16, go_sem]) rfl ⟨⟨_, by rw [He.out], by rw [He.out]; exact Hr.out⟩, Hb4.out⟩

end Go.Proofs.YteadnkdkkhicfaaGreatDoor
