/- event. -/
import Derived.Test.YtbjkkmabafaogaaGreatDoorREv
namespace Go.Proofs.YtbjkkmabafaogaaGreatDoor
open Go.RowKit Go.Sort
set_option linter.unusedVariables false
set_option maxRecDepth 20000
attribute [local go_sem ↓] seal_append

theorem fin3 {w W : World} {B b : Nat} {x y z : Value} {t : TypeId} (kr : Blk W b [x, y, z] t) (hb : Below B w W) (hB : B ≤ b) (s1 s2 s3 : Value) :
    ∃ wf, wf = ((W.setCell ⟨b, 0, none⟩ s1).setCell ⟨b, 1, none⟩ s2).setCell ⟨b, 2, none⟩ s3 ∧ Blk wf b [s1, s2, s3] t ∧ Below B w wf :=
  ⟨_, rfl, set3 _ kr rfl, ((hb.setCell (p := ⟨b, 0, none⟩) hB _).setCell (p := ⟨b, 1, none⟩) hB _).setCell (p := ⟨b, 2, none⟩) hB _⟩
def nilV : Value := .agg #[.slice none 0 0, .slice none 0 0, .slice none 0 0]
set_option maxHeartbeats 1000000 in
theorem values_any (w : World) (v : Value) (hv : ∃ a n c, v = .slice a n c) :
    Calls Tryz.prog 98 #[v] w fun e w' => e = .returned (.func (.func 126) #[] #[.pointer (some ⟨w.heap.size, 0, none⟩)]) ∧ w' = w.alloc (.cells #[v] 39) := by
  obtain ⟨a, n, c, rfl⟩ := hv
  go_enter Tryz.func98, Tryz.ntmps98
  go_wp2_with fail
  go_ret
  exact ⟨rfl, rfl⟩
def EvPost (w : World) (m : RMap) (d : Int) (l : List RKey) (e : Ending) (w' : World) : Prop :=
  ((validR m = false ∧ e = .returned (.tuple #[nilV, .slice none 0 0, .int .i64 5])) ∨ (validR m = true ∧ allowedR d l = false ∧ e = .returned (.tuple #[nilV, .slice none 0 0, .int .i64 1])) ∨
    (validR m = true ∧ allowedR d l = true ∧ ∃ r s, e = .returned (.tuple #[r, s, .int .i64 0]) ∧ OwnV w' w.heap.size r ⟨seenUp m d, m.items, m.gone⟩ ∧ w'.ownsRow w.heap.size 9 1 s l.length ((sortK l).map eS))) ∧ Below w.heap.size w w'

set_option maxRecDepth 100000 in
set_option maxHeartbeats 4000000 in
theorem event_any (w : World) (hT : Tabs w) (h3 : 3 ≤ w.heap.size) (F : Blks) (v : Value) (m : RMap) (h : MapV F w v m) (hki : ∀ x ∈ m.items, x.key.length ≤ 1000000) (hkg : ∀ x ∈ m.gone, x.key.length ≤ 1000000)
    (hl2 : m.items.length ≤ 1000000) (hl3 : m.gone.length ≤ 1000000) (d : Int) (G : Blks) (lv : Value) (l : List RKey) (hlv : Rows G w 1 lv l.length (l.map eS)) (hl : l.length ≤ 1000000) (hk : ∀ k ∈ l, k.length ≤ 4611686018427387903) :
    Calls Tryz.prog 55 #[v, .int .i64 d, lv] w (EvPost w m d l) := by
  replace h := h.mono (G := fun b => b < w.heap.size) fun b _ hlt => hlt
  replace hlv := hlv.mono (G := fun b => b < w.heap.size) fun b _ hlt => hlt
  obtain ⟨s1, s2, s3, rfl, h⟩ := h
  obtain ⟨a1, p1, rfl, -⟩ := h.seen.shape
  obtain ⟨a2, p2, rfl, -⟩ := h.items.shape
  obtain ⟨a3, p3, rfl, -⟩ := h.gone.shape
  have l1 := h.seen.len
  have l2 := h.items.len
  have l3 := h.gone.len
  unfold maxLen at l1 l2 l3
  obtain ⟨n1, hn1⟩ : ∃ n, m.seen.length = n := ⟨_, rfl⟩
  obtain ⟨n2, hn2⟩ : ∃ n, m.items.length = n := ⟨_, rfl⟩
  obtain ⟨n3, hn3⟩ : ∃ n, m.gone.length = n := ⟨_, rfl⟩
  rw [hn1, hn2, hn3] at h
  rw [hn1] at l1 ⊢
  rw [hn2] at l2 ⊢
  rw [hn3] at l3 ⊢
  obtain ⟨wx, hwx⟩ : ∃ wx, wx = w.alloc (.cells #[.slice a1 n1 p1, .slice a2 n2 p2, .slice a3 n3 p3] 31) := ⟨_, rfl⟩
  have hbx : Below w.heap.size w wx := by rw [hwx]; exact kept_alloc _ _
  have hzx : wx.heap.size = w.heap.size + 1 := by rw [hwx]; simp
  have hx := h.keep (w' := wx) fun b _ hlt => hbx.block b hlt
  have hnx : Blk wx w.heap.size [.slice a1 n1 p1, .slice a2 n2 p2, .slice a3 n3 p3] 31 := by rw [hwx]; exact Blk.new _ _ _
  have Hx := Lib.hid hx; have Hn1 := Lib.hid hn1; have Hn2 := Lib.hid hn2; have Hn3 := Lib.hid hn3
  have Hwx := Lib.hid hwx; have Hbx := Lib.hid hbx; have Hzx := Lib.hid hzx
  have c0 := hnx.cell 0
  have c1 := hnx.cell 1
  have c2 := hnx.cell 2
  simp at c0 c1 c2
  have Hnx := Lib.hid hnx
  clear hx hn1 hn2 hn3 hwx hbx hnx hzx
  clear h
  rw [Hn2.out] at hl2
  rw [Hn3.out] at hl3
  obtain ⟨nl, hnl⟩ : ∃ nl, l.length = nl := ⟨_, rfl⟩
  obtain ⟨al, cl, rfl, -⟩ := hlv.shape
  have Hlv := Lib.hid hlv
  rw [hnl] at hl ⊢
  have Hnl := Lib.hid hnl
  obtain ⟨w2, hw2⟩ : ∃ w2, w2 = wx.alloc (.cells #[.slice none 0 0, .slice none 0 0, .slice none 0 0] 31) := ⟨_, rfl⟩
  have hb2 : Below w.heap.size w w2 := by rw [hw2]; exact Hbx.out.alloc Hbx.out.size _
  have hz2 : w2.heap.size = w.heap.size + 2 := by rw [hw2]; simp [Hzx.out]
  have HK := Lib.hid (show ∀ W, Below w2.heap.size w2 W → Below w.heap.size w W ∧ Blk W w.heap.size [.slice a1 n1 p1, .slice a2 n2 p2, .slice a3 n3 p3] 31 ∧ Blk W (w.heap.size + 1) [.slice none 0 0, .slice none 0 0, .slice none 0 0] 31 ∧ MapIn (fun b => b < w.heap.size) W (.slice a1 n1 p1) (.slice a2 n2 p2) (.slice a3 n3 p3) m ∧ Rows (fun b => b < w.heap.size) W 1 (.slice al l.length cl) l.length (l.map eS) from fun W hl => by
    have k1 : Blk w2 w.heap.size [.slice a1 n1 p1, .slice a2 n2 p2, .slice a3 n3 p3] 31 := by rw [hw2]; exact Hnx.out.alloc _
    have k2 : Blk w2 (w.heap.size + 1) [.slice none 0 0, .slice none 0 0, .slice none 0 0] 31 := by
      have := Blk.new wx #[.slice none 0 0, .slice none 0 0, .slice none 0 0] 31
      rw [hw2, ← Hzx.out]; exact this
    have hbW := hb2.trans (hl.mono (by omega))
    exact ⟨hbW, k1.keep (hl.block _ k1.lt), k2.keep (hl.block _ k2.lt), (Hx.out.keep (w' := w2) fun b _ hlt => by rw [hw2]; exact Below.heap_alloc _ _ _ hlt).keep fun b hb hlt => hl.block b (by omega), Hlv.out.keep fun b _ hlt => hbW.block b hlt⟩)
  have HT := Lib.hid (show ∀ W, Below w2.heap.size w2 W → Tabs W ∧ 3 ≤ W.heap.size from fun W hl => ⟨tabs_below hT h3 (HK.out W hl).1, Nat.le_trans h3 (HK.out W hl).1.size⟩)
  have HC := Lib.hid (check_any w2 (HT.out w2 (Below.refl _ _)).1 (by omega) _ (.agg #[.slice a1 n1 p1, .slice a2 n2 p2, .slice a3 n3 p3]) m ⟨_, _, _, rfl, (HK.out w2 (Below.refl _ _)).2.2.2.1⟩ hki hkg)
  obtain ⟨ok, hok⟩ : ∃ ok, validR m = ok := ⟨_, rfl⟩
  rw [hok] at HC
  have Hok := Lib.hid hok
  have Hk := Lib.hid hk
  have Hw2 := Lib.hid hw2; have Hz2 := Lib.hid hz2
  clear hw2 hb2 hz2 Hx Hnx hok hT hki hkg c0 c1 c2 hlv hnl hk Hlv
  go_enter Tryz.func55, Tryz.ntmps55
  go_wp2_with fail
  rw [← Hwx.out, ← Hw2.out]
  refine HC.out.mono ?_
  rintro e w3 ⟨rfl, hb3⟩
  have HL3 := Lib.hid hb3
  clear HC hb3
  cases ok with
  | false =>
    have kr := (HK.out w3 HL3.out).2.2.1
    obtain ⟨wf, hwf, hblk, hbf⟩ := fin3 kr (HK.out w3 HL3.out).1 (Nat.le_succ _) (.slice none 0 0) (.slice none 0 0) (.slice none 0 0)
    have y0 := kr.cell 0
    have y1 := kr.cell 1
    have y2 := kr.cell 2
    have z0 := kr.free 0
    have z1 := kr.free 1
    have z2 := kr.free 2
    simp at y0 y1 y2
    have Q0 := Lib.hid (hblk.cell 0); have Q1 := Lib.hid (hblk.cell 1); have Q2 := Lib.hid (hblk.cell 2)
    have Hbf := Lib.hid hbf; have Hwf := Lib.hid hwf
    clear hwf hblk hbf
    go_wp2_with fail
    rw [← Hwf.out]
    have q0 := Q0.out
    have q1 := Q1.out
    have q2 := Q2.out
    simp at q0 q1 q2
    refine bodyPost_ret (v := .tuple #[nilV, .slice none 0 0, .int .i64 5]) (by simp [results, Tryz.results55, go_sem, q0, q1, q2, nilV]) rfl ⟨.inl ⟨Hok.out, rfl⟩, Hbf.out⟩
  | true =>
    have HV := Lib.hid (values_any w3 (.slice al nl cl) ⟨_, _, _, rfl⟩)
    obtain ⟨w4, hw4⟩ : ∃ w4, w4 = w3.alloc (.cells #[.slice al nl cl] 39) := ⟨_, rfl⟩
    have hbl4 : Below w2.heap.size w2 w4 := by rw [hw4]; exact HL3.out.alloc HL3.out.size _
    have hbx4 : Blk w4 w3.heap.size [.slice al nl cl] 39 := by rw [hw4]; exact Blk.new _ _ _
    have HS := Lib.hid (sorted_any w4 _ (.slice al nl cl) l w3.heap.size (by have := (HK.out w4 hbl4).2.2.2.2; rw [Hnl.out] at this ⊢; exact this) (fun b hb => by have := (HK.out w4 hbl4).1.size; omega) hbx4 (by rw [Hnl.out]; exact hl))
    have HL4 := Lib.hid hbl4; have Hw4 := Lib.hid hw4
    clear hw4 hbl4 hbx4
    go_wp2_with fail
    refine HV.out.mono ?_
    rintro e w' ⟨rfl, rfl⟩
    rw [← Hw4.out]
    clear HV
    go_wp2_with fail
    refine HS.out.mono ?_
    rintro e w5 ⟨s, rfl, hos, hb5⟩
    have hsl : (sortK l).length = nl := by rw [(sortK_perm l).length_eq]; exact Hnl.out
    obtain ⟨sa, cs, rfl⟩ := own_shape hos
    rw [hsl] at hos ⊢
    have hL5 : Below w2.heap.size w2 w5 := HL4.out.trans (hb5.mono HL4.out.size)
    have HL5 := Lib.hid hL5; have Hos := Lib.hid hos; have Hsl := Lib.hid hsl
    have kr := (HK.out w5 hL5).2.2.1
    have hbel := (HK.out w5 hL5).1
    clear HS hb5 hL5 hos hsl
    by_cases hd0 : d < 0
    · have Hal := Lib.hid (show allowedR d l = false by unfold allowedR; simp; omega)
      obtain ⟨wf, hwf, hblk, hbf⟩ := fin3 kr hbel (Nat.le_succ _) (.slice none 0 0) (.slice none 0 0) (.slice none 0 0)
      have y0 := kr.cell 0
      have y1 := kr.cell 1
      have y2 := kr.cell 2
      have z0 := kr.free 0
      have z1 := kr.free 1
      have z2 := kr.free 2
      simp at y0 y1 y2
      have Q0 := Lib.hid (hblk.cell 0); have Q1 := Lib.hid (hblk.cell 1); have Q2 := Lib.hid (hblk.cell 2)
      have Hbf := Lib.hid hbf; have Hwf := Lib.hid hwf
      clear hwf hblk hbf
      go_wp2_with fail
      rw [← Hwf.out]
      have q0 := Q0.out
      have q1 := Q1.out
      have q2 := Q2.out
      simp at q0 q1 q2
      refine bodyPost_ret (v := .tuple #[nilV, .slice none 0 0, .int .i64 1]) (by simp [results, Tryz.results55, go_sem, q0, q1, q2, nilV]) rfl ⟨.inr (.inl ⟨Hok.out, Hal.out, rfl⟩), Hbf.out⟩
    by_cases hd8 : d ≥ 8
    · have Hal := Lib.hid (show allowedR d l = false by unfold allowedR; simp; omega)
      obtain ⟨wf, hwf, hblk, hbf⟩ := fin3 kr hbel (Nat.le_succ _) (.slice none 0 0) (.slice none 0 0) (.slice none 0 0)
      have y0 := kr.cell 0
      have y1 := kr.cell 1
      have y2 := kr.cell 2
      have z0 := kr.free 0
      have z1 := kr.free 1
      have z2 := kr.free 2
      simp at y0 y1 y2
      have Q0 := Lib.hid (hblk.cell 0); have Q1 := Lib.hid (hblk.cell 1); have Q2 := Lib.hid (hblk.cell 2)
      have Hbf := Lib.hid hbf; have Hwf := Lib.hid hwf
      clear hwf hblk hbf
      go_wp2_with fail
      rw [← Hwf.out]
      have q0 := Q0.out
      have q1 := Q1.out
      have q2 := Q2.out
      simp at q0 q1 q2
      refine bodyPost_ret (v := .tuple #[nilV, .slice none 0 0, .int .i64 1]) (by simp [results, Tryz.results55, go_sem, q0, q1, q2, nilV]) rfl ⟨.inr (.inl ⟨Hok.out, Hal.out, rfl⟩), Hbf.out⟩
    have hd8' : ¬ d ≥ 8 := hd8
    have HCl := Lib.hid (cloneS_any w5 _ (.slice sa nl cs) (sortK l) (by rw [Hsl.out]; exact Rows.of_owns Hos.out) (by rw [Hsl.out]; exact hl))
    clear kr hbel
    go_wp2_with fail
    refine HCl.out.mono ?_
    rintro e w6 ⟨c6, rfl, ho6, hb6⟩
    have hL6 : Below w2.heap.size w2 w6 := HL5.out.trans (hb6.mono HL5.out.size)
    have HL6 := Lib.hid hL6
    have Hos6 := Lib.hid (own_below Hos.out hb6)
    have hcmp := compact_any w6 w5.heap.size c6 (sortK l) ho6 (by rw [Hsl.out]; exact hl) (by omega) w5.heap.size (Nat.le_refl _) hb6.size
    obtain ⟨a6, d6, rfl⟩ := own_shape ho6
    rw [Hsl.out] at hcmp ⊢
    obtain ⟨nc, hnc⟩ : ∃ nc, (Lib.compact (sortK l)).length = nc := ⟨_, rfl⟩
    rw [hnc] at hcmp
    have HCm := Lib.hid hcmp; have Hnc := Lib.hid hnc
    have Hb6 := Lib.hid hb6
    clear HCl hL6 hb6 ho6 hcmp hnc
    go_wp2_with fail
    refine HCm.out.mono ?_
    rintro e w7 ⟨⟨a7, c7, rfl⟩, hb7⟩
    have hL7 : Below w2.heap.size w2 w7 := HL6.out.trans (hb7.mono HL5.out.size)
    have HL7 := Lib.hid hL7
    have kr := (HK.out w7 hL7).2.2.1
    have hbel := (HK.out w7 hL7).1
    have hcn : nc = nl ↔ l.Nodup := by
      have := compact_nodup l
      rw [Hnc.out, Hnl.out] at this
      exact this
    have Hos7 := Lib.hid (show w7.ownsRow w4.heap.size 9 1 (.slice sa nl cs) nl ((sortK l).map eS) from own_below Hos.out (Hb6.out.trans hb7))
    clear HCm Hos
    by_cases hnn : nc = nl
    case neg =>
      have hI : ¬ (nc : Int) = (nl : Int) := by omega
      have hI2 : ((nc : Int) != (nl : Int)) = true := by simp; omega
      have Hal := Lib.hid (show allowedR d l = false by
        unfold allowedR
        rw [decide_eq_false (p := l.Nodup) (fun h => hnn (hcn.2 h))]
        simp)
      clear hcn hnn
      obtain ⟨wf, hwf, hblk, hbf⟩ := fin3 kr hbel (Nat.le_succ _) (.slice none 0 0) (.slice none 0 0) (.slice none 0 0)
      have y0 := kr.cell 0
      have y1 := kr.cell 1
      have y2 := kr.cell 2
      have z0 := kr.free 0
      have z1 := kr.free 1
      have z2 := kr.free 2
      simp at y0 y1 y2
      have Q0 := Lib.hid (hblk.cell 0); have Q1 := Lib.hid (hblk.cell 1); have Q2 := Lib.hid (hblk.cell 2)
      have Hbf := Lib.hid hbf; have Hwf := Lib.hid hwf
      clear hwf hblk hbf
      go_wp2_with fail
      rw [← Hwf.out]
      have q0 := Q0.out
      have q1 := Q1.out
      have q2 := Q2.out
      simp at q0 q1 q2
      refine bodyPost_ret (v := .tuple #[nilV, .slice none 0 0, .int .i64 1]) (by simp [results, Tryz.results55, go_sem, q0, q1, q2, nilV]) rfl ⟨.inr (.inl ⟨Hok.out, Hal.out, rfl⟩), Hbf.out⟩
    have Hnd := Lib.hid (hcn.1 hnn)
    subst hnn
    clear hcn hb7
    obtain ⟨kk, hkk⟩ : ∃ kk, (sortK l).all keyOk = kk := ⟨_, rfl⟩
    have Hkk := Lib.hid (show l.all keyOk = kk by
      rw [← hkk, Bool.eq_iff_iff, List.all_eq_true, List.all_eq_true]
      exact ⟨fun h x hx => h x ((sortK_perm l).mem_iff.1 hx), fun h x hx => h x ((sortK_perm l).mem_iff.2 hx)⟩)
    have hcb := containsBad_any w7 (HT.out w7 hL7).1 (HT.out w7 hL7).2 _ (.slice sa nc cs) (sortK l) (by rw [Hsl.out]; exact Rows.of_owns Hos7.out) (by rw [Hsl.out]; exact hl) (fun k hk => Hk.out k ((sortK_perm l).mem_iff.1 hk))
    rw [hkk] at hcb
    have HCb := Lib.hid hcb
    clear hcb hkk kr hbel
    go_wp2_with fail
    refine HCb.out.mono ?_
    rintro e w8 ⟨rfl, hb8⟩
    have hL8 : Below w2.heap.size w2 w8 := HL7.out.trans (hb8.mono HL7.out.size)
    have HL8 := Lib.hid hL8
    have kr := (HK.out w8 hL8).2.2.1
    have hbel := (HK.out w8 hL8).1
    have Hos8 := Lib.hid (own_below Hos7.out hb8)
    clear HCb hb8
    cases kk with
    | false =>
      have Hal := Lib.hid (show allowedR d l = false by unfold allowedR; rw [Hkk.out]; simp)
      obtain ⟨wf, hwf, hblk, hbf⟩ := fin3 kr hbel (Nat.le_succ _) (.slice none 0 0) (.slice none 0 0) (.slice none 0 0)
      have y0 := kr.cell 0
      have y1 := kr.cell 1
      have y2 := kr.cell 2
      have z0 := kr.free 0
      have z1 := kr.free 1
      have z2 := kr.free 2
      simp at y0 y1 y2
      have Q0 := Lib.hid (hblk.cell 0); have Q1 := Lib.hid (hblk.cell 1); have Q2 := Lib.hid (hblk.cell 2)
      have Hbf := Lib.hid hbf; have Hwf := Lib.hid hwf
      clear hwf hblk hbf
      go_wp2_with fail
      rw [← Hwf.out]
      have q0 := Q0.out
      have q1 := Q1.out
      have q2 := Q2.out
      simp at q0 q1 q2
      refine bodyPost_ret (v := .tuple #[nilV, .slice none 0 0, .int .i64 1]) (by simp [results, Tryz.results55, go_sem, q0, q1, q2, nilV]) rfl ⟨.inr (.inl ⟨Hok.out, Hal.out, rfl⟩), Hbf.out⟩
    | true =>
      have Hal := Lib.hid (show allowedR d l = true by
        unfold allowedR
        rw [Hkk.out, decide_eq_true Hnd.out]
        simp
        omega)
      have km := (HK.out w8 hL8).2.1
      have d0 := km.cell 0
      have d1 := km.cell 1
      have d2 := km.cell 2
      simp at d0 d1 d2
      have f := valid_formed Hok.out
      have HCo := Lib.hid (copied_any w8 _ (.agg #[.slice a1 n1 p1, .slice a2 n2 p2, .slice a3 n3 p3]) m ⟨_, _, _, rfl, (HK.out w8 hL8).2.2.2.1⟩ (by rw [f.len]; omega) (by rw [Hn2.out]; exact hl2) (by rw [Hn3.out]; exact hl3))
      have Hf := Lib.hid f
      clear f hL8 km hbel kr
      go_wp2_with fail
      refine HCo.out.mono ?_
      rintro e w9 ⟨⟨r9, rfl, s1, s2, s3, rfl, ho9⟩, hb9⟩
      have hL9 : Below w2.heap.size w2 w9 := HL8.out.trans (hb9.mono HL8.out.size)
      obtain ⟨b1, c1, hs1⟩ := own_shape ho9.seen
      obtain ⟨b2, c2, hs2⟩ := own_shape ho9.items
      obtain ⟨b3, c3, hs3⟩ := own_shape ho9.gone
      rw [Hn1.out] at hs1
      rw [Hn2.out] at hs2
      rw [Hn3.out] at hs3
      subst hs1 hs2 hs3
      have Hos9 := Lib.hid (own_below Hos8.out hb9)
      obtain ⟨g, rfl⟩ : ∃ g, b1 = some ⟨g, 0, none⟩ := by
        rcases ho9.seen.2 with ⟨_, h0⟩ | ⟨g, cap, cur, hv, _⟩
        · have := Hf.out.len; omega
        · simp at hv; exact ⟨g, hv.1⟩
      obtain ⟨q, rfl⟩ := Int.eq_ofNat_of_zero_le (show 0 ≤ d by omega)
      have hq : q < m.seen.length := by have := Hf.out.len; omega
      obtain ⟨x, hx⟩ : ∃ x, m.seen[q] = x := ⟨_, rfl⟩
      obtain ⟨hx0, hx1⟩ := Hf.out.seen x (by rw [← hx]; exact List.getElem_mem hq)
      have ho1 := ho9.seen
      rw [Hn1.out] at ho1
      have e0 : w9.cell? ⟨g, q, none⟩ = some (.int .i64 x) := by
        rw [ho1.cellAt q (by rw [← Hn1.out]; omega)]
        simp [hq, hx]
      have f0 := ho1.frozenAt q
      have hqI : (q : Int) < (n1 : Int) := by rw [← Hn1.out]; omega
      obtain ⟨hst, hgr⟩ := ho1.stored q (.int .i64 (x + 1))
      have hglt : w8.heap.size ≤ g ∧ g < w9.heap.size := by
        rcases ho1.2 with ⟨hh, _⟩ | ⟨g', cap, cur, hv, hb, hg, _⟩
        · simp at hh
        · simp at hv; obtain ⟨rfl, -⟩ := hv; exact ⟨hb, lt_of_block hg⟩
      obtain ⟨hg1, hg2⟩ := hglt
      have kr := (HK.out w9 hL9).2.2.1
      have y0 := kr.cell 0
      have y1 := kr.cell 1
      have y2 := kr.cell 2
      have z0 := kr.free 0
      have z1 := kr.free 1
      have z2 := kr.free 2
      simp at y0 y1 y2
      have hw8 := (HK.out w8 HL8.out).1.size
      have hz8 := HL8.out.size
      have hz2' := Hz2.out
      have hne1 : g ≠ w.heap.size + 1 := by omega
      have hne2 : g ≠ w9.heap.size := by omega
      have hlt9 : w.heap.size + 1 < w9.heap.size := by omega
      have Hst := Lib.hid hst; have Hgr := Lib.hid hgr; have Ho9 := Lib.hid ho9
      have HL9 := Lib.hid hL9; have Hx := Lib.hid hx; have Hkr := Lib.hid kr
      clear hst hgr ho9 ho1 hL9 hx kr hb9 HCo hw8 hz8 hz2'
      go_wp2_with fail
      obtain ⟨w10, hw10⟩ : ∃ w10, w10 = w9.setCell ⟨g, q, none⟩ (.int .i64 (x + 1)) := ⟨_, rfl⟩
      rw [← hw10]
      have hb10 : Below w.heap.size w w10 := by
        rw [hw10]
        exact (HK.out w9 HL9.out).1.setCell (by have := (HK.out w8 HL8.out).1.size; show w.heap.size ≤ g; omega) _
      have kr10 : Blk w10 (w.heap.size + 1) [.slice none 0 0, .slice none 0 0, .slice none 0 0] 31 := by
        rw [hw10]; exact Hkr.out.set_other _ (by show w.heap.size + 1 ≠ g; omega)
      obtain ⟨wf, hwf, hblk, hbf⟩ := fin3 kr10 hb10 (Nat.le_succ _) (.slice (some ⟨g, 0, none⟩) n1 c1) (.slice b2 n2 c2) (.slice b3 n3 c3)
      have hsz8 : w.heap.size ≤ w8.heap.size := (HK.out w8 HL8.out).1.size
      have hsz4 : w.heap.size ≤ w4.heap.size := (HK.out w4 HL4.out).1.size
      have hgr10 : w9.grownBy w10 (some g) := by rw [hw10]; exact Hgr.out
      have hown10 : OwnIn w10 w.heap.size (.slice (some ⟨g, 0, none⟩) n1 c1) (.slice b2 n2 c2) (.slice b3 n3 c3) ⟨seenUp m q, m.items, m.gone⟩ := by
        refine ⟨?_, own_base (own_grownNe Ho9.out.items Ho9.out.seen (by decide) hgr10) hsz8, own_base (own_grownNe Ho9.out.gone Ho9.out.seen (by decide) hgr10) hsz8⟩
        have h1 := own_base Hst.out hsz8
        rw [← hw10] at h1
        have h2 : (seenUp m q).length = n1 := by unfold seenUp; simp; exact Hn1.out
        have h3 : (seenUp m q).map eI = (m.seen.map eI).set q (.int .i64 (x + 1)) := by
          unfold seenUp
          rw [List.map_set, Int.toNat_natCast, List.getD_eq_getElem?_getD, List.getElem?_eq_getElem hq, Hx.out]
          rfl
        show w10.ownsRow w.heap.size 3 1 _ (seenUp m q).length ((seenUp m q).map eI)
        rw [h2, h3]
        exact h1
      have hos10 : w10.ownsRow w.heap.size 9 1 (.slice sa nc cs) nc ((sortK l).map eS) := own_base (own_grownNe Hos9.out Ho9.out.seen (by decide) hgr10) hsz4
      have hownf : OwnIn wf w.heap.size (.slice (some ⟨g, 0, none⟩) n1 c1) (.slice b2 n2 c2) (.slice b3 n3 c3) ⟨seenUp m q, m.items, m.gone⟩ := by
        rw [hwf]
        exact ((hown10.setCell kr10 _).setCell (kr10.set 0 _) _).setCell ((kr10.set 0 _).set 1 _) _
      have hosf : wf.ownsRow w.heap.size 9 1 (.slice sa nc cs) nc ((sortK l).map eS) := by
        rw [hwf]
        exact own_setCell (own_setCell (own_setCell hos10 kr10 (by decide) _) (kr10.set 0 _) (by decide) _) ((kr10.set 0 _).set 1 _) (by decide) _
      rw [← hwf]
      have hbA := kept_alloc wf (.cells #[.slice (some ⟨g, 0, none⟩) n1 c1, .slice b2 n2 c2, .slice b3 n3 c3] 31)
      have hkA := hblk.keep (hbA.block _ hblk.lt)
      have q0 := hkA.cell 0
      have q1 := hkA.cell 1
      have q2 := hkA.cell 2
      simp at q0 q1 q2
      refine bodyPost_ret (v := .tuple #[.agg #[.slice (some ⟨g, 0, none⟩) n1 c1, .slice b2 n2 c2, .slice b3 n3 c3], .slice sa nc cs, .int .i64 0]) (by simp [results, Tryz.results55, go_sem, q0, q1, q2]) rfl
        ⟨.inr (.inr ⟨Hok.out, Hal.out, _, _, rfl, ⟨_, _, _, rfl, hownf.below hbA⟩, by rw [Hnl.out]; exact own_below hosf hbA⟩), hbf.trans (hbA.mono hbf.size)⟩
end Go.Proofs.YtbjkkmabafaogaaGreatDoor
