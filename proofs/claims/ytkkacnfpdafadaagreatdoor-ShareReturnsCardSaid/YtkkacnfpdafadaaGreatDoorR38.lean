/-
  SGot
-/
import Derived.Test.YtkkacnfpdafadaaGreatDoorR30
import Derived.Test.YtkkacnfpdafadaaGreatDoorR10
namespace Go.Proofs.YtkkacnfpdafadaaGreatDoor
open Go.RowKit
set_option linter.unusedVariables false
set_option maxRecDepth 20000
attribute [local go_sem ↓] seal_append
attribute [local go_sem] opC upC

theorem Bytes.inside {F : Blks} {w : World} {v : Value} {l : List UInt8} (h : Bytes F w v l) : Bytes (fun q => q < w.heap.size) w v l := by
  obtain ⟨a, cap, hv, h1, h2, h3, h4⟩ := h
  refine ⟨a, cap, hv, h1, h2, h3, ?_⟩
  rcases h4 with h4 | ⟨bb, off, L, t, fz, e1, -, e2, rest⟩
  · exact .inl h4
  · exact .inr ⟨bb, off, L, t, fz, e1, lt_of_block e2, e2, rest⟩
def SGPost (w : World) (x : SMsg) (e : Ending) (w' : World) : Prop := ∃ v, e = .returned v ∧ MsgV (fun b => w.heap.size ≤ b) w' v x ∧ Below w.heap.size w w'
structure SmallS (x : SMsg) : Prop where
  seen : x.seen.length ≤ 1000000
  tseen : x.tell.seen.length ≤ 1000000
  items : x.tell.items.length ≤ 1000000
  gone : x.tell.gone.length ≤ 1000000
def RowsST (tIt tGo : TypeId) (w : World) (base : Nat) (v : Value) (x : SMsg) : Prop := ∃ sv s1 s2 s3, v = .agg #[.int .i64 x.frm, sv, s1, s2, s3] ∧ w.ownsRow base 3 1 sv x.seen.length (x.seen.map eI) ∧ w.ownsRow base 3 1 s1 x.tell.seen.length (x.tell.seen.map eI) ∧ w.ownsRow base tIt 4 s2 x.tell.items.length (x.tell.items.flatMap encIt) ∧ w.ownsRow base tGo 3 s3 x.tell.gone.length (x.tell.gone.flatMap encGo)
def SGPostT (tIt tGo : TypeId) (w : World) (x : SMsg) (e : Ending) (w' : World) : Prop := ∃ v, e = .returned v ∧ RowsST tIt tGo w' w.heap.size v x ∧ MsgV (fun b => w.heap.size ≤ b) w' v x ∧ Below w.heap.size w w'
theorem own_fin5 {W wf : World} {base b : Nat} {e t : TypeId} {k n : Nat} {v : Value} {xs L : List Value} (h : W.ownsRow base e k v n xs) (hb : Blk W b L t) (hne : e ≠ t) {c0 c1 c2 c3 c4 : Value}
    (hwf : wf = ((((W.setCell ⟨b, 0, none⟩ c0).setCell ⟨b, 1, none⟩ c1).setCell ⟨b, 2, none⟩ c2).setCell ⟨b, 3, none⟩ c3).setCell ⟨b, 4, none⟩ c4) : wf.ownsRow base e k v n xs := by
  rw [hwf]
  exact own_setCell (own_setCell (own_setCell (own_setCell (own_setCell h hb hne _) (hb.set 0 _) hne _) ((hb.set 0 _).set 1 _) hne _) (((hb.set 0 _).set 1 _).set 2 _) hne _) ((((hb.set 0 _).set 1 _).set 2 _).set 3 _) hne _
set_option maxRecDepth 100000 in
set_option maxHeartbeats 4000000 in
theorem sent_own (w : World) (F : Blks) (v : Value) (x : SMsg) (h : MsgV F w v x) (hsm : SmallS x) :
    Calls Tryz.prog 22 #[v] w (SGPostT 50 95 w x) := by
  replace h := h.mono (G := fun q => q < w.heap.size) fun q _ hlt => hlt
  obtain ⟨sv, s1, s2, s3, rfl, h⟩ := h
  obtain ⟨a0, p0, rfl, -⟩ := h.seen.shape
  obtain ⟨a1, p1, rfl, -⟩ := h.tell.seen.shape
  obtain ⟨a2, p2, rfl, -⟩ := h.tell.items.shape
  obtain ⟨a3, p3, rfl, -⟩ := h.tell.gone.shape
  obtain ⟨wx, hwx⟩ : ∃ qq, qq = w.alloc (.cells #[.int .i64 x.frm, .slice a0 x.seen.length p0, .slice a1 x.tell.seen.length p1, .slice a2 x.tell.items.length p2, .slice a3 x.tell.gone.length p3] 43) := ⟨_, rfl⟩
  have hbx : Below w.heap.size w wx := by rw [hwx]; exact kept_alloc _ _
  have hzx : wx.heap.size = w.heap.size + 1 := by rw [hwx]; simp
  have hx := h.keep (w' := wx) fun b _ hlt => hbx.block b hlt
  have hnx : Blk wx w.heap.size [.int .i64 x.frm, .slice a0 x.seen.length p0, .slice a1 x.tell.seen.length p1, .slice a2 x.tell.items.length p2, .slice a3 x.tell.gone.length p3] 43 := by rw [hwx]; exact Blk.new _ _ _
  have Hx := Lib.hid hx
  have Hwx := Lib.hid hwx; have Hbx := Lib.hid hbx; have Hzx := Lib.hid hzx
  have Hnx := Lib.hid hnx
  clear hx hwx hbx hnx hzx h
  obtain ⟨w2, hw2⟩ : ∃ w2, w2 = wx.alloc (.cells #[.int .i64 0, .slice none 0 0, .slice none 0 0, .slice none 0 0, .slice none 0 0] 39) := ⟨_, rfl⟩
  have hz2 : w2.heap.size = w.heap.size + 2 := by rw [hw2]; simp [Hzx.out]
  have hb2 : Below w.heap.size w w2 := by rw [hw2]; exact Hbx.out.alloc Hbx.out.size _
  have km : Blk w2 w.heap.size [.int .i64 x.frm, .slice a0 x.seen.length p0, .slice a1 x.tell.seen.length p1, .slice a2 x.tell.items.length p2, .slice a3 x.tell.gone.length p3] 43 := by rw [hw2]; exact Hnx.out.alloc _
  have k2 : Blk w2 (w.heap.size + 1) [.int .i64 0, .slice none 0 0, .slice none 0 0, .slice none 0 0, .slice none 0 0] 39 := by
    have := Blk.new wx #[.int .i64 0, .slice none 0 0, .slice none 0 0, .slice none 0 0, .slice none 0 0] 39
    rw [← hw2, Hzx.out] at this
    exact this
  have hMx := Hx.out
  have HR := Lib.hid (show ∀ W, Below w2.heap.size w2 W → Below w.heap.size w W ∧ Blk W (w.heap.size + 1) [.int .i64 0, .slice none 0 0, .slice none 0 0, .slice none 0 0, .slice none 0 0] 39 ∧ MsgIn (fun q => q < w.heap.size) W (.slice a0 x.seen.length p0) (.slice a1 x.tell.seen.length p1) (.slice a2 x.tell.items.length p2) (.slice a3 x.tell.gone.length p3) x from fun W hW => by
    have hB : Below w.heap.size w W := hb2.trans (hW.mono (by omega))
    exact ⟨hB, k2.keep (hW.block _ k2.lt), hMx.keep (w' := W) fun q hq _ => (hB.block q hq).trans (Hbx.out.block q hq).symm⟩)
  have hkl := km.lt
  have p0' : ∀ W, Below w2.heap.size w2.drew W → W.cell? _ = _ := fun W hh => (hh.cell (p := ⟨w.heap.size, 0, none⟩) hkl).trans (cell5 km).1
  have p1' : ∀ W, Below w2.heap.size w2.drew W → W.cell? _ = _ := fun W hh => (hh.cell (p := ⟨w.heap.size, 1, none⟩) hkl).trans (cell5 km).2.1
  have p2' : ∀ W, Below w2.heap.size w2.drew W → W.cell? _ = _ := fun W hh => (hh.cell (p := ⟨w.heap.size, 2, none⟩) hkl).trans (cell5 km).2.2.1
  have p3' : ∀ W, Below w2.heap.size w2.drew W → W.cell? _ = _ := fun W hh => (hh.cell (p := ⟨w.heap.size, 3, none⟩) hkl).trans (cell5 km).2.2.2.1
  have p4' : ∀ W, Below w2.heap.size w2.drew W → W.cell? _ = _ := fun W hh => (hh.cell (p := ⟨w.heap.size, 4, none⟩) hkl).trans (cell5 km).2.2.2.2
  obtain ⟨wd, hwd⟩ : ∃ wd, wd = w2.drew := ⟨_, rfl⟩
  have hzd : wd.heap.size = w2.heap.size := by rw [hwd]; rfl
  have hLd : Below w2.heap.size w2 wd := by rw [hwd]; exact (Below.refl _ _).drew
  obtain ⟨i0, t1', t2', t3', t4'⟩ := info_parts infoI
  have hsl := hsm.seen
  obtain ⟨v', w6, hr6, hown6, hg6⟩ := run_append_rows (P := Tryz.prog) (wd.alloc (.cells #[] 3)) wd.heap.size 22 3 Tryz.underlying22 t1' t2' t3' t4' rfl (by decide) (.slice (some ⟨wd.heap.size, 0, none⟩) 0 0) 0 []
    ⟨rfl, .inr ⟨wd.heap.size, 0, #[], rfl, Nat.le_refl _, by unfold World.alloc; simp, Nat.le_refl _, by unfold maxLen; omega, rfl, rfl⟩⟩ _ _ x.seen.length (x.seen.map eI) ((HR.out wd hLd).2.2.seen.keep (w' := wd.alloc (.cells #[] 3)) fun b _ hlt => Below.heap_alloc _ _ _ hlt) (one_eI x.seen) (by unfold maxLen; omega) (by omega) (by simp)
  rw [Nat.zero_add, List.nil_append] at hown6
  obtain ⟨b6, e6, rfl⟩ := own_shape hown6
  obtain ⟨w5, hw5⟩ : ∃ w5, w5 = wd.alloc (.cells #[] 3) := ⟨_, rfl⟩
  rw [← hw5] at hr6 hg6
  have k1 : Below w2.heap.size wd w5 := by rw [hw5, ← hzd]; exact kept_alloc _ _
  have hz5 : w5.heap.size = wd.heap.size + 1 := by rw [hw5]; simp
  have k2' : Below w2.heap.size w5 w6 := (Below.refl w2.heap.size w5).grown hg6 (by omega) (fun q hq => by simp [Value.ownBlock] at hq; omega)
  rw [hzd] at hr6
  have hL6 : Below w2.heap.size w2 w6 := hLd.trans (k1.trans k2')
  have HC := Lib.hid (given_own w6 _ (.agg #[.slice a1 x.tell.seen.length p1, .slice a2 x.tell.items.length p2, .slice a3 x.tell.gone.length p3]) x.tell ⟨_, _, _, rfl, (HR.out w6 hL6).2.2.tell⟩ hsm.tseen hsm.items hsm.gone)
  have Hw2 := Lib.hid hw2; have Hz2 := Lib.hid hz2; have HL6 := Lib.hid hL6; have Hown := Lib.hid hown6; have Hzd := Lib.hid hzd
  have Hw5 := Lib.hid (show w5 = w2.drew.alloc (.cells #[] 3) by rw [hw5, hwd]); have Hwd := Lib.hid hwd
  have HbS := Lib.hid hMx.bnd
  clear hw2 hz2 hb2 km k2 hMx hkl hLd hw5 hz5 hown6 hg6 t1' t2' t3' t4' hzd hwd hL6 hsl hsm
  go_enter Tryz.func22, Tryz.ntmps22
  go_wp2_with fail
  rw [← Hwx.out, ← Hw2.out]
  refine wp_region_canL (Below w2.heap.size) 10 [(0, true), (1, true), (3, true), (4, true), (6, true), (7, true), (2, false), (5, false), (8, false), (9, true), (10, false)] (by kernel_rfl) (by kernel_rfl) (by kernel_rfl) (Below.refl _) (fun a b c h k => h.trans k) ?_
  repeat (refine canL_yes (v := ?_) rfl (wanted_none rfl) (fun w' hC => ?_) (fun K hK => ?_); rotate_left; (focus (go_simp; first | done | exact rfl)); go_simp; refine hK _ ?_; clear hK K)
  refine canL_go rfl rfl (fun KK hK => ?_)
  go_simp
  rw [show (w2.alloc (.cells #[] 3)).drew = w5 from Hw5.out.symm]
  first | refine ⟨by rw [← Hwd.out]; exact k1, hK _ _ ?_⟩ | refine hK _ _ ?_
  clear hK KK
  go_simp
  repeat (refine canL_yes (v := ?_) rfl (wanted_none rfl) (fun w' hC => ?_) (fun K hK => ?_); rotate_left; (focus (go_simp; first | done | exact rfl)); go_simp; refine hK _ ?_; clear hK K)
  refine canL_go rfl rfl (fun KK hK => ?_)
  go_simp
  first | refine ⟨k2', hK _ _ ?_⟩ | refine hK _ _ ?_
  clear hK KK p0' p1' p2' p3' p4' k1 k2' hr6
  go_simp
  repeat (refine canL_yes (v := ?_) rfl (wanted_none rfl) (fun w' hC => ?_) (fun K hK => ?_); rotate_left; (focus (go_simp; first | done | exact rfl)); go_simp; refine hK _ ?_; clear hK K)
  refine canL_go rfl rfl (fun KK hK => ?_)
  go_simp
  refine HC.out.mono ?_
  rintro e w7 ⟨vt, rfl, hrt, hvt, hb7⟩
  obtain ⟨t1, t2, t3, rfl, hmi⟩ := hvt
  obtain ⟨b1, e1, rfl, -⟩ := hmi.seen.shape
  obtain ⟨b2, e2, rfl, -⟩ := hmi.items.shape
  obtain ⟨b3, e3, rfl, -⟩ := hmi.gone.shape
  refine ⟨_, rfl, hb7.mono HL6.out.size, hK _ _ ?_⟩
  clear hK KK HC
  go_simp
  have hL7 := HL6.out.trans (hb7.mono HL6.out.size)
  obtain ⟨hbel, kr, -⟩ := HR.out w7 hL7
  have hmsg : MsgIn (fun b => w.heap.size ≤ b ∧ b ≠ w.heap.size + 1) w7 (.slice b6 x.seen.length e6) (.slice b1 x.tell.seen.length e1) (.slice b2 x.tell.items.length e2) (.slice b3 x.tell.gone.length e3) x := by
    have hz2 := Hz2.out
    have hz6 := HL6.out.size
    have hzd := Hzd.out
    exact ⟨(Rows.of_owns (own_below Hown.out hb7)).mono fun b hb _ => by have := hb.1; constructor <;> omega, hmi.mono fun b hb _ => by have hb' : w6.heap.size ≤ b := hb; constructor <;> omega, HbS.out.frmB, HbS.out.seenB⟩
  obtain ⟨wf, hwf, hblk, hbf⟩ := fin5 kr hbel (by omega) (.int .i64 x.frm) (.slice b6 x.seen.length e6) (.slice b1 x.tell.seen.length e1) (.slice b2 x.tell.items.length e2) (.slice b3 x.tell.gone.length e3)
  have hmf : MsgIn (fun b => w.heap.size ≤ b) wf (.slice b6 x.seen.length e6) (.slice b1 x.tell.seen.length e1) (.slice b2 x.tell.items.length e2) (.slice b3 x.tell.gone.length e3) x := by
    rw [hwf]
    exact (hmsg.keep fun q hq _ => by
      have h := hq.2
      exact (Below.heap_setCell _ _ _ _ h).trans ((Below.heap_setCell _ _ _ _ h).trans ((Below.heap_setCell _ _ _ _ h).trans ((Below.heap_setCell _ _ _ _ h).trans (Below.heap_setCell _ _ _ _ h))))).mono fun q hq _ => hq.1
  obtain ⟨y0, y1, y2, y3, y4⟩ := cell5 kr
  have z0 := kr.free 0
  have z1 := kr.free 1
  have z2 := kr.free 2
  have z3 := kr.free 3
  have z4 := kr.free 4
  have Q := Lib.hid (cell5 hblk)
  obtain ⟨u1, u2, u3, hu, hr1, hr2, hr3⟩ := hrt
  simp only [Value.agg.injEq, Array.mk.injEq, List.cons.injEq, and_true] at hu
  obtain ⟨rfl, rfl, rfl⟩ := hu
  have hrows : RowsST 50 95 wf w.heap.size (.agg #[.int .i64 x.frm, .slice b6 x.seen.length e6, .slice b1 x.tell.seen.length e1, .slice b2 x.tell.items.length e2, .slice b3 x.tell.gone.length e3]) x := by
    have hz2 := Hz2.out
    have hz6 := HL6.out.size
    have hzd := Hzd.out
    exact ⟨_, _, _, _, rfl, own_fin5 (own_base (own_below Hown.out hb7) (by omega)) kr (by decide) hwf, own_fin5 (own_base hr1 (by omega)) kr (by decide) hwf, own_fin5 (own_base hr2 (by omega)) kr (by decide) hwf, own_fin5 (own_base hr3 (by omega)) kr (by decide) hwf⟩
  have Hbf := Lib.hid hbf; have Hwf := Lib.hid hwf; have Hmf := Lib.hid hmf; have Hrows := Lib.hid hrows
  clear hwf hblk hbf hmf hmsg hmi hL7 kr hbel hb7 hrows hr1 hr2 hr3
  repeat (refine canL_yes (v := ?_) rfl (wanted_none rfl) (fun w' hC => ?_) (fun K hK => ?_); rotate_left; (focus (go_simp; first | done | exact rfl)); go_simp; refine hK _ ?_; clear hK K)
  refine canL_last rfl rfl rfl (fun KK hK => ?_)
  go_simp
  rw [← Hwf.out]
  refine hK _ _ ?_
  clear hK KK y0 y1 y2 y3 y4 z0 z1 z2 z3 z4
  go_simp
  refine canL_nil ?_
  go_wp2_with fail
  obtain ⟨q0, q1, q2, q3, q4⟩ := Q.out
  exact bodyPost_ret (v := .agg #[.int .i64 x.frm, .slice b6 x.seen.length e6, .slice b1 x.tell.seen.length e1, .slice b2 x.tell.items.length e2, .slice b3 x.tell.gone.length e3]) (by simp [results, Tryz.results22, go_sem, q0, q1, q2, q3, q4]) rfl
    ⟨_, rfl, Hrows.out, ⟨_, _, _, _, rfl, Hmf.out⟩, Hbf.out⟩
theorem sent_any (w : World) (F : Blks) (v : Value) (x : SMsg) (h : MsgV F w v x) (hsm : SmallS x) : Calls Tryz.prog 22 #[v] w (SGPost w x) := (sent_own w F v x h hsm).mono fun e w' ⟨v, h1, _, h2, h3⟩ => ⟨v, h1, h2, h3⟩
set_option maxRecDepth 100000 in
set_option maxHeartbeats 4000000 in
theorem got_own (w : World) (F : Blks) (v : Value) (x : SMsg) (h : MsgV F w v x) (hsm : SmallS x) :
    Calls Tryz.prog 20 #[v] w (SGPostT 92 94 w x) := by
  replace h := h.mono (G := fun q => q < w.heap.size) fun q _ hlt => hlt
  obtain ⟨sv, s1, s2, s3, rfl, h⟩ := h
  obtain ⟨a0, p0, rfl, -⟩ := h.seen.shape
  obtain ⟨a1, p1, rfl, -⟩ := h.tell.seen.shape
  obtain ⟨a2, p2, rfl, -⟩ := h.tell.items.shape
  obtain ⟨a3, p3, rfl, -⟩ := h.tell.gone.shape
  obtain ⟨wx, hwx⟩ : ∃ qq, qq = w.alloc (.cells #[.int .i64 x.frm, .slice a0 x.seen.length p0, .slice a1 x.tell.seen.length p1, .slice a2 x.tell.items.length p2, .slice a3 x.tell.gone.length p3] 39) := ⟨_, rfl⟩
  have hbx : Below w.heap.size w wx := by rw [hwx]; exact kept_alloc _ _
  have hzx : wx.heap.size = w.heap.size + 1 := by rw [hwx]; simp
  have hx := h.keep (w' := wx) fun b _ hlt => hbx.block b hlt
  have hnx : Blk wx w.heap.size [.int .i64 x.frm, .slice a0 x.seen.length p0, .slice a1 x.tell.seen.length p1, .slice a2 x.tell.items.length p2, .slice a3 x.tell.gone.length p3] 39 := by rw [hwx]; exact Blk.new _ _ _
  have Hx := Lib.hid hx
  have Hwx := Lib.hid hwx; have Hbx := Lib.hid hbx; have Hzx := Lib.hid hzx
  have Hnx := Lib.hid hnx
  clear hx hwx hbx hnx hzx h
  obtain ⟨w2, hw2⟩ : ∃ w2, w2 = wx.alloc (.cells #[.int .i64 0, .slice none 0 0, .slice none 0 0, .slice none 0 0, .slice none 0 0] 43) := ⟨_, rfl⟩
  have hz2 : w2.heap.size = w.heap.size + 2 := by rw [hw2]; simp [Hzx.out]
  have hb2 : Below w.heap.size w w2 := by rw [hw2]; exact Hbx.out.alloc Hbx.out.size _
  have km : Blk w2 w.heap.size [.int .i64 x.frm, .slice a0 x.seen.length p0, .slice a1 x.tell.seen.length p1, .slice a2 x.tell.items.length p2, .slice a3 x.tell.gone.length p3] 39 := by rw [hw2]; exact Hnx.out.alloc _
  have k2 : Blk w2 (w.heap.size + 1) [.int .i64 0, .slice none 0 0, .slice none 0 0, .slice none 0 0, .slice none 0 0] 43 := by
    have := Blk.new wx #[.int .i64 0, .slice none 0 0, .slice none 0 0, .slice none 0 0, .slice none 0 0] 43
    rw [← hw2, Hzx.out] at this
    exact this
  have hMx := Hx.out
  have HR := Lib.hid (show ∀ W, Below w2.heap.size w2 W → Below w.heap.size w W ∧ Blk W (w.heap.size + 1) [.int .i64 0, .slice none 0 0, .slice none 0 0, .slice none 0 0, .slice none 0 0] 43 ∧ MsgIn (fun q => q < w.heap.size) W (.slice a0 x.seen.length p0) (.slice a1 x.tell.seen.length p1) (.slice a2 x.tell.items.length p2) (.slice a3 x.tell.gone.length p3) x from fun W hW => by
    have hB : Below w.heap.size w W := hb2.trans (hW.mono (by omega))
    exact ⟨hB, k2.keep (hW.block _ k2.lt), hMx.keep (w' := W) fun q hq _ => (hB.block q hq).trans (Hbx.out.block q hq).symm⟩)
  have hkl := km.lt
  have p0' : ∀ W, Below w2.heap.size w2.drew W → W.cell? _ = _ := fun W hh => (hh.cell (p := ⟨w.heap.size, 0, none⟩) hkl).trans (cell5 km).1
  have p1' : ∀ W, Below w2.heap.size w2.drew W → W.cell? _ = _ := fun W hh => (hh.cell (p := ⟨w.heap.size, 1, none⟩) hkl).trans (cell5 km).2.1
  have p2' : ∀ W, Below w2.heap.size w2.drew W → W.cell? _ = _ := fun W hh => (hh.cell (p := ⟨w.heap.size, 2, none⟩) hkl).trans (cell5 km).2.2.1
  have p3' : ∀ W, Below w2.heap.size w2.drew W → W.cell? _ = _ := fun W hh => (hh.cell (p := ⟨w.heap.size, 3, none⟩) hkl).trans (cell5 km).2.2.2.1
  have p4' : ∀ W, Below w2.heap.size w2.drew W → W.cell? _ = _ := fun W hh => (hh.cell (p := ⟨w.heap.size, 4, none⟩) hkl).trans (cell5 km).2.2.2.2
  obtain ⟨wd, hwd⟩ : ∃ wd, wd = w2.drew := ⟨_, rfl⟩
  have hzd : wd.heap.size = w2.heap.size := by rw [hwd]; rfl
  have hLd : Below w2.heap.size w2 wd := by rw [hwd]; exact (Below.refl _ _).drew
  obtain ⟨i0, t1', t2', t3', t4'⟩ := info_parts infoI
  have hsl := hsm.seen
  obtain ⟨v', w6, hr6, hown6, hg6⟩ := run_append_rows (P := Tryz.prog) (wd.alloc (.cells #[] 3)) wd.heap.size 22 3 Tryz.underlying22 t1' t2' t3' t4' rfl (by decide) (.slice (some ⟨wd.heap.size, 0, none⟩) 0 0) 0 []
    ⟨rfl, .inr ⟨wd.heap.size, 0, #[], rfl, Nat.le_refl _, by unfold World.alloc; simp, Nat.le_refl _, by unfold maxLen; omega, rfl, rfl⟩⟩ _ _ x.seen.length (x.seen.map eI) ((HR.out wd hLd).2.2.seen.keep (w' := wd.alloc (.cells #[] 3)) fun b _ hlt => Below.heap_alloc _ _ _ hlt) (one_eI x.seen) (by unfold maxLen; omega) (by omega) (by simp)
  rw [Nat.zero_add, List.nil_append] at hown6
  obtain ⟨b6, e6, rfl⟩ := own_shape hown6
  obtain ⟨w5, hw5⟩ : ∃ w5, w5 = wd.alloc (.cells #[] 3) := ⟨_, rfl⟩
  rw [← hw5] at hr6 hg6
  have k1 : Below w2.heap.size wd w5 := by rw [hw5, ← hzd]; exact kept_alloc _ _
  have hz5 : w5.heap.size = wd.heap.size + 1 := by rw [hw5]; simp
  have k2' : Below w2.heap.size w5 w6 := (Below.refl w2.heap.size w5).grown hg6 (by omega) (fun q hq => by simp [Value.ownBlock] at hq; omega)
  rw [hzd] at hr6
  have hL6 : Below w2.heap.size w2 w6 := hLd.trans (k1.trans k2')
  have HC := Lib.hid (taken_own w6 _ (.agg #[.slice a1 x.tell.seen.length p1, .slice a2 x.tell.items.length p2, .slice a3 x.tell.gone.length p3]) x.tell ⟨_, _, _, rfl, (HR.out w6 hL6).2.2.tell⟩ hsm.tseen hsm.items hsm.gone)
  have Hw2 := Lib.hid hw2; have Hz2 := Lib.hid hz2; have HL6 := Lib.hid hL6; have Hown := Lib.hid hown6; have Hzd := Lib.hid hzd
  have Hw5 := Lib.hid (show w5 = w2.drew.alloc (.cells #[] 3) by rw [hw5, hwd]); have Hwd := Lib.hid hwd
  have HbS := Lib.hid hMx.bnd
  clear hw2 hz2 hb2 km k2 hMx hkl hLd hw5 hz5 hown6 hg6 t1' t2' t3' t4' hzd hwd hL6 hsl hsm
  go_enter Tryz.func20, Tryz.ntmps20
  go_wp2_with fail
  rw [← Hwx.out, ← Hw2.out]
  refine wp_region_canL (Below w2.heap.size) 10 [(0, true), (1, true), (3, true), (4, true), (6, true), (7, true), (2, false), (5, false), (8, false), (9, true), (10, false)] (by kernel_rfl) (by kernel_rfl) (by kernel_rfl) (Below.refl _) (fun a b c h k => h.trans k) ?_
  repeat (refine canL_yes (v := ?_) rfl (wanted_none rfl) (fun w' hC => ?_) (fun K hK => ?_); rotate_left; (focus (go_simp; first | done | exact rfl)); go_simp; refine hK _ ?_; clear hK K)
  refine canL_go rfl rfl (fun KK hK => ?_)
  go_simp
  rw [show (w2.alloc (.cells #[] 3)).drew = w5 from Hw5.out.symm]
  first | refine ⟨by rw [← Hwd.out]; exact k1, hK _ _ ?_⟩ | refine hK _ _ ?_
  clear hK KK
  go_simp
  repeat (refine canL_yes (v := ?_) rfl (wanted_none rfl) (fun w' hC => ?_) (fun K hK => ?_); rotate_left; (focus (go_simp; first | done | exact rfl)); go_simp; refine hK _ ?_; clear hK K)
  refine canL_go rfl rfl (fun KK hK => ?_)
  go_simp
  first | refine ⟨k2', hK _ _ ?_⟩ | refine hK _ _ ?_
  clear hK KK p0' p1' p2' p3' p4' k1 k2' hr6
  go_simp
  repeat (refine canL_yes (v := ?_) rfl (wanted_none rfl) (fun w' hC => ?_) (fun K hK => ?_); rotate_left; (focus (go_simp; first | done | exact rfl)); go_simp; refine hK _ ?_; clear hK K)
  refine canL_go rfl rfl (fun KK hK => ?_)
  go_simp
  refine HC.out.mono ?_
  rintro e w7 ⟨vt, rfl, hrt, hvt, hb7⟩
  obtain ⟨t1, t2, t3, rfl, hmi⟩ := hvt
  obtain ⟨b1, e1, rfl, -⟩ := hmi.seen.shape
  obtain ⟨b2, e2, rfl, -⟩ := hmi.items.shape
  obtain ⟨b3, e3, rfl, -⟩ := hmi.gone.shape
  refine ⟨_, rfl, hb7.mono HL6.out.size, hK _ _ ?_⟩
  clear hK KK HC
  go_simp
  have hL7 := HL6.out.trans (hb7.mono HL6.out.size)
  obtain ⟨hbel, kr, -⟩ := HR.out w7 hL7
  have hmsg : MsgIn (fun b => w.heap.size ≤ b ∧ b ≠ w.heap.size + 1) w7 (.slice b6 x.seen.length e6) (.slice b1 x.tell.seen.length e1) (.slice b2 x.tell.items.length e2) (.slice b3 x.tell.gone.length e3) x := by
    have hz2 := Hz2.out
    have hz6 := HL6.out.size
    have hzd := Hzd.out
    exact ⟨(Rows.of_owns (own_below Hown.out hb7)).mono fun b hb _ => by have := hb.1; constructor <;> omega, hmi.mono fun b hb _ => by have hb' : w6.heap.size ≤ b := hb; constructor <;> omega, HbS.out.frmB, HbS.out.seenB⟩
  obtain ⟨wf, hwf, hblk, hbf⟩ := fin5 kr hbel (by omega) (.int .i64 x.frm) (.slice b6 x.seen.length e6) (.slice b1 x.tell.seen.length e1) (.slice b2 x.tell.items.length e2) (.slice b3 x.tell.gone.length e3)
  have hmf : MsgIn (fun b => w.heap.size ≤ b) wf (.slice b6 x.seen.length e6) (.slice b1 x.tell.seen.length e1) (.slice b2 x.tell.items.length e2) (.slice b3 x.tell.gone.length e3) x := by
    rw [hwf]
    exact (hmsg.keep fun q hq _ => by
      have h := hq.2
      exact (Below.heap_setCell _ _ _ _ h).trans ((Below.heap_setCell _ _ _ _ h).trans ((Below.heap_setCell _ _ _ _ h).trans ((Below.heap_setCell _ _ _ _ h).trans (Below.heap_setCell _ _ _ _ h))))).mono fun q hq _ => hq.1
  obtain ⟨y0, y1, y2, y3, y4⟩ := cell5 kr
  have z0 := kr.free 0
  have z1 := kr.free 1
  have z2 := kr.free 2
  have z3 := kr.free 3
  have z4 := kr.free 4
  have Q := Lib.hid (cell5 hblk)
  obtain ⟨u1, u2, u3, hu, hr1, hr2, hr3⟩ := hrt
  simp only [Value.agg.injEq, Array.mk.injEq, List.cons.injEq, and_true] at hu
  obtain ⟨rfl, rfl, rfl⟩ := hu
  have hrows : RowsST 92 94 wf w.heap.size (.agg #[.int .i64 x.frm, .slice b6 x.seen.length e6, .slice b1 x.tell.seen.length e1, .slice b2 x.tell.items.length e2, .slice b3 x.tell.gone.length e3]) x := by
    have hz2 := Hz2.out
    have hz6 := HL6.out.size
    have hzd := Hzd.out
    exact ⟨_, _, _, _, rfl, own_fin5 (own_base (own_below Hown.out hb7) (by omega)) kr (by decide) hwf, own_fin5 (own_base hr1 (by omega)) kr (by decide) hwf, own_fin5 (own_base hr2 (by omega)) kr (by decide) hwf, own_fin5 (own_base hr3 (by omega)) kr (by decide) hwf⟩
  have Hbf := Lib.hid hbf; have Hwf := Lib.hid hwf; have Hmf := Lib.hid hmf; have Hrows := Lib.hid hrows
  clear hwf hblk hbf hmf hmsg hmi hL7 kr hbel hb7 hrows hr1 hr2 hr3
  repeat (refine canL_yes (v := ?_) rfl (wanted_none rfl) (fun w' hC => ?_) (fun K hK => ?_); rotate_left; (focus (go_simp; first | done | exact rfl)); go_simp; refine hK _ ?_; clear hK K)
  refine canL_last rfl rfl rfl (fun KK hK => ?_)
  go_simp
  rw [← Hwf.out]
  refine hK _ _ ?_
  clear hK KK y0 y1 y2 y3 y4 z0 z1 z2 z3 z4
  go_simp
  refine canL_nil ?_
  go_wp2_with fail
  obtain ⟨q0, q1, q2, q3, q4⟩ := Q.out
  exact bodyPost_ret (v := .agg #[.int .i64 x.frm, .slice b6 x.seen.length e6, .slice b1 x.tell.seen.length e1, .slice b2 x.tell.items.length e2, .slice b3 x.tell.gone.length e3]) (by simp [results, Tryz.results20, go_sem, q0, q1, q2, q3, q4]) rfl
    ⟨_, rfl, Hrows.out, ⟨_, _, _, _, rfl, Hmf.out⟩, Hbf.out⟩
theorem got_any (w : World) (F : Blks) (v : Value) (x : SMsg) (h : MsgV F w v x) (hsm : SmallS x) : Calls Tryz.prog 20 #[v] w (SGPost w x) := (got_own w F v x h hsm).mono fun e w' ⟨v, h1, _, h2, h3⟩ => ⟨v, h1, h2, h3⟩
end Go.Proofs.YtkkacnfpdafadaaGreatDoor
