/-
  SRef2
-/
import Derived.Test.YtkkacnfpdafadaaGreatDoorP39
namespace Go.Proofs.YtkkacnfpdafadaaGreatDoor
open Go.RowKit
set_option linter.unusedVariables false
set_option maxRecDepth 20000
attribute [local go_sem ↓] seal_append
attribute [local go_sem] opC upC

def RMPost (w : World) (mr : SMsg × Int) (e : Ending) (w' : World) : Prop := ∃ r, e = .returned (.tuple #[r, .int .i64 mr.2]) ∧ MsgV (fun b => w.heap.size ≤ b) w' r mr.1 ∧ Below w.heap.size w w'
theorem msgV_empty (F : Blks) (w : World) : MsgV F w nilM .empty := ⟨_, _, _, _, rfl, Rows.nil _ _ _, ⟨Rows.nil _ _ _, Rows.nil _ _ _, Rows.nil _ _ _, nofun, nofun, nofun⟩, ⟨by decide, by decide⟩, nofun⟩
theorem since_casesR (m : RMap) (s : List Int) : (sinceR m s = (sinceF m s, 0) ∧ validR m = true ∧ Knows s) ∨ sinceR m s = (.empty, 5) := by
  unfold sinceR
  by_cases h : (validR m && knowsR s) = true
  · rw [if_pos h]
    simp only [Bool.and_eq_true] at h
    exact .inl ⟨rfl, h.1, (knows_iff s).1 h.2⟩
  · rw [if_neg h]; exact .inr rfl
set_option maxRecDepth 100000 in
set_option maxHeartbeats 4000000 in
theorem rsend_any (w : World) (F G : Blks) (d : Int) (v : Value) (m : RMap) (h : MapV F w v m) (hki : ∀ x ∈ m.items, x.key.length ≤ 1000000000) (hkg : ∀ x ∈ m.gone, x.key.length ≤ 1000000000) (sv : Value) (s : List Int) (hs : Rows G w 1 sv s.length (s.map eI)) :
    Calls Tryz.prog 17 #[.int .i64 d, v, sv] w (RMPost w (sendR d m s)) := by
  replace h := h.mono (G := fun q => q < w.heap.size) fun q _ hlt => hlt
  replace hs := hs.mono (G := fun q => q < w.heap.size) fun q _ hlt => hlt
  obtain ⟨s1, s2, s3, rfl, h⟩ := h
  obtain ⟨a1, p1, rfl, -⟩ := h.seen.shape
  obtain ⟨a2, p2, rfl, -⟩ := h.items.shape
  obtain ⟨a3, p3, rfl, -⟩ := h.gone.shape
  obtain ⟨wx, hwx⟩ : ∃ wx, wx = w.alloc (.cells #[.slice a1 m.seen.length p1, .slice a2 m.items.length p2, .slice a3 m.gone.length p3] 26) := ⟨_, rfl⟩
  have hbx : Below w.heap.size w wx := by rw [hwx]; exact kept_alloc _ _
  have hzx : wx.heap.size = w.heap.size + 1 := by rw [hwx]; simp
  have hx := h.keep (w' := wx) fun b _ hlt => hbx.block b hlt
  have hnx : Blk wx w.heap.size [.slice a1 m.seen.length p1, .slice a2 m.items.length p2, .slice a3 m.gone.length p3] 26 := by rw [hwx]; exact Blk.new _ _ _
  have Hx := Lib.hid hx
  have Hwx := Lib.hid hwx; have Hbx := Lib.hid hbx; have Hzx := Lib.hid hzx
  have Hnx := Lib.hid hnx
  clear hx hwx hbx hnx hzx h
  obtain ⟨al, cl, rfl, -⟩ := hs.shape
  obtain ⟨w2, hw2⟩ : ∃ w2, w2 = wx.alloc (.cells #[.int .i64 0, .slice none 0 0, .slice none 0 0, .slice none 0 0, .slice none 0 0] 43) := ⟨_, rfl⟩
  have hz2 : w2.heap.size = w.heap.size + 2 := by rw [hw2]; simp [Hzx.out]
  have hb2 : Below w.heap.size w w2 := by rw [hw2]; exact Hbx.out.alloc Hbx.out.size _
  have km : Blk w2 w.heap.size [.slice a1 m.seen.length p1, .slice a2 m.items.length p2, .slice a3 m.gone.length p3] 26 := by rw [hw2]; exact Hnx.out.alloc _
  have k2 : Blk w2 (w.heap.size + 1) [.int .i64 0, .slice none 0 0, .slice none 0 0, .slice none 0 0, .slice none 0 0] 43 := by
    have := Blk.new wx #[.int .i64 0, .slice none 0 0, .slice none 0 0, .slice none 0 0, .slice none 0 0] 43
    rw [← hw2, Hzx.out] at this
    exact this
  have hMx := Hx.out
  have HR := Lib.hid (show ∀ W, Below w2.heap.size w2 W → Below w.heap.size w W ∧ Blk W (w.heap.size + 1) [.int .i64 0, .slice none 0 0, .slice none 0 0, .slice none 0 0, .slice none 0 0] 43 ∧ Rows (fun q => q < w.heap.size) W 1 (.slice al s.length cl) s.length (s.map eI) from fun W hW => by
    have hB : Below w.heap.size w W := hb2.trans (hW.mono (by omega))
    exact ⟨hB, k2.keep (hW.block _ k2.lt), hs.keep (w' := W) fun q hq _ => hB.block q hq⟩)
  have HS := Lib.hid (rsince_any w2 _ _ (.agg #[.slice a1 m.seen.length p1, .slice a2 m.items.length p2, .slice a3 m.gone.length p3]) m ⟨_, _, _, rfl, hMx.keep (w' := w2) fun q hq _ => (hb2.block q hq).trans (Hbx.out.block q hq).symm⟩ hki hkg (.slice al s.length cl) s (HR.out w2 (Below.refl _ _)).2.2)
  have Hw2 := Lib.hid hw2
  have Hz2 := Lib.hid hz2
  have Hbn := Lib.hid hMx.bnd
  obtain ⟨c0, c1, c2⟩ := cell3 km
  have hk2 := k2
  clear hw2 hz2 hb2 km k2 hs hki hkg hMx
  go_enter Tryz.func17, Tryz.ntmps17
  by_cases hd0 : d < 0
  · have Hu := Lib.hid (show sendR d m s = (.empty, 1) by unfold sendR; rw [show devOk d = false by unfold devOk; simp; omega]; rfl)
    have d0 : decide (d < 0) = true := by simpa using hd0
    have hbel := (HR.out w2 (Below.refl _ _)).1
    clear c0 c1 c2
    have Q := Lib.hid (cell5 hk2)
    have Hbf := Lib.hid hbel
    clear hk2 hbel
    go_wp2_with fail
    rw [← Hwx.out, ← Hw2.out]
    obtain ⟨q0, q1, q2, q3, q4⟩ := Q.out
    exact bodyPost_ret (v := .tuple #[nilM, .int .i64 1]) (by simp [results, Tryz.results17, go_sem, q0, q1, q2, q3, q4, nilM]) rfl ⟨_, by rw [Hu.out], by rw [Hu.out]; exact msgV_empty _ _, Hbf.out⟩
  have d0 : decide (d < 0) = false := by simpa using hd0
  by_cases hd8 : d ≥ 8
  · have Hu := Lib.hid (show sendR d m s = (.empty, 1) by unfold sendR; rw [show devOk d = false by unfold devOk; simp; omega]; rfl)
    have d1 : decide (d ≥ 8) = true := by simpa using hd8
    have hd8' : (8 : Int) ≤ d := hd8
    have hbel := (HR.out w2 (Below.refl _ _)).1
    clear c0 c1 c2
    have Q := Lib.hid (cell5 hk2)
    have Hbf := Lib.hid hbel
    clear hk2 hbel
    go_wp2_with fail
    rw [← Hwx.out, ← Hw2.out]
    obtain ⟨q0, q1, q2, q3, q4⟩ := Q.out
    exact bodyPost_ret (v := .tuple #[nilM, .int .i64 1]) (by simp [results, Tryz.results17, go_sem, q0, q1, q2, q3, q4, nilM]) rfl ⟨_, by rw [Hu.out], by rw [Hu.out]; exact msgV_empty _ _, Hbf.out⟩
  have d1 : decide (d ≥ 8) = false := by simpa using hd8
  have hd8' : ¬ (8 : Int) ≤ d := hd8
  have Hdd := Lib.hid (show 0 ≤ d ∧ d < 8 by omega)
  rcases since_casesR m s with ⟨hsr, hvm, hkn⟩ | hsr
  · have Hu := Lib.hid (show sendR d m s = (⟨d, s, sinceF m s⟩, 0) by unfold sendR; rw [show devOk d = true by unfold devOk; simp; omega, hsr]; rfl)
    rw [hsr] at HS
    have Hkn := Lib.hid hkn
    clear hsr hvm hkn hk2
    go_wp2_with fail
    rw [← Hwx.out, ← Hw2.out]
    refine HS.out.mono ?_
    rintro e w3 ⟨r, rfl, hmv, hb3⟩
    obtain ⟨t1, t2, t3, rfl, hmi⟩ := hmv
    dsimp only at hmi ⊢
    obtain ⟨b1, e1, rfl, -⟩ := hmi.seen.shape
    obtain ⟨b2, e2, rfl, -⟩ := hmi.items.shape
    obtain ⟨b3, e3, rfl, -⟩ := hmi.gone.shape
    obtain ⟨w4, hw4⟩ : ∃ q, q = w3.alloc (.cells #[.slice b1 (sinceF m s).seen.length e1, .slice b2 (sinceF m s).items.length e2, .slice b3 (sinceF m s).gone.length e3] 26) := ⟨_, rfl⟩
    have hk4 : Below w3.heap.size w3 w4 := by rw [hw4]; exact kept_alloc _ _
    have kt : Blk w4 w3.heap.size [.slice b1 (sinceF m s).seen.length e1, .slice b2 (sinceF m s).items.length e2, .slice b3 (sinceF m s).gone.length e3] 26 := by rw [hw4]; exact Blk.new _ _ _
    have hm4 := (hmi.keep (w' := w4) fun q _ hlt => hk4.block q hlt).mono (G := fun q => w2.heap.size ≤ q ∧ q < w4.heap.size) fun q hq hlt => ⟨hq, hlt⟩
    have hL4 : Below w2.heap.size w2 w4 := hb3.trans (hk4.mono hb3.size)
    have hltk := kt.lt
    have p0 : ∀ W, Below w4.heap.size w4.drew W → W.cell? _ = _ := fun W hh => (hh.cell (p := ⟨w3.heap.size, 0, none⟩) hltk).trans (cell3 kt).1
    have p1' : ∀ W, Below w4.heap.size w4.drew W → W.cell? _ = _ := fun W hh => (hh.cell (p := ⟨w3.heap.size, 1, none⟩) hltk).trans (cell3 kt).2.1
    have p2' : ∀ W, Below w4.heap.size w4.drew W → W.cell? _ = _ := fun W hh => (hh.cell (p := ⟨w3.heap.size, 2, none⟩) hltk).trans (cell3 kt).2.2
    obtain ⟨wd, hwd⟩ : ∃ wd, wd = w4.drew := ⟨_, rfl⟩
    have hzd : wd.heap.size = w4.heap.size := by rw [hwd]; rfl
    have hLd : Below w2.heap.size w2 wd := by rw [hwd]; exact hL4.drew
    have h4d : Below w4.heap.size w4 wd := by rw [hwd]; exact (Below.refl _ _).drew
    obtain ⟨i0, t1', t2', t3', t4'⟩ := info_parts infoI
    obtain ⟨v', w6, hr6, hown6, hg6⟩ := run_append_rows (P := Tryz.prog) (wd.alloc (.cells #[] 3)) wd.heap.size 22 3 Tryz.underlying22 t1' t2' t3' t4' rfl (by decide) (.slice (some ⟨wd.heap.size, 0, none⟩) 0 0) 0 []
      ⟨rfl, .inr ⟨wd.heap.size, 0, #[], rfl, Nat.le_refl _, by unfold World.alloc; simp, Nat.le_refl _, by unfold maxLen; omega, rfl, rfl⟩⟩ _ _ s.length (s.map eI) ((HR.out wd hLd).2.2.keep (w' := wd.alloc (.cells #[] 3)) fun b _ hlt => Below.heap_alloc _ _ _ hlt) (one_eI s) (by have := Hkn.out.len; unfold maxLen; omega) (by have := Hkn.out.len; omega) (by simp)
    rw [Nat.zero_add, List.nil_append] at hown6
    obtain ⟨b6, e6, rfl⟩ := own_shape hown6
    obtain ⟨w5, hw5⟩ : ∃ w5, w5 = wd.alloc (.cells #[] 3) := ⟨_, rfl⟩
    rw [← hw5] at hr6 hg6
    have k1 : Below w4.heap.size wd w5 := by rw [hw5, ← hzd]; exact kept_alloc _ _
    have hz5 : w5.heap.size = wd.heap.size + 1 := by rw [hw5]; simp
    have k2 : Below w4.heap.size w5 w6 := (Below.refl w4.heap.size w5).grown hg6 (by omega) (fun q hq => by simp [Value.ownBlock] at hq; omega)
    rw [hzd] at hr6
    have hL6 : Below w2.heap.size w2 w6 := hLd.trans ((k1.trans k2).mono hL4.size)
    obtain ⟨hbel, kr, -⟩ := HR.out w6 hL6
    have hm6 := hm4.keep (w' := w6) fun q hq _ => ((k1.trans k2).block q hq.2).trans (h4d.block q hq.2)
    have hmsg : MsgIn (fun b => w.heap.size ≤ b ∧ b ≠ w.heap.size + 1) w6 (.slice b6 s.length e6) (.slice b1 (sinceF m s).seen.length e1) (.slice b2 (sinceF m s).items.length e2) (.slice b3 (sinceF m s).gone.length e3) ⟨d, s, sinceF m s⟩ := by
      have hz2 := Hz2.out
      have hs4 := hL4.size
      exact ⟨(Rows.of_owns hown6).mono fun b hb _ => by have := hb.1; constructor <;> omega, hm6.mono fun b hb _ => by have := hb.1; constructor <;> omega, by have := Hdd.out; unfold i64ok; dsimp only; omega, fun n hn => by have := Hkn.out.num n hn; unfold i64ok; omega⟩
    obtain ⟨wf, hwf, hblk, hbf⟩ := fin5 kr hbel (by omega) (.int .i64 d) (.slice b6 s.length e6) (.slice b1 (sinceF m s).seen.length e1) (.slice b2 (sinceF m s).items.length e2) (.slice b3 (sinceF m s).gone.length e3)
    have hmf : MsgIn (fun b => w.heap.size ≤ b) wf (.slice b6 s.length e6) (.slice b1 (sinceF m s).seen.length e1) (.slice b2 (sinceF m s).items.length e2) (.slice b3 (sinceF m s).gone.length e3) ⟨d, s, sinceF m s⟩ := by
      rw [hwf]
      exact (hmsg.keep fun q hq _ => by
        have h := hq.2
        exact (Below.heap_setCell _ _ _ _ h).trans ((Below.heap_setCell _ _ _ _ h).trans ((Below.heap_setCell _ _ _ _ h).trans ((Below.heap_setCell _ _ _ _ h).trans (Below.heap_setCell _ _ _ _ h))))).mono fun q hq _ => hq.1
    obtain ⟨y0, y1, y2, y3, y4⟩ := cell5 kr
    have z0 := kr.free 0
    have z1 := kr.free 1
    have z2 := kr.free 2
    have z3 := kr.free 3
    have z4 := kr.free 4
    have Q := Lib.hid (cell5 hblk)
    have Hbf := Lib.hid hbf; have Hwf := Lib.hid hwf; have Hmf := Lib.hid hmf; have Hw4 := Lib.hid hw4; have Hw5 := Lib.hid (show w5 = w4.drew.alloc (.cells #[] 3) by rw [hw5, hwd]); have Hwd := Lib.hid hwd
    clear hwf hblk hbf hmf hmsg hm6 hm4 hmi hL4 hL6 hLd h4d hk4 kt hw4 hw5 hwd hzd hz5 hown6 hg6 t1' t2' t3' t4' kr hbel hb3 HS c0 c1 c2 hltk
    go_wp2_with fail
    rw [← Hw4.out]
    refine wp_region_canL (Below w4.heap.size) 6 [(0, true), (2, true), (4, true), (1, false), (3, false), (5, true), (6, false), (7, true)] (by kernel_rfl) (by kernel_rfl) (by kernel_rfl) (Below.refl _) (fun a b c h k => h.trans k) ?_
    repeat (refine canL_yes (v := ?_) rfl (wanted_none rfl) (fun w' hC => ?_) (fun K hK => ?_); rotate_left; (focus (go_simp; first | done | exact rfl)); go_simp; refine hK _ ?_; clear hK K)
    refine canL_go rfl rfl (fun KK hK => ?_)
    go_simp
    rw [show (w4.alloc (.cells #[] 3)).drew = w5 from Hw5.out.symm]
    first | refine ⟨by rw [← Hwd.out]; exact k1, hK _ _ ?_⟩ | refine hK _ _ ?_
    clear hK KK
    go_simp
    repeat (refine canL_yes (v := ?_) rfl (wanted_none rfl) (fun w' hC => ?_) (fun K hK => ?_); rotate_left; (focus (go_simp; first | done | exact rfl)); go_simp; refine hK _ ?_; clear hK K)
    refine canL_go rfl rfl (fun KK hK => ?_)
    go_simp
    first | refine ⟨k2, hK _ _ ?_⟩ | refine hK _ _ ?_
    clear hK KK p0 p1' p2' k1 k2 hr6
    go_simp
    repeat (refine canL_yes (v := ?_) rfl (wanted_none rfl) (fun w' hC => ?_) (fun K hK => ?_); rotate_left; (focus (go_simp; first | done | exact rfl)); go_simp; refine hK _ ?_; clear hK K)
    refine canL_last rfl rfl rfl (fun KK hK => ?_)
    go_simp
    rw [← Hwf.out]
    refine hK _ _ ?_
    clear hK KK y0 y1 y2 y3 y4 z0 z1 z2 z3 z4
    go_simp
    repeat (refine canL_yes (v := ?_) rfl (wanted_none rfl) (fun w' hC => ?_) (fun K hK => ?_); rotate_left; (focus (go_simp; first | done | exact rfl)); go_simp; refine hK _ ?_; clear hK K)
    refine canL_nil ?_
    go_wp2_with fail
    obtain ⟨q0, q1, q2, q3, q4⟩ := Q.out
    exact bodyPost_ret (v := .tuple #[.agg #[.int .i64 d, .slice b6 s.length e6, .slice b1 (sinceF m s).seen.length e1, .slice b2 (sinceF m s).items.length e2, .slice b3 (sinceF m s).gone.length e3], .int .i64 0]) (by simp [results, Tryz.results17, go_sem, q0, q1, q2, q3, q4]) rfl
      ⟨_, by rw [Hu.out], by rw [Hu.out]; exact ⟨_, _, _, _, rfl, Hmf.out⟩, Hbf.out⟩
  · have Hu := Lib.hid (show sendR d m s = (.empty, 5) by unfold sendR; rw [show devOk d = true by unfold devOk; simp; omega, hsr]; rfl)
    rw [hsr] at HS
    clear hsr hk2
    go_wp2_with fail
    rw [← Hwx.out, ← Hw2.out]
    refine HS.out.mono ?_
    rintro e w3 ⟨r, rfl, hmv, hb3⟩
    obtain ⟨t1, t2, t3, rfl, hmi⟩ := hmv
    dsimp only at hmi ⊢
    obtain ⟨b1, e1, rfl, -⟩ := hmi.seen.shape
    obtain ⟨b2, e2, rfl, -⟩ := hmi.items.shape
    obtain ⟨b3, e3, rfl, -⟩ := hmi.gone.shape
    obtain ⟨w4, hw4⟩ : ∃ q, q = w3.alloc (.cells #[.slice b1 RMap.empty.seen.length e1, .slice b2 RMap.empty.items.length e2, .slice b3 RMap.empty.gone.length e3] 26) := ⟨_, rfl⟩
    have hL4 : Below w2.heap.size w2 w4 := by rw [hw4]; exact hb3.alloc hb3.size _
    obtain ⟨hbel, kr, -⟩ := HR.out w4 hL4
    have Hw4 := Lib.hid hw4
    clear hmi hb3 HS c0 c1 c2 hL4
    obtain ⟨wf, hwf, hblk, hbf⟩ := fin5 kr hbel (by omega) (.int .i64 0) (.slice none 0 0) (.slice none 0 0) (.slice none 0 0) (.slice none 0 0)
    obtain ⟨y0, y1, y2, y3, y4⟩ := cell5 kr
    have z0 := kr.free 0
    have z1 := kr.free 1
    have z2 := kr.free 2
    have z3 := kr.free 3
    have z4 := kr.free 4
    have Q := Lib.hid (cell5 hblk)
    rw [hw4] at hwf y0 y1 y2 y3 y4 z0 z1 z2 z3 z4; clear hw4
    have Hbf := Lib.hid hbf; have Hwf := Lib.hid hwf
    clear hwf hblk hbf
    go_wp2_with fail
    rw [← Hwf.out]
    obtain ⟨q0, q1, q2, q3, q4⟩ := Q.out
    exact bodyPost_ret (v := .tuple #[nilM, .int .i64 5]) (by simp [results, Tryz.results17, go_sem, q0, q1, q2, q3, q4, nilM]) rfl ⟨_, by rw [Hu.out], by rw [Hu.out]; exact msgV_empty _ _, Hbf.out⟩
end Go.Proofs.YtkkacnfpdafadaaGreatDoor
