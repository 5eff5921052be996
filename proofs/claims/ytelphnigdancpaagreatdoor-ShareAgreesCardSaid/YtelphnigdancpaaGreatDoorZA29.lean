/-
  SSend
-/
import Derived.Test.YtelphnigdancpaaGreatDoorZA28
namespace Go.Proofs.YtelphnigdancpaaGreatDoor
open Go.RowKit Go.Sort
set_option linter.unusedVariables false
set_option maxRecDepth 20000
attribute [local go_sem] opC upC

theorem since_cases (m : RMap) (s : List Int) : (sinceR m s = (sinceF m s, 0) ∧ validR m = true ∧ Knows s) ∨ sinceR m s = (.empty, 5) := by
  unfold sinceR
  by_cases h : (validR m && knowsR s) = true
  · rw [if_pos h]
    simp only [Bool.and_eq_true] at h
    exact .inl ⟨rfl, h.1, (knows_iff s).1 h.2⟩
  · rw [if_neg h]; exact .inr rfl
set_option maxRecDepth 100000 in
set_option maxHeartbeats 4000000 in
theorem send_any (w : World) (hT : Tabs w) (h3 : 3 ≤ w.heap.size) (F G : Blks) (d : Int) (v : Value) (m : RMap) (h : MapV F w v m) (hki : ∀ x ∈ m.items, x.key.length ≤ 1000000) (hkg : ∀ x ∈ m.gone, x.key.length ≤ 1000000) (sv : Value) (s : List Int) (hs : Rows G w 1 sv s.length (s.map eI)) :
    Calls Tryz.prog 16 #[.int .i64 d, v, sv] w (MPost w (sendR d m s)) := by
  replace h := h.mono (G := fun q => q < w.heap.size) fun q _ hlt => hlt
  replace hs := hs.mono (G := fun q => q < w.heap.size) fun q _ hlt => hlt
  obtain ⟨s1, s2, s3, rfl, h⟩ := h
  obtain ⟨a1, p1, rfl, -⟩ := h.seen.shape
  obtain ⟨a2, p2, rfl, -⟩ := h.items.shape
  obtain ⟨a3, p3, rfl, -⟩ := h.gone.shape
  obtain ⟨wx, hwx⟩ : ∃ wx, wx = w.alloc (.cells #[.slice a1 m.seen.length p1, .slice a2 m.items.length p2, .slice a3 m.gone.length p3] 31) := ⟨_, rfl⟩
  have hbx : Below w.heap.size w wx := by rw [hwx]; exact kept_alloc _ _
  have hzx : wx.heap.size = w.heap.size + 1 := by rw [hwx]; simp
  have hx := h.keep (w' := wx) fun b _ hlt => hbx.block b hlt
  have hnx : Blk wx w.heap.size [.slice a1 m.seen.length p1, .slice a2 m.items.length p2, .slice a3 m.gone.length p3] 31 := by rw [hwx]; exact Blk.new _ _ _
  have Hx := Lib.hid hx
  have Hwx := Lib.hid hwx; have Hbx := Lib.hid hbx; have Hzx := Lib.hid hzx
  have Hnx := Lib.hid hnx
  clear hx hwx hbx hnx hzx h
  obtain ⟨al, cl, rfl, -⟩ := hs.shape
  obtain ⟨w2, hw2⟩ : ∃ w2, w2 = wx.alloc (.cells #[.int .i64 0, .slice none 0 0, .slice none 0 0, .slice none 0 0, .slice none 0 0] 39) := ⟨_, rfl⟩
  have hz2 : w2.heap.size = w.heap.size + 2 := by rw [hw2]; simp [Hzx.out]
  have hb2 : Below w.heap.size w w2 := by rw [hw2]; exact Hbx.out.alloc Hbx.out.size _
  have km : Blk w2 w.heap.size [.slice a1 m.seen.length p1, .slice a2 m.items.length p2, .slice a3 m.gone.length p3] 31 := by rw [hw2]; exact Hnx.out.alloc _
  have k2 : Blk w2 (w.heap.size + 1) [.int .i64 0, .slice none 0 0, .slice none 0 0, .slice none 0 0, .slice none 0 0] 39 := by
    have := Blk.new wx #[.int .i64 0, .slice none 0 0, .slice none 0 0, .slice none 0 0, .slice none 0 0] 39
    rw [← hw2, Hzx.out] at this
    exact this
  have hMx := Hx.out
  have HR := Lib.hid (show ∀ W, Below w2.heap.size w2 W → Below w.heap.size w W ∧ Blk W (w.heap.size + 1) [.int .i64 0, .slice none 0 0, .slice none 0 0, .slice none 0 0, .slice none 0 0] 39 ∧ Rows (fun q => q < w.heap.size) W 1 (.slice al s.length cl) s.length (s.map eI) from fun W hW => by
    have hB : Below w.heap.size w W := hb2.trans (hW.mono (by omega))
    exact ⟨hB, k2.keep (hW.block _ k2.lt), hs.keep (w' := W) fun q hq _ => hB.block q hq⟩)
  have HS := Lib.hid (since_any w2 (tabs_below hT h3 hb2) (Nat.le_trans h3 hb2.size) _ _ (.agg #[.slice a1 m.seen.length p1, .slice a2 m.items.length p2, .slice a3 m.gone.length p3]) m ⟨_, _, _, rfl, hMx.keep (w' := w2) fun q hq _ => (hb2.block q hq).trans (Hbx.out.block q hq).symm⟩ hki hkg (.slice al s.length cl) s (HR.out w2 (Below.refl _ _)).2.2)
  have Hw2 := Lib.hid hw2
  have Hz2 := Lib.hid hz2
  obtain ⟨c0, c1, c2⟩ := cell3 km
  obtain ⟨dk, hdk⟩ : ∃ dk, devOk d = dk := ⟨_, rfl⟩
  have HI := Lib.hid (isDev_any w2 d)
  rw [hdk] at HI
  have Hdk := Lib.hid hdk
  have hk2 := k2
  clear hw2 hz2 hb2 km k2 hT hs hki hkg hdk hMx
  go_enter Tryz.func16, Tryz.ntmps16
  go_wp2_with fail
  rw [← Hwx.out, ← Hw2.out]
  refine HI.out.mono ?_
  rintro e w3 ⟨rfl, rfl⟩
  clear HI
  cases dk with
  | false =>
    have Hu := Lib.hid (show sendR d m s = (.empty, 1) by unfold sendR; rw [Hdk.out]; rfl)
    have hbel := (HR.out w2 (Below.refl _ _)).1
    clear c0 c1 c2
    obtain ⟨wf, hwf, hblk, hbf⟩ := fin5 hk2 hbel (by omega) (.int .i64 0) (.slice none 0 0) (.slice none 0 0) (.slice none 0 0) (.slice none 0 0)
    obtain ⟨y0, y1, y2, y3, y4⟩ := cell5 hk2
    have z0 := hk2.free 0
    have z1 := hk2.free 1
    have z2 := hk2.free 2
    have z3 := hk2.free 3
    have z4 := hk2.free 4
    have Q := Lib.hid (cell5 hblk)
    have Hbf := Lib.hid hbf; have Hwf := Lib.hid hwf
    clear hwf hblk hbf
    go_wp2_with fail
    rw [← Hwf.out]
    obtain ⟨q0, q1, q2, q3, q4⟩ := Q.out
    exact bodyPost_ret (v := .tuple #[nilM, .int .i64 1]) (by simp [results, Tryz.results16, go_sem, q0, q1, q2, q3, q4, nilM]) rfl ⟨⟨_, by rw [Hu.out], by rw [Hu.out]; exact ownM_nil _ _, by rw [Hu.out]; exact bndS_empty⟩, Hbf.out⟩
  | true =>
    have hdd : 0 ≤ d ∧ d < 8 := by have := Hdk.out; unfold devOk at this; simpa using this
    have Hdd := Lib.hid hdd
    rcases since_cases m s with ⟨hsr, hvm, hkn⟩ | hsr
    · have Hu := Lib.hid (show sendR d m s = (⟨d, s, sinceF m s⟩, 0) by unfold sendR; rw [Hdk.out, hsr]; rfl)
      rw [hsr] at HS
      have Hkn := Lib.hid hkn
      clear hsr hvm hkn hdd hk2
      go_wp2_with fail
      refine HS.out.mono ?_
      rintro e w3 ⟨⟨r, rfl, ⟨t1, t2, t3, rfl, ho⟩, hbd⟩, hb3⟩
      obtain ⟨b1, e1, rfl⟩ := own_shape ho.seen
      obtain ⟨b2, e2, rfl⟩ := own_shape ho.items
      obtain ⟨b3, e3, rfl⟩ := own_shape ho.gone
      dsimp only at ho hbd
      obtain ⟨w4, hw4⟩ : ∃ q, q = w3.alloc (.cells #[.slice b1 (sinceF m s).seen.length e1, .slice b2 (sinceF m s).items.length e2, .slice b3 (sinceF m s).gone.length e3] 31) := ⟨_, rfl⟩
      have hk4 : Below w3.heap.size w3 w4 := by rw [hw4]; exact kept_alloc _ _
      have kt : Blk w4 w3.heap.size [.slice b1 (sinceF m s).seen.length e1, .slice b2 (sinceF m s).items.length e2, .slice b3 (sinceF m s).gone.length e3] 31 := by rw [hw4]; exact Blk.new _ _ _
      have ho4 := ho.below hk4
      have hL4 : Below w2.heap.size w2 w4 := hb3.trans (hk4.mono hb3.size)
      have p0 : ∀ W, Later w4.drew W → W.cell? _ = _ := fun W hh => laterC (cell3 kt).1 hh
      have p1' : ∀ W, Later w4.drew W → W.cell? _ = _ := fun W hh => laterC (cell3 kt).2.1 hh
      have p2' : ∀ W, Later w4.drew W → W.cell? _ = _ := fun W hh => laterC (cell3 kt).2.2 hh
      have HC := Lib.hid (cloneI_any w4.drew _ (.slice al s.length cl) s ((HR.out w4 hL4).2.2.keep (w' := w4.drew) fun _ _ _ => rfl) (by have := Hkn.out.len; omega))
      have HL4 := Lib.hid hL4; have Ho4 := Lib.hid ho4; have Hbd := Lib.hid hbd; have Hw4 := Lib.hid hw4
      clear hk4 kt ho4 hL4 hw4 ho hbd hb3 HS c0 c1 c2
      go_wp2_with fail
      rw [← Hw4.out]
      refine wp_region_canL Later 5 [(0, true), (1, true), (3, true), (2, false), (4, true), (5, false), (6, true)] (by kernel_rfl) (by kernel_rfl) (by kernel_rfl) later_refl later_trans ?_
      repeat (refine canL_yes (v := ?_) rfl (wanted_none rfl) (fun w' hC => ?_) (fun K hK => ?_); rotate_left; (focus (go_simp; first | done | exact rfl)); go_simp; refine hK _ ?_; clear hK K)
      refine canL_go rfl rfl (fun KK hK => ?_)
      go_simp
      refine HC.out.mono ?_
      rintro e w5 ⟨r5, rfl, ho5, hb5⟩
      obtain ⟨b5, d5, rfl⟩ := own_shape ho5
      refine ⟨_, rfl, hb5, hK _ _ ?_⟩
      clear hK KK HC
      go_simp
      have hL5 : Below w2.heap.size w2 w5 := HL4.out.drew.trans (hb5.mono HL4.out.size)
      obtain ⟨hbel, kr, -⟩ := HR.out w5 hL5
      have hs2 : w.heap.size ≤ w2.heap.size := by have := Hz2.out; omega
      have hs4 : w2.heap.size ≤ w4.heap.size := HL4.out.size
      have hom : OwnMsg w5 w.heap.size (.slice b5 s.length d5) (.slice b1 (sinceF m s).seen.length e1) (.slice b2 (sinceF m s).items.length e2) (.slice b3 (sinceF m s).gone.length e3) ⟨d, s, sinceF m s⟩ := ⟨own_base ho5 (Nat.le_trans hs2 hs4), (Ho4.out.below ((Below.refl w4.heap.size w4).drew.trans hb5)).mono hs2⟩
      obtain ⟨wf, hwf, hblk, hbf⟩ := fin5 kr hbel (by omega) (.int .i64 d) (.slice b5 s.length d5) (.slice b1 (sinceF m s).seen.length e1) (.slice b2 (sinceF m s).items.length e2) (.slice b3 (sinceF m s).gone.length e3)
      obtain ⟨y0, y1, y2, y3, y4⟩ := cell5 kr
      have z0 := kr.free 0
      have z1 := kr.free 1
      have z2 := kr.free 2
      have z3 := kr.free 3
      have z4 := kr.free 4
      have Q := Lib.hid (cell5 hblk)
      have Hof := Lib.hid (hom.fin kr (by decide) (by decide) (by decide) hwf)
      have Hbf := Lib.hid hbf; have Hwf := Lib.hid hwf
      clear hwf hblk hbf kr hbel hom hb5 hL5 ho5 hs2 hs4
      repeat (refine canL_yes (v := ?_) rfl (wanted_none rfl) (fun w' hC => ?_) (fun K hK => ?_); rotate_left; (focus (go_simp; first | done | exact rfl)); go_simp; refine hK _ ?_; clear hK K)
      clear p0 p1' p2'
      refine canL_last rfl rfl rfl (fun KK hK => ?_)
      go_simp
      rw [← Hwf.out]
      refine hK _ _ ?_
      clear hK KK y0 y1 y2 y3 y4 z0 z1 z2 z3 z4
      go_simp
      repeat (refine canL_yes (v := ?_) rfl (wanted_none rfl) (fun w' hC => ?_) (fun K hK => ?_); rotate_left; (focus (go_simp; first | done | exact rfl)); go_simp; refine hK _ ?_; clear hK K)
      refine canL_nil ?_
      go_wp2_with fail
      obtain ⟨q0, q1, q2, q3, q4⟩ := Q.out
      exact bodyPost_ret (v := .tuple #[.agg #[.int .i64 d, .slice b5 s.length d5, .slice b1 (sinceF m s).seen.length e1, .slice b2 (sinceF m s).items.length e2, .slice b3 (sinceF m s).gone.length e3], .int .i64 0]) (by simp [results, Tryz.results16, go_sem, q0, q1, q2, q3, q4]) rfl
        ⟨⟨_, by rw [Hu.out], by rw [Hu.out]; exact ⟨_, _, _, _, rfl, Hof.out⟩, by rw [Hu.out]; exact ⟨by have := Hdd.out; unfold i64ok; dsimp only; omega, fun n hn => by have := Hkn.out.num n hn; unfold i64ok; omega, Hbd.out⟩⟩, Hbf.out⟩
    · have Hu := Lib.hid (show sendR d m s = (.empty, 5) by unfold sendR; rw [Hdk.out, hsr]; rfl)
      rw [hsr] at HS
      clear hsr hdd hk2
      go_wp2_with fail
      refine HS.out.mono ?_
      rintro e w3 ⟨⟨r, rfl, ⟨t1, t2, t3, rfl, ho⟩, hbd⟩, hb3⟩
      obtain ⟨w4, hw4⟩ : ∃ q, q = w3.alloc (.cells #[t1, t2, t3] 31) := ⟨_, rfl⟩
      obtain ⟨b1, e1, rfl⟩ := own_shape ho.seen
      obtain ⟨b2, e2, rfl⟩ := own_shape ho.items
      obtain ⟨b3, e3, rfl⟩ := own_shape ho.gone
      have hL4 : Below w2.heap.size w2 w4 := by rw [hw4]; exact hb3.alloc hb3.size _
      obtain ⟨hbel, kr, -⟩ := HR.out w4 hL4
      have Hw4 := Lib.hid hw4
      obtain ⟨wf, hwf, hblk, hbf⟩ := fin5 kr hbel (by omega) (.int .i64 0) (.slice none 0 0) (.slice none 0 0) (.slice none 0 0) (.slice none 0 0)
      obtain ⟨y0, y1, y2, y3, y4⟩ := cell5 kr
      have z0 := kr.free 0
      have z1 := kr.free 1
      have z2 := kr.free 2
      have z3 := kr.free 3
      have z4 := kr.free 4
      have Q := Lib.hid (cell5 hblk)
      rw [hw4] at hwf y0 y1 y2 y3 y4 z0 z1 z2 z3 z4
      have Hbf := Lib.hid hbf; have Hwf := Lib.hid hwf
      clear hwf hblk hbf hL4 ho hbd hb3 HS c0 c1 c2 kr hbel hw4
      go_wp2_with fail
      rw [← Hwf.out]
      obtain ⟨q0, q1, q2, q3, q4⟩ := Q.out
      exact bodyPost_ret (v := .tuple #[nilM, .int .i64 5]) (by simp [results, Tryz.results16, go_sem, q0, q1, q2, q3, q4, nilM]) rfl ⟨⟨_, by rw [Hu.out], by rw [Hu.out]; exact ownM_nil _ _, by rw [Hu.out]; exact bndS_empty⟩, Hbf.out⟩
end Go.Proofs.YtelphnigdancpaaGreatDoor
