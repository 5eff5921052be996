/-
  RHas SHas SSend
-/
import Derived.Test.YtkkacnfpdafadaaGreatDoorR24
import Derived.Test.YtkkacnfpdafadaaGreatDoorR30
import Derived.Test.YtkkacnfpdafadaaGreatDoorR32
namespace Go.Proofs.YtkkacnfpdafadaaGreatDoor
open Go.RowKit Go.Lib
set_option linter.unusedVariables false
set_option maxRecDepth 20000

/-! maps of the program in variables -/
def MB (W : World) (O : Nat) (m : RMap) : Prop := ∃ s1 e1 s2 e2 s3 e3, Blk W O [.slice s1 m.seen.length e1, .slice s2 m.items.length e2, .slice s3 m.gone.length e3] 31 ∧ MapIn (fun q => q < W.heap.size) W (.slice s1 m.seen.length e1) (.slice s2 m.items.length e2) (.slice s3 m.gone.length e3) m
theorem MB.keep {W W' : World} {O : Nat} {m : RMap} (h : MB W O m) (hb : Below W.heap.size W W') : MB W' O m := by
  obtain ⟨s1, e1, s2, e2, s3, e3, h1, h2⟩ := h
  exact ⟨s1, e1, s2, e2, s3, e3, h1.keep (hb.block _ h1.lt), (h2.keep (w' := W') fun q hq _ => hb.block q hq).mono fun q hq _ => Nat.lt_of_lt_of_le hq hb.size⟩
def Has (L : List (Nat × RMap)) (W : World) : Prop := ∀ p ∈ L, MB W p.1 p.2
theorem Has.keep {L : List (Nat × RMap)} {W W' : World} (h : Has L W) (hb : Below W.heap.size W W') : Has L W' := fun p hp => (h p hp).keep hb
theorem Has.cons {L : List (Nat × RMap)} {W : World} (h : Has L W) {O : Nat} {m : RMap} (hm : MB W O m) : Has ((O, m) :: L) W := fun p hp => by
  rcases List.mem_cons.1 hp with rfl | hp
  · exact hm
  · exact h p hp
theorem Has.get {L : List (Nat × RMap)} {W : World} (h : Has L W) (O : Nat) (m : RMap) (hp : (O, m) ∈ L) : MB W O m := h _ hp
theorem Has.nil (W : World) : Has [] W := nofun

end Go.Proofs.YtkkacnfpdafadaaGreatDoor

namespace Go.Proofs.YtkkacnfpdafadaaGreatDoor
open Go.RowKit Go.Lib
set_option linter.unusedVariables false
set_option maxRecDepth 20000

def MBS (W : World) (O : Nat) (x : SMsg) : Prop := ∃ s0 e0 s1 e1 s2 e2 s3 e3, Blk W O [.int .i64 x.frm, .slice s0 x.seen.length e0, .slice s1 x.tell.seen.length e1, .slice s2 x.tell.items.length e2, .slice s3 x.tell.gone.length e3] 39 ∧
  MsgIn (fun q => q < W.heap.size) W (.slice s0 x.seen.length e0) (.slice s1 x.tell.seen.length e1) (.slice s2 x.tell.items.length e2) (.slice s3 x.tell.gone.length e3) x
theorem MBS.keep {W W' : World} {O : Nat} {x : SMsg} (h : MBS W O x) (hb : Below W.heap.size W W') : MBS W' O x := by
  obtain ⟨s0, e0, s1, e1, s2, e2, s3, e3, h1, h2⟩ := h
  exact ⟨s0, e0, s1, e1, s2, e2, s3, e3, h1.keep (hb.block _ h1.lt), (h2.keep (w' := W') fun q hq _ => hb.block q hq).mono fun q hq _ => Nat.lt_of_lt_of_le hq hb.size⟩
def HasS (L : List (Nat × SMsg)) (W : World) : Prop := ∀ p ∈ L, MBS W p.1 p.2
theorem HasS.keep {L : List (Nat × SMsg)} {W W' : World} (h : HasS L W) (hb : Below W.heap.size W W') : HasS L W' := fun p hp => (h p hp).keep hb
theorem HasS.cons {L : List (Nat × SMsg)} {W : World} (h : HasS L W) {O : Nat} {m : SMsg} (hm : MBS W O m) : HasS ((O, m) :: L) W := fun p hp => by
  rcases List.mem_cons.1 hp with rfl | hp
  · exact hm
  · exact h p hp
theorem HasS.get {L : List (Nat × SMsg)} {W : World} (h : HasS L W) (O : Nat) (m : SMsg) (hp : (O, m) ∈ L) : MBS W O m := h _ hp
theorem HasS.nil (W : World) : HasS [] W := nofun
def NonePost (w : World) (e : Ending) (w' : World) : Prop := ∃ v, e = .returned v ∧ v = .slice (some ⟨w.heap.size, 0, none⟩) 8 8 ∧ Blk w' w.heap.size ((List.replicate 8 (0 : Int)).map eI) 3 ∧ Below w.heap.size w w'
section
attribute [local go_sem ↓] seal_make
set_option maxHeartbeats 1000000 in
theorem none_any (w : World) : Calls Tryz.prog 36 #[] w (NonePost w) := by
  obtain ⟨i0, q1, q2, q3, q4⟩ := info_parts infoI
  obtain ⟨w2, hr, hown, hgb⟩ := run_make_full (P := Tryz.prog) w w.heap.size 22 3 i0 _ 1 Tryz.underlying22 q1 q2 q3 .i64 .i64 8 (by rw [q4]; omega) (by unfold maxLen; omega) (by omega)
  have hr' : (MK 22 (.int .i64 8) (.int .i64 8)).run Tryz.prog w = .ok (.slice (some ⟨w.heap.size, 0, none⟩) 8 8) w2 := hr
  rw [made8] at hown
  have hS : Blk w2 w.heap.size ((List.replicate 8 (0 : Int)).map eI) 3 := by
    rcases hown.2 with ⟨h0, -⟩ | ⟨g, cap, cur, hv, hb, hg, hc, hm, hs, ht⟩
    · simp at h0
    · simp at hv
      obtain ⟨rfl, rfl⟩ := hv
      unfold Blk
      rw [hg]
      have hl : cur.toList.length = 8 := by simpa using hs
      rw [List.take_of_length_le (by omega)] at ht
      have : cur = ((List.replicate 8 (0 : Int)).map eI).toArray := by
        apply Array.toList_inj.1
        rw [ht]
      rw [this]
  have hb2 : Below w.heap.size w w2 := (Below.refl w.heap.size w).grown hgb (by omega) (by simp)
  have HS := Lib.hid hS; have Hb2 := Lib.hid hb2
  clear hr hown hgb hS hb2 q1 q2 q3 q4
  go_enter Tryz.func36, Tryz.ntmps36
  go_wp2_with fail
  go_ret
  exact ⟨_, rfl, rfl, HS.out, Hb2.out⟩
end
end Go.Proofs.YtkkacnfpdafadaaGreatDoor

namespace Go.Proofs.YtkkacnfpdafadaaGreatDoor
open Go.RowKit Go.Sort
set_option linter.unusedVariables false
set_option maxRecDepth 20000
attribute [local go_sem] opC upC

theorem since_cases (m : RMap) (s : List Int) : (sinceR m s = (sinceF m s, 0) ∧ validR m = true ∧ Knows s) ∨ sinceR m s = (.empty, 5) := by
  unfold sinceR
  by_cases h : (validR m && knowsR s) = true
  · rw [if_pos h]
    simp only [Bool.and_eq_true] at h
    exact .inl ⟨rfl, h.1, (knows_iff s).1 h.2⟩
  · rw [if_neg h]; exact .inr rfl
set_option maxRecDepth 100000 in
set_option maxHeartbeats 4000000 in
theorem send_any (w : World) (hT : Tabs w) (h3 : 3 ≤ w.heap.size) (F G : Blks) (d : Int) (v : Value) (m : RMap) (h : MapV F w v m) (hki : ∀ x ∈ m.items, x.key.length ≤ 1000000) (hkg : ∀ x ∈ m.gone, x.key.length ≤ 1000000) (sv : Value) (s : List Int) (hs : Rows G w 1 sv s.length (s.map eI)) :
    Calls Tryz.prog 16 #[.int .i64 d, v, sv] w (MPost w (sendR d m s)) := by
  replace h := h.mono (G := fun q => q < w.heap.size) fun q _ hlt => hlt
  replace hs := hs.mono (G := fun q => q < w.heap.size) fun q _ hlt => hlt
  obtain ⟨s1, s2, s3, rfl, h⟩ := h
  obtain ⟨a1, p1, rfl, -⟩ := h.seen.shape
  obtain ⟨a2, p2, rfl, -⟩ := h.items.shape
  obtain ⟨a3, p3, rfl, -⟩ := h.gone.shape
  obtain ⟨wx, hwx⟩ : ∃ wx, wx = w.alloc (.cells #[.slice a1 m.seen.length p1, .slice a2 m.items.length p2, .slice a3 m.gone.length p3] 31) := ⟨_, rfl⟩
  have hbx : Below w.heap.size w wx := by rw [hwx]; exact kept_alloc _ _
  have hzx : wx.heap.size = w.heap.size + 1 := by rw [hwx]; simp
  have hx := h.keep (w' := wx) fun b _ hlt => hbx.block b hlt
  have hnx : Blk wx w.heap.size [.slice a1 m.seen.length p1, .slice a2 m.items.length p2, .slice a3 m.gone.length p3] 31 := by rw [hwx]; exact Blk.new _ _ _
  have Hx := Lib.hid hx
  have Hwx := Lib.hid hwx; have Hbx := Lib.hid hbx; have Hzx := Lib.hid hzx
  have Hnx := Lib.hid hnx
  clear hx hwx hbx hnx hzx h
  obtain ⟨al, cl, rfl, -⟩ := hs.shape
  obtain ⟨w2, hw2⟩ : ∃ w2, w2 = wx.alloc (.cells #[.int .i64 0, .slice none 0 0, .slice none 0 0, .slice none 0 0, .slice none 0 0] 39) := ⟨_, rfl⟩
  have hz2 : w2.heap.size = w.heap.size + 2 := by rw [hw2]; simp [Hzx.out]
  have hb2 : Below w.heap.size w w2 := by rw [hw2]; exact Hbx.out.alloc Hbx.out.size _
  have km : Blk w2 w.heap.size [.slice a1 m.seen.length p1, .slice a2 m.items.length p2, .slice a3 m.gone.length p3] 31 := by rw [hw2]; exact Hnx.out.alloc _
  have k2 : Blk w2 (w.heap.size + 1) [.int .i64 0, .slice none 0 0, .slice none 0 0, .slice none 0 0, .slice none 0 0] 39 := by
    have := Blk.new wx #[.int .i64 0, .slice none 0 0, .slice none 0 0, .slice none 0 0, .slice none 0 0] 39
    rw [← hw2, Hzx.out] at this
    exact this
  have hMx := Hx.out
  have HR := Lib.hid (show ∀ W, Below w2.heap.size w2 W → Below w.heap.size w W ∧ Blk W (w.heap.size + 1) [.int .i64 0, .slice none 0 0, .slice none 0 0, .slice none 0 0, .slice none 0 0] 39 ∧ Rows (fun q => q < w.heap.size) W 1 (.slice al s.length cl) s.length (s.map eI) from fun W hW => by
    have hB : Below w.heap.size w W := hb2.trans (hW.mono (by omega))
    exact ⟨hB, k2.keep (hW.block _ k2.lt), hs.keep (w' := W) fun q hq _ => hB.block q hq⟩)
  have HS := Lib.hid (since_any w2 (tabs_below hT h3 hb2) (Nat.le_trans h3 hb2.size) _ _ (.agg #[.slice a1 m.seen.length p1, .slice a2 m.items.length p2, .slice a3 m.gone.length p3]) m ⟨_, _, _, rfl, hMx.keep (w' := w2) fun q hq _ => (hb2.block q hq).trans (Hbx.out.block q hq).symm⟩ hki hkg (.slice al s.length cl) s (HR.out w2 (Below.refl _ _)).2.2)
  have Hw2 := Lib.hid hw2
  have Hz2 := Lib.hid hz2
  obtain ⟨c0, c1, c2⟩ := cell3 km
  obtain ⟨dk, hdk⟩ : ∃ dk, devOk d = dk := ⟨_, rfl⟩
  have HI := Lib.hid (isDev_any w2 d)
  rw [hdk] at HI
  have Hdk := Lib.hid hdk
  have hk2 := k2
  clear hw2 hz2 hb2 km k2 hT hs hki hkg hdk hMx
  go_enter Tryz.func16, Tryz.ntmps16
  go_wp2_with fail
  rw [← Hwx.out, ← Hw2.out]
  refine HI.out.mono ?_
  rintro e w3 ⟨rfl, rfl⟩
  clear HI
  cases dk with
  | false =>
    have Hu := Lib.hid (show sendR d m s = (.empty, 1) by unfold sendR; rw [Hdk.out]; rfl)
    have hbel := (HR.out w2 (Below.refl _ _)).1
    clear c0 c1 c2
    obtain ⟨wf, hwf, hblk, hbf⟩ := fin5 hk2 hbel (by omega) (.int .i64 0) (.slice none 0 0) (.slice none 0 0) (.slice none 0 0) (.slice none 0 0)
    obtain ⟨y0, y1, y2, y3, y4⟩ := cell5 hk2
    have z0 := hk2.free 0
    have z1 := hk2.free 1
    have z2 := hk2.free 2
    have z3 := hk2.free 3
    have z4 := hk2.free 4
    have Q := Lib.hid (cell5 hblk)
    have Hbf := Lib.hid hbf; have Hwf := Lib.hid hwf
    clear hwf hblk hbf
    go_wp2_with fail
    rw [← Hwf.out]
    obtain ⟨q0, q1, q2, q3, q4⟩ := Q.out
    exact bodyPost_ret (v := .tuple #[nilM, .int .i64 1]) (by simp [results, Tryz.results16, go_sem, q0, q1, q2, q3, q4, nilM]) rfl ⟨⟨_, by rw [Hu.out], by rw [Hu.out]; exact ownM_nil _ _, by rw [Hu.out]; exact bndS_empty⟩, Hbf.out⟩
  | true =>
    have hdd : 0 ≤ d ∧ d < 8 := by have := Hdk.out; unfold devOk at this; simpa using this
    have Hdd := Lib.hid hdd
    rcases since_cases m s with ⟨hsr, hvm, hkn⟩ | hsr
    · have Hu := Lib.hid (show sendR d m s = (⟨d, s, sinceF m s⟩, 0) by unfold sendR; rw [Hdk.out, hsr]; rfl)
      rw [hsr] at HS
      have Hkn := Lib.hid hkn
      clear hsr hvm hkn hdd hk2
      go_wp2_with fail
      refine HS.out.mono ?_
      rintro e w3 ⟨⟨r, rfl, ⟨t1, t2, t3, rfl, ho⟩, hbd⟩, hb3⟩
      obtain ⟨b1, e1, rfl⟩ := own_shape ho.seen
      obtain ⟨b2, e2, rfl⟩ := own_shape ho.items
      obtain ⟨b3, e3, rfl⟩ := own_shape ho.gone
      dsimp only at ho hbd
      obtain ⟨w4, hw4⟩ : ∃ q, q = w3.alloc (.cells #[.slice b1 (sinceF m s).seen.length e1, .slice b2 (sinceF m s).items.length e2, .slice b3 (sinceF m s).gone.length e3] 31) := ⟨_, rfl⟩
      have hk4 : Below w3.heap.size w3 w4 := by rw [hw4]; exact kept_alloc _ _
      have kt : Blk w4 w3.heap.size [.slice b1 (sinceF m s).seen.length e1, .slice b2 (sinceF m s).items.length e2, .slice b3 (sinceF m s).gone.length e3] 31 := by rw [hw4]; exact Blk.new _ _ _
      have ho4 := ho.below hk4
      have hL4 : Below w2.heap.size w2 w4 := hb3.trans (hk4.mono hb3.size)
      have p0 : ∀ W, Later w4.drew W → W.cell? _ = _ := fun W hh => laterC (cell3 kt).1 hh
      have p1' : ∀ W, Later w4.drew W → W.cell? _ = _ := fun W hh => laterC (cell3 kt).2.1 hh
      have p2' : ∀ W, Later w4.drew W → W.cell? _ = _ := fun W hh => laterC (cell3 kt).2.2 hh
      have HC := Lib.hid (cloneI_any w4.drew _ (.slice al s.length cl) s ((HR.out w4 hL4).2.2.keep (w' := w4.drew) fun _ _ _ => rfl) (by have := Hkn.out.len; omega))
      have HL4 := Lib.hid hL4; have Ho4 := Lib.hid ho4; have Hbd := Lib.hid hbd; have Hw4 := Lib.hid hw4
      clear hk4 kt ho4 hL4 hw4 ho hbd hb3 HS c0 c1 c2
      go_wp2_with fail
      rw [← Hw4.out]
      refine wp_region_canL Later 5 [(0, true), (1, true), (3, true), (2, false), (4, true), (5, false), (6, true)] (by kernel_rfl) (by kernel_rfl) (by kernel_rfl) later_refl later_trans ?_
      repeat (refine canL_yes (v := ?_) rfl (wanted_none rfl) (fun w' hC => ?_) (fun K hK => ?_); rotate_left; (focus (go_simp; first | done | exact rfl)); go_simp; refine hK _ ?_; clear hK K)
      refine canL_go rfl rfl (fun KK hK => ?_)
      go_simp
      refine HC.out.mono ?_
      rintro e w5 ⟨r5, rfl, ho5, hb5⟩
      obtain ⟨b5, d5, rfl⟩ := own_shape ho5
      refine ⟨_, rfl, hb5, hK _ _ ?_⟩
      clear hK KK HC
      go_simp
      have hL5 : Below w2.heap.size w2 w5 := HL4.out.drew.trans (hb5.mono HL4.out.size)
      obtain ⟨hbel, kr, -⟩ := HR.out w5 hL5
      have hs2 : w.heap.size ≤ w2.heap.size := by have := Hz2.out; omega
      have hs4 : w2.heap.size ≤ w4.heap.size := HL4.out.size
      have hom : OwnMsg w5 w.heap.size (.slice b5 s.length d5) (.slice b1 (sinceF m s).seen.length e1) (.slice b2 (sinceF m s).items.length e2) (.slice b3 (sinceF m s).gone.length e3) ⟨d, s, sinceF m s⟩ := ⟨own_base ho5 (Nat.le_trans hs2 hs4), (Ho4.out.below ((Below.refl w4.heap.size w4).drew.trans hb5)).mono hs2⟩
      obtain ⟨wf, hwf, hblk, hbf⟩ := fin5 kr hbel (by omega) (.int .i64 d) (.slice b5 s.length d5) (.slice b1 (sinceF m s).seen.length e1) (.slice b2 (sinceF m s).items.length e2) (.slice b3 (sinceF m s).gone.length e3)
      obtain ⟨y0, y1, y2, y3, y4⟩ := cell5 kr
      have z0 := kr.free 0
      have z1 := kr.free 1
      have z2 := kr.free 2
      have z3 := kr.free 3
      have z4 := kr.free 4
      have Q := Lib.hid (cell5 hblk)
      have Hof := Lib.hid (hom.fin kr (by decide) (by decide) (by decide) hwf)
      have Hbf := Lib.hid hbf; have Hwf := Lib.hid hwf
      clear hwf hblk hbf kr hbel hom hb5 hL5 ho5 hs2 hs4
      repeat (refine canL_yes (v := ?_) rfl (wanted_none rfl) (fun w' hC => ?_) (fun K hK => ?_); rotate_left; (focus (go_simp; first | done | exact rfl)); go_simp; refine hK _ ?_; clear hK K)
      clear p0 p1' p2'
      refine canL_last rfl rfl rfl (fun KK hK => ?_)
      go_simp
      rw [← Hwf.out]
      refine hK _ _ ?_
      clear hK KK y0 y1 y2 y3 y4 z0 z1 z2 z3 z4
      go_simp
      repeat (refine canL_yes (v := ?_) rfl (wanted_none rfl) (fun w' hC => ?_) (fun K hK => ?_); rotate_left; (focus (go_simp; first | done | exact rfl)); go_simp; refine hK _ ?_; clear hK K)
      refine canL_nil ?_
      go_wp2_with fail
      obtain ⟨q0, q1, q2, q3, q4⟩ := Q.out
      exact bodyPost_ret (v := .tuple #[.agg #[.int .i64 d, .slice b5 s.length d5, .slice b1 (sinceF m s).seen.length e1, .slice b2 (sinceF m s).items.length e2, .slice b3 (sinceF m s).gone.length e3], .int .i64 0]) (by simp [results, Tryz.results16, go_sem, q0, q1, q2, q3, q4]) rfl
        ⟨⟨_, by rw [Hu.out], by rw [Hu.out]; exact ⟨_, _, _, _, rfl, Hof.out⟩, by rw [Hu.out]; exact ⟨by have := Hdd.out; unfold i64ok; dsimp only; omega, fun n hn => by have := Hkn.out.num n hn; unfold i64ok; omega, Hbd.out⟩⟩, Hbf.out⟩
    · have Hu := Lib.hid (show sendR d m s = (.empty, 5) by unfold sendR; rw [Hdk.out, hsr]; rfl)
      rw [hsr] at HS
      clear hsr hdd hk2
      go_wp2_with fail
      refine HS.out.mono ?_
      rintro e w3 ⟨⟨r, rfl, ⟨t1, t2, t3, rfl, ho⟩, hbd⟩, hb3⟩
      obtain ⟨w4, hw4⟩ : ∃ q, q = w3.alloc (.cells #[t1, t2, t3] 31) := ⟨_, rfl⟩
      obtain ⟨b1, e1, rfl⟩ := own_shape ho.seen
      obtain ⟨b2, e2, rfl⟩ := own_shape ho.items
      obtain ⟨b3, e3, rfl⟩ := own_shape ho.gone
      have hL4 : Below w2.heap.size w2 w4 := by rw [hw4]; exact hb3.alloc hb3.size _
      obtain ⟨hbel, kr, -⟩ := HR.out w4 hL4
      have Hw4 := Lib.hid hw4
      obtain ⟨wf, hwf, hblk, hbf⟩ := fin5 kr hbel (by omega) (.int .i64 0) (.slice none 0 0) (.slice none 0 0) (.slice none 0 0) (.slice none 0 0)
      obtain ⟨y0, y1, y2, y3, y4⟩ := cell5 kr
      have z0 := kr.free 0
      have z1 := kr.free 1
      have z2 := kr.free 2
      have z3 := kr.free 3
      have z4 := kr.free 4
      have Q := Lib.hid (cell5 hblk)
      rw [hw4] at hwf y0 y1 y2 y3 y4 z0 z1 z2 z3 z4
      have Hbf := Lib.hid hbf; have Hwf := Lib.hid hwf
      clear hwf hblk hbf hL4 ho hbd hb3 HS c0 c1 c2 kr hbel hw4
      go_wp2_with fail
      rw [← Hwf.out]
      obtain ⟨q0, q1, q2, q3, q4⟩ := Q.out
      exact bodyPost_ret (v := .tuple #[nilM, .int .i64 5]) (by simp [results, Tryz.results16, go_sem, q0, q1, q2, q3, q4, nilM]) rfl ⟨⟨_, by rw [Hu.out], by rw [Hu.out]; exact ownM_nil _ _, by rw [Hu.out]; exact bndS_empty⟩, Hbf.out⟩
end Go.Proofs.YtkkacnfpdafadaaGreatDoor
