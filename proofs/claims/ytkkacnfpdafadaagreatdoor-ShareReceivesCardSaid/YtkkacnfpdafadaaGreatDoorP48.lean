/-
  SLawR
-/
import Derived.Test.YtkkacnfpdafadaaGreatDoorP28
import Derived.Test.YtkkacnfpdafadaaGreatDoorP29
import Derived.Test.YtkkacnfpdafadaaGreatDoorP30
import Derived.Test.YtkkacnfpdafadaaGreatDoorP46
import Derived.Test.YtkkacnfpdafadaaGreatDoorP41
import Derived.Test.YtkkacnfpdafadaaGreatDoorP42
import Derived.Test.YtkkacnfpdafadaaGreatDoorP47
namespace Go.Proofs.YtkkacnfpdafadaaGreatDoor
open Go.RowKit Go.Lib
set_option linter.unusedVariables false
set_option maxRecDepth 20000
attribute [local go_sem] opC upC

theorem smallR_of {x : SMsg} (h : Small x.tell) (hs : x.seen.length ≤ 20) : SmallS x := ⟨by omega, by have := h.seen; omega, by have := h.items; omega, by have := h.gone; omega⟩
abbrev tpR (j : Nat) : TypeId := if j = 4 then 31 else 39
abbrev nR (j : Nat) : Nat := if j = 4 then 3 else 5
abbrev csR (j : Nat) : Array Value := if j = 4 then #[.slice none 0 0, .slice none 0 0, .slice none 0 0] else #[.int .i64 0, .slice none 0 0, .slice none 0 0, .slice none 0 0, .slice none 0 0]
abbrev QR (t : TypeId) : Prop := t = 31 ∨ t = 39
def ordR3 : List FStep := [.steady 0, .steady 2, .move 1, .move 3, .float 4, .float 5, .fixed 6, .fixed 7]
theorem laterQC {B0 : Nat} {Q : TypeId → Prop} {w w' : World} {a : Addr} {x : Value} (h : w.cell? a = some x) (hB : B0 = w.heap.size) (hh : LaterQ B0 Q w.drew w') : w'.cell? a = some x := by
  have hb := (hh.below (by rw [hB]; exact Nat.le_refl _)).block a.block (by rw [hB]; exact cellLt h)
  have hb' : w'.heap[a.block]? = w.heap[a.block]? := hb
  unfold World.cell? at *
  rw [hb']; exact h
theorem LaterQ.belD {B0 : Nat} {Q : TypeId → Prop} {w w' : World} (hB : B0 = w.heap.size) (hh : LaterQ B0 Q w.drew w') : Below w.heap.size w w' := by
  have := hh.below (by rw [hB]; exact Nat.le_refl _)
  rw [hB] at this
  exact (Below.refl _ _).drew.trans this
theorem MapIn.laterQ {B0 : Nat} {Q : TypeId → Prop} {w w' : World} {s1 s2 s3 : Value} {m : RMap} {base : Nat} (h : OwnIn w base s1 s2 s3 m) (hb : LaterQ B0 Q w w') (h1 : ¬ Q 3) (h2 : ¬ Q 50) (h3 : ¬ Q 95) : OwnIn w' base s1 s2 s3 m :=
  ⟨hb.own h.seen h1, hb.own h.items h2, hb.own h.gone h3⟩
structure RvSt (B O : Nat) (w wr : World) (c0 c1 c2 : Value) (n : Nat) : Prop where
  box : Blk wr O [c0, c1, c2] 31
  row : WRow B O wr c1 n 4
  bel : Below B w wr
theorem RvSt.set {B O : Nat} {w wr : World} {c0 c1 c2 : Value} {n : Nat} (h : RvSt B O w wr c0 c1 c2 n) {g : Nat} (hB : B ≤ g) (hO : g < O) (j : Nat) (u : Value) : RvSt B O w (wr.setCell ⟨g, j, none⟩ u) c0 c1 c2 n :=
  ⟨h.box.set_other u (by show O ≠ g; omega), h.row.set g j u, h.bel.setCell (p := ⟨g, j, none⟩) hB u⟩
theorem recvR_keysS (m : RMap) (x : SMsg) : KeysM (recvR m x).1 ∧ (recvR m x).1.seen.length ≤ 1000000 ∧ (recvR m x).1.items.length ≤ 1000000 ∧ (recvR m x).1.gone.length ≤ 1000000 := by
  have he : KeysM .empty ∧ RMap.empty.seen.length ≤ 1000000 ∧ RMap.empty.items.length ≤ 1000000 ∧ RMap.empty.gone.length ≤ 1000000 := ⟨⟨nofun, nofun⟩, by decide, by decide, by decide⟩
  have hf : ∀ M, KeysM (fullR M).1 ∧ (fullR M).1.seen.length ≤ 1000000 ∧ (fullR M).1.items.length ≤ 1000000 ∧ (fullR M).1.gone.length ≤ 1000000 := fun M => by
    unfold fullR
    split
    · rename_i hv
      have := valid_lens hv
      exact ⟨valid_keys hv, by dsimp only; omega, by dsimp only; omega, by dsimp only; omega⟩
    · exact he
  unfold recvR
  split
  · split
    · exact he
    · unfold mergeR
      split
      · exact hf _
      · exact he
  · exact he
set_option maxRecDepth 100000 in
set_option maxHeartbeats 8000000 in
theorem ShareReceives_walk (v xv : Value) (w : World) (hv : IsRMap w v) (hxv : IsSMsg w xv) (hq : Tabs w ∧ 3 ≤ w.heap.size) :
    Calls Tryz.prog 4 #[v, xv] w fun e w' => e = .returned (.bool true) ∧ Below w.heap.size w w' := by
  obtain ⟨m, h⟩ := hv
  obtain ⟨x, hm⟩ := hxv
  have HTb := Lib.hid (show ∀ w', Below w.heap.size w w' → Tabs w' ∧ 3 ≤ w'.heap.size from fun w' hb => ⟨tabs_below hq.1 hq.2 hb, Nat.le_trans hq.2 hb.size⟩)
  clear hq
  obtain ⟨s1, s2, s3, rfl, h⟩ := h
  obtain ⟨a1, p1, rfl, -⟩ := h.seen.shape
  obtain ⟨a2, p2, rfl, -⟩ := h.items.shape
  obtain ⟨a3, p3, rfl, -⟩ := h.gone.shape
  obtain ⟨wx, hwx⟩ : ∃ wx, wx = w.alloc (.cells #[.slice a1 m.seen.length p1, .slice a2 m.items.length p2, .slice a3 m.gone.length p3] 26) := ⟨_, rfl⟩
  have hbx : Below w.heap.size w wx := by rw [hwx]; exact kept_alloc _ _
  have hzx : wx.heap.size = w.heap.size + 1 := by rw [hwx]; simp
  have hx := h.keep (w' := wx) fun b _ hlt => hbx.block b hlt
  have hnx : Blk wx w.heap.size [.slice a1 m.seen.length p1, .slice a2 m.items.length p2, .slice a3 m.gone.length p3] 26 := by rw [hwx]; exact Blk.new _ _ _
  have Hx := Lib.hid hx
  have Hwx := Lib.hid hwx; have Hbx := Lib.hid hbx; have Hzx := Lib.hid hzx
  have Hnx := Lib.hid hnx
  clear hx hwx hbx hnx hzx h
  replace hm : MsgV (fun q => q < w.heap.size) wx xv x := hm.keep (w' := wx) fun q _ hlt => Hbx.out.block q hlt
  obtain ⟨svm, s1m, s2m, s3m, rfl, hm⟩ := hm
  obtain ⟨a0m, p0m, rfl, -⟩ := hm.seen.shape
  obtain ⟨a1m, p1m, rfl, -⟩ := hm.tell.seen.shape
  obtain ⟨a2m, p2m, rfl, -⟩ := hm.tell.items.shape
  obtain ⟨a3m, p3m, rfl, -⟩ := hm.tell.gone.shape
  obtain ⟨wxm, hwxm⟩ : ∃ qq, qq = wx.alloc (.cells #[.int .i64 x.frm, .slice a0m x.seen.length p0m, .slice a1m x.tell.seen.length p1m, .slice a2m x.tell.items.length p2m, .slice a3m x.tell.gone.length p3m] 43) := ⟨_, rfl⟩
  have hbxm : Below wx.heap.size wx wxm := by rw [hwxm]; exact kept_alloc _ _
  have hzxm : wxm.heap.size = wx.heap.size + 1 := by rw [hwxm]; simp
  have hxm := hm.keep (w' := wxm) fun b _ hlt => hbxm.block b hlt
  have hnxm : Blk wxm wx.heap.size [.int .i64 x.frm, .slice a0m x.seen.length p0m, .slice a1m x.tell.seen.length p1m, .slice a2m x.tell.items.length p2m, .slice a3m x.tell.gone.length p3m] 43 := by rw [hwxm]; exact Blk.new _ _ _
  have Hxm := Lib.hid hxm
  have Hwxm := Lib.hid hwxm; have Hbxm := Lib.hid hbxm; have Hzxm := Lib.hid hzxm
  have Hnxm := Lib.hid hnxm
  clear hxm hwxm hbxm hnxm hzxm hm
  have hMa := Hx.out
  have hMb := Hxm.out
  have HR := Lib.hid (show ∀ W, Below wxm.heap.size wxm W → Below w.heap.size w W ∧ Blk W w.heap.size [.slice a1 m.seen.length p1, .slice a2 m.items.length p2, .slice a3 m.gone.length p3] 26 ∧ Blk W (w.heap.size + 1) [.int .i64 x.frm, .slice a0m x.seen.length p0m, .slice a1m x.tell.seen.length p1m, .slice a2m x.tell.items.length p2m, .slice a3m x.tell.gone.length p3m] 43 ∧ MapIn (fun q => q < w.heap.size) W (.slice a1 m.seen.length p1) (.slice a2 m.items.length p2) (.slice a3 m.gone.length p3) m ∧ MsgIn (fun q => q < w.heap.size) W (.slice a0m x.seen.length p0m) (.slice a1m x.tell.seen.length p1m) (.slice a2m x.tell.items.length p2m) (.slice a3m x.tell.gone.length p3m) x from fun W hW => by
    have hz := Hzx.out
    have hzm := Hzxm.out
    have h1 : Below wx.heap.size wx W := Hbxm.out.trans (hW.mono (by omega))
    have hB : Below w.heap.size w W := Hbx.out.trans (h1.mono (by omega))
    refine ⟨hB, Hnx.out.keep (h1.block _ Hnx.out.lt), ?_, hMa.keep (w' := W) fun q hq _ => (hB.block q hq).trans (Hbx.out.block q hq).symm, hMb.keep (w' := W) fun q hq hlt => hW.block q hlt⟩
    have := Hnxm.out.keep (hW.block _ Hnxm.out.lt)
    rw [hz] at this
    exact this)
  have HF := Lib.hid (few_any wxm _ (.agg #[.slice a1 m.seen.length p1, .slice a2 m.items.length p2, .slice a3 m.gone.length p3]) m ⟨_, _, _, rfl, (HR.out wxm (Below.refl _ _)).2.2.2.1⟩)
  have hls := hMb.seen.len
  unfold maxLen at hls
  obtain ⟨c0, c1, c2⟩ := cell3 (HR.out wxm (Below.refl _ _)).2.1
  clear hMa hMb
  go_enter Tryz.func4, Tryz.ntmps4
  go_wp2_with fail
  rw [← Hwx.out, ← Hwxm.out]
  refine HF.out.mono ?_
  rintro e w1 ⟨r, rfl, hsm, hb1⟩
  have HB1 := Lib.hid (HR.out w1 hb1).1
  have Hb1 := Lib.hid hb1
  clear HF c0 c1 c2
  cases r with
  | false =>
    clear hsm hb1
    go_wp2_with fail
    go_ret
    exact ⟨rfl, HB1.out⟩
  | true =>
    have Hsm := Lib.hid (hsm rfl)
    have HF := Lib.hid (few_any w1 _ (.agg #[.slice a1m x.tell.seen.length p1m, .slice a2m x.tell.items.length p2m, .slice a3m x.tell.gone.length p3m]) x.tell ⟨_, _, _, rfl, (HR.out w1 hb1).2.2.2.2.tell⟩)
    obtain ⟨d0, d1, d2, d3, d4⟩ := cell5 (HR.out w1 hb1).2.2.1
    clear hsm hb1
    go_wp2_with fail
    refine HF.out.mono ?_
    rintro e w2 ⟨r, rfl, hsx, hb2⟩
    have hL2 := Hb1.out.trans (hb2.mono Hb1.out.size)
    have HB2 := Lib.hid (HR.out w2 hL2).1
    have Hb2 := Lib.hid hL2
    clear HF d0 d1 d2 d3 d4 hb2
    cases r with
    | false =>
      clear hsx hL2
      go_wp2_with fail
      go_ret
      exact ⟨rfl, HB2.out⟩
    | true =>
      have Hsx := Lib.hid (hsx rfl)
      obtain ⟨d0, d1, d2, d3, d4⟩ := cell5 (HR.out w2 hL2).2.2.1
      by_cases h20 : (x.seen.length : Int) > 20
      · have dd : decide ((x.seen.length : Int) > 20) = true := by simpa using h20
        clear hsx hL2
        go_wp2_with fail
        go_ret
        exact ⟨rfl, HB2.out⟩
      have dd : decide ((x.seen.length : Int) > 20) = false := by simpa using h20
      have Hss := Lib.hid (smallR_of Hsx.out (by omega))
      have HkI := Lib.hid (show ∀ y ∈ m.items, y.key.length ≤ 1000000 from fun y hy => by have := Hsm.out.ikeys y hy; omega)
      have HkG := Lib.hid (show ∀ y ∈ m.gone, y.key.length ≤ 1000000 from fun y hy => by have := Hsm.out.gkeys y hy; omega)
      have HxI := Lib.hid (show ∀ y ∈ x.tell.items, y.key.length ≤ 1000000 from fun y hy => by have := Hsx.out.ikeys y hy; omega)
      have HxG := Lib.hid (show ∀ y ∈ x.tell.gone, y.key.length ≤ 1000000 from fun y hy => by have := Hsx.out.gkeys y hy; omega)
      obtain ⟨-, kM, kX, -, -⟩ := HR.out w2 hL2
      have pm0 : ∀ w', LaterQ w2.heap.size QR w2.drew w' → w'.cell? _ = _ := fun w' hh => laterQC (cell3 kM).1 rfl hh
      have pm1 : ∀ w', LaterQ w2.heap.size QR w2.drew w' → w'.cell? _ = _ := fun w' hh => laterQC (cell3 kM).2.1 rfl hh
      have pm2 : ∀ w', LaterQ w2.heap.size QR w2.drew w' → w'.cell? _ = _ := fun w' hh => laterQC (cell3 kM).2.2 rfl hh
      have px0 : ∀ w', LaterQ w2.heap.size QR w2.drew w' → w'.cell? _ = _ := fun w' hh => laterQC d0 rfl hh
      have px1 : ∀ w', LaterQ w2.heap.size QR w2.drew w' → w'.cell? _ = _ := fun w' hh => laterQC d1 rfl hh
      have px2 : ∀ w', LaterQ w2.heap.size QR w2.drew w' → w'.cell? _ = _ := fun w' hh => laterQC d2 rfl hh
      have px3 : ∀ w', LaterQ w2.heap.size QR w2.drew w' → w'.cell? _ = _ := fun w' hh => laterQC d3 rfl hh
      have px4 : ∀ w', LaterQ w2.heap.size QR w2.drew w' → w'.cell? _ = _ := fun w' hh => laterQC d4 rfl hh
      clear hsx hL2 kM kX
      go_wp2_with fail
      clear d0 d1 d2 d3 d4
      refine wp_region_fl (LaterQ w2.heap.size QR) (FreshQ w2.heap.size tpR nR) [4, 5] ordR3 60 (by kernel_rfl) (by kernel_rfl) (laterQ_refl _ _) (laterQ_trans _ _) (floatsQ_of csR (fun j hj => ?_) (fun j => ?_) (Nat.le_refl _) (fun j hj => ?_) (fun i j hi hj hne => ?_)) ?_
      · have hj' : j = 4 ∨ j = 5 := by simpa using hj
        rcases hj' with rfl | rfl <;> rfl
      · unfold QR tpR
        split
        · exact .inl rfl
        · exact .inr rfl
      · have hj' : j = 4 ∨ j = 5 := by simpa using hj
        rcases hj' with rfl | rfl
        · exact ⟨_, rfl, rfl, fun a W => by simp only [csR, tpR]; go_simp⟩
        · exact ⟨_, rfl, rfl, fun a W => by simp only [csR, tpR]; go_simp⟩
      · have hi' : i = 4 ∨ i = 5 := by simpa using hi
        have hj' : j = 4 ∨ j = 5 := by simpa using hj
        rcases hi' with rfl | rfl <;> rcases hj' with rfl | rfl <;> first | exact absurd rfl hne | (intro d hd hd2; rw [← hd2] at hd; exact absurd hd (by decide))
      unfold ordR3
      repeat (refine canF_yes (v := ?_) rfl (wanted_none rfl) (fun w' hC => ?_) (fun K hK => ?_); rotate_left; (focus (go_simp; (try simp (disch := omega) only [IntWalk.i64_in]); (try simp (disch := omega) only [IntWalk.u32_in]); (try simp (disch := omega) only [IntWalk.u8_in]); (try simp (disch := omega) only [IntWalk.i64_quo]); (try simp (disch := omega) only [IntWalk.rem_in]); first | done | exact rfl)); go_simp; (try simp (disch := omega) only [IntWalk.i64_in]); (try simp (disch := omega) only [IntWalk.u32_in]); (try simp (disch := omega) only [IntWalk.u8_in]); (try simp (disch := omega) only [IntWalk.i64_quo]); (try simp (disch := omega) only [IntWalk.rem_in]); refine hK _ ?_; clear hK K)
      refine canF_go rfl rfl (fun Wa hWa KK hK => ?_)
      go_simp
      have hba := LaterQ.belD rfl hWa
      have hLa := Hb2.out.trans (hba.mono Hb2.out.size)
      refine (given_own Wa _ (.agg #[.slice a1 m.seen.length p1, .slice a2 m.items.length p2, .slice a3 m.gone.length p3]) m ⟨_, _, _, rfl, (HR.out Wa hLa).2.2.2.1⟩ (by have := Hsm.out.seen; omega) (by have := Hsm.out.items; omega) (by have := Hsm.out.gone; omega)).mono ?_
      rintro e wq6 ⟨v6, rfl, ⟨u1, u2, u3, rfl, g1, g2, g3⟩, -, hb6⟩
      obtain ⟨r1, q1, rfl⟩ := own_shape g1
      obtain ⟨r2, q2, rfl⟩ := own_shape g2
      obtain ⟨r3, q3, rfl⟩ := own_shape g3
      refine ⟨_, rfl, LaterQ.of_later hb6, hK _ _ ?_⟩
      clear hK KK pm0 pm1 pm2 px0 px1 px2 px3 px4
      go_simp
      have hb26 : Below w2.heap.size w2 wq6 := hba.trans (hb6.mono hba.size)
      have hO6 : OwnIn wq6 0 (.slice r1 m.seen.length q1) (.slice r2 m.items.length q2) (.slice r3 m.gone.length q3) m := ⟨own_base g1 (Nat.zero_le _), own_base g2 (Nat.zero_le _), own_base g3 (Nat.zero_le _)⟩
      clear hWa hba hLa hb6 g1 g2 g3
      refine canF_go rfl rfl (fun Wb hWb KK hK => ?_)
      go_simp
      have hbb : Below w2.heap.size w2 Wb := hb26.trans (hWb.below hb26.size)
      have hLb := Hb2.out.trans (hbb.mono Hb2.out.size)
      have hOb := MapIn.laterQ hO6 hWb (by decide) (by decide) (by decide)
      refine (sent_own Wb _ (.agg #[.int .i64 x.frm, .slice a0m x.seen.length p0m, .slice a1m x.tell.seen.length p1m, .slice a2m x.tell.items.length p2m, .slice a3m x.tell.gone.length p3m]) x ⟨_, _, _, _, rfl, (HR.out Wb hLb).2.2.2.2⟩ Hss.out).mono ?_
      rintro e wq7 ⟨v7, rfl, ⟨u0, u1, u2, u3, rfl, k0, k1, k2, k3⟩, -, hb7⟩
      obtain ⟨t0, o0, rfl⟩ := own_shape k0
      obtain ⟨t1, o1, rfl⟩ := own_shape k1
      obtain ⟨t2, o2, rfl⟩ := own_shape k2
      obtain ⟨t3, o3, rfl⟩ := own_shape k3
      refine ⟨_, rfl, LaterQ.of_later hb7, hK _ _ ?_⟩
      clear hK KK
      go_simp
      have hb27 : Below w2.heap.size w2 wq7 := hbb.trans (hb7.mono hbb.size)
      have hO7 := hOb.below hb7
      have hS7 : OwnMsg wq7 0 (.slice t0 x.seen.length o0) (.slice t1 x.tell.seen.length o1) (.slice t2 x.tell.items.length o2) (.slice t3 x.tell.gone.length o3) x := ⟨own_base k0 (Nat.zero_le _), ⟨own_base k1 (Nat.zero_le _), own_base k2 (Nat.zero_le _), own_base k3 (Nat.zero_le _)⟩⟩
      clear hWb hbb hLb hOb hb7 k0 k1 k2 k3 hO6 hb26
      repeat (refine canF_yes (v := ?_) rfl (wanted_none rfl) (fun w' hC => ?_) (fun K hK => ?_); rotate_left; (focus (go_simp; (try simp (disch := omega) only [IntWalk.i64_in]); (try simp (disch := omega) only [IntWalk.u32_in]); (try simp (disch := omega) only [IntWalk.u8_in]); (try simp (disch := omega) only [IntWalk.i64_quo]); (try simp (disch := omega) only [IntWalk.rem_in]); first | done | exact rfl)); go_simp; (try simp (disch := omega) only [IntWalk.i64_in]); (try simp (disch := omega) only [IntWalk.u32_in]); (try simp (disch := omega) only [IntWalk.u8_in]); (try simp (disch := omega) only [IntWalk.i64_quo]); (try simp (disch := omega) only [IntWalk.rem_in]); refine hK _ ?_; clear hK K)
      refine canF_float rfl (fun vO Wd hWd hZ hU KK hK => ?_)
      obtain ⟨O4, LO, rfl, hO1, hO2, hO3⟩ := hZ
      refine hK _ _ ?_
      clear hK KK hU
      go_simp
      refine canF_float rfl (fun vP We hWe hZ hU KK hK => ?_)
      obtain ⟨O5, LP, rfl, hP1, hP2, hP3⟩ := hZ
      refine hK _ _ ?_
      clear hK KK hU
      go_simp
      obtain ⟨LO', hO2', hO3'⟩ := hWe.typed O4 _ _ hO1 (.inl rfl) hO2
      have hP2' : Blk We O5 LP 39 := hP2
      have hlO : LO'.length = 3 := hO3'.trans hO3
      have hlP : LP.length = 5 := hP3
      clear hO2 hO3 hO3' hP2 hP3
      obtain ⟨x0, x1, x2, rfl⟩ : ∃ x0 x1 x2, LO' = [x0, x1, x2] := by
        match LO', hlO with
        | [x0, x1, x2], _ => exact ⟨x0, x1, x2, rfl⟩
      obtain ⟨x3, x4, x5, x6, x7, rfl⟩ : ∃ x3 x4 x5 x6 x7, LP = [x3, x4, x5, x6, x7] := by
        match LP, hlP with
        | [x3, x4, x5, x6, x7], _ => exact ⟨x3, x4, x5, x6, x7, rfl⟩
      have hde := laterQ_trans _ _ _ _ _ hWd hWe
      have hbe : Below w2.heap.size w2 We := hb27.trans (hde.below hb27.size)
      have hOe : OwnIn We 0 (.slice r1 m.seen.length q1) (.slice r2 m.items.length q2) (.slice r3 m.gone.length q3) m := MapIn.laterQ hO7 hde (by decide) (by decide) (by decide)
      have hSe : OwnMsg We 0 (.slice t0 x.seen.length o0) (.slice t1 x.tell.seen.length o1) (.slice t2 x.tell.items.length o2) (.slice t3 x.tell.gone.length o3) x := ⟨hde.own hS7.seen (by decide), MapIn.laterQ hS7.tell hde (by decide) (by decide) (by decide)⟩
      obtain ⟨w8, hw8, hblk8, hb8⟩ := fin3 hO2' hbe hO1 (.slice r1 m.seen.length q1) (.slice r2 m.items.length q2) (.slice r3 m.gone.length q3)
      have hl8 : LaterQ w2.heap.size QR We w8 := by
        rw [hw8]
        exact laterQ_trans _ _ _ _ _ (laterQ_trans _ _ _ _ _ (LaterQ.set hO2' (.inl rfl) hO1 0 _) (LaterQ.set (hO2'.set 0 _) (.inl rfl) hO1 1 _)) (LaterQ.set ((hO2'.set 0 _).set 1 _) (.inl rfl) hO1 2 _)
      have hP8 : Blk w8 O5 [x3, x4, x5, x6, x7] 39 := by
        have hne := hP2'.ne hO2' (by decide)
        rw [hw8]
        exact ((hP2'.set_other _ hne).set_other _ hne).set_other _ hne
      obtain ⟨y0, y1, y2⟩ := cell3 hO2'
      have z0 := hO2'.free 0
      have z1 := hO2'.free 1
      have z2 := hO2'.free 2
      obtain ⟨w9, hw9, hblk9, hb9⟩ := fin5 hP8 hb8 hP1 (.int .i64 x.frm) (.slice t0 x.seen.length o0) (.slice t1 x.tell.seen.length o1) (.slice t2 x.tell.items.length o2) (.slice t3 x.tell.gone.length o3)
      have hl9 : LaterQ w2.heap.size QR w8 w9 := by
        rw [hw9]
        exact laterQ_trans _ _ _ _ _ (laterQ_trans _ _ _ _ _ (laterQ_trans _ _ _ _ _ (laterQ_trans _ _ _ _ _ (LaterQ.set hP8 (.inr rfl) hP1 0 _) (LaterQ.set (hP8.set 0 _) (.inr rfl) hP1 1 _)) (LaterQ.set ((hP8.set 0 _).set 1 _) (.inr rfl) hP1 2 _)) (LaterQ.set (((hP8.set 0 _).set 1 _).set 2 _) (.inr rfl) hP1 3 _)) (LaterQ.set ((((hP8.set 0 _).set 1 _).set 2 _).set 3 _) (.inr rfl) hP1 4 _)
      have hblkO : Blk w9 O4 [.slice r1 m.seen.length q1, .slice r2 m.items.length q2, .slice r3 m.gone.length q3] 31 := by
        have hne := hblk8.ne hP8 (by decide)
        rw [hw9]
        exact ((((hblk8.set_other _ hne).set_other _ hne).set_other _ hne).set_other _ hne).set_other _ hne
      obtain ⟨y3, y4, y5, y6, y7⟩ := cell5 hP8
      have z3 := hP8.free 0
      have z4 := hP8.free 1
      have z5 := hP8.free 2
      have z6 := hP8.free 3
      have z7 := hP8.free 4
      have hl89 := laterQ_trans _ _ _ _ _ hl8 hl9
      have hmbM : MB w9 O4 m := ⟨_, _, _, _, _, _, hblkO, (((MapIn.laterQ hOe hl89 (by decide) (by decide) (by decide)).map (HR.out w2 Hb2.out).2.2.2.1.bnd).mono fun q _ hlt => hlt)⟩
      have hmbX : MBS w9 O5 x := ⟨_, _, _, _, _, _, _, _, hblk9, ((OwnMsg.mk (hl89.own hSe.seen (by decide)) (MapIn.laterQ hSe.tell hl89 (by decide) (by decide) (by decide)) : OwnMsg w9 0 _ _ _ _ x).msg (HR.out w2 Hb2.out).2.2.2.2.bnd).mono fun q _ hlt => hlt⟩
      have HW9 := Lib.hid hb9; have Hl9 := Lib.hid ((Has.nil w9).cons hmbM); have Hs9 := Lib.hid ((HasS.nil w9).cons hmbX)
      have Hl8 := Lib.hid hl8; have Hl8' := Lib.hid hl9; have Hw8 := Lib.hid hw8; have Hw9 := Lib.hid hw9
      clear hmbM hmbX hl89 hblkO hblk9 hblk8 hb8 hb9 hl8 hl9 hw8 hw9 hP8 hOe hSe hde hbe hO7 hS7 hb27 hWd hWe hO2' hP2' hlO hlP
      refine canF_fixed rfl rfl (fun KK hK => ?_)
      go_simp
      rw [← Hw8.out]
      refine ⟨Hl8.out, hK _ _ ?_⟩
      clear hK KK y0 y1 y2 z0 z1 z2 Hl8 Hw8
      go_simp
      refine canF_fixed rfl rfl (fun KK hK => ?_)
      go_simp
      rw [← Hw9.out]
      refine ⟨Hl8'.out, hK _ _ ?_⟩
      clear hK KK y3 y4 y5 y6 y7 z3 z4 z5 z6 z7 Hl8' Hw9 hO1 hP1
      go_simp
      refine canF_nil ?_
      -- Receive of the program
      have HL9 := Lib.hid (Hb2.out.trans (HW9.out.mono Hb2.out.size))
      have HWw9 := Lib.hid (HR.out w9 HL9.out).1
      obtain ⟨s1A, e1A, s2A, e2A, s3A, e3A, hBA, hMA⟩ := Hl9.out.get O4 m (by simp)
      obtain ⟨c0A, c1A, c2A⟩ := cell3 hBA
      obtain ⟨s0X, e0X, s1X, e1X, s2X, e2X, s3X, e3X, hBX, hMX⟩ := Hs9.out.get O5 x (by simp)
      obtain ⟨c0X, c1X, c2X, c3X, c4X⟩ := cell5 hBX
      have hU := recv_any w9 (HTb.out _ HWw9.out).1 (HTb.out _ HWw9.out).2 _ _ (.agg #[.slice s1A m.seen.length e1A, .slice s2A m.items.length e2A, .slice s3A m.gone.length e3A]) m ⟨_, _, _, rfl, hMA⟩ HkI.out HkG.out (.agg #[.int .i64 x.frm, .slice s0X x.seen.length e0X, .slice s1X x.tell.seen.length e1X, .slice s2X x.tell.items.length e2X, .slice s3X x.tell.gone.length e3X]) x ⟨_, _, _, _, rfl, hMX⟩ HxI.out HxG.out
      obtain ⟨mr, hmr⟩ : ∃ mr, recvR m x = mr := ⟨_, rfl⟩
      have hks := recvR_keysS m x
      rw [hmr] at hU hks
      obtain ⟨M, er⟩ := mr
      dsimp only at hks
      have HU := Lib.hid hU; have Hmr := Lib.hid hmr; have Hks := Lib.hid hks
      clear hU hmr hks hBA hMA hBX hMX
      go_wp2_with fail
      refine HU.out.mono ?_
      rintro e wm ⟨⟨r, rfl, ho, hbd⟩, hbm⟩
      obtain ⟨v1, v2, v3, rfl, ho⟩ := ho
      dsimp only at ho hbd ⊢
      obtain ⟨n1, m1, rfl⟩ := own_shape ho.seen
      obtain ⟨n2, m2, rfl⟩ := own_shape ho.items
      obtain ⟨n3, m3, rfl⟩ := own_shape ho.gone
      obtain ⟨Oa, hOa⟩ : ∃ q, wm.heap.size = q := ⟨_, rfl⟩
      obtain ⟨w10, hw10⟩ : ∃ q, q = wm.alloc (.cells #[.slice n1 M.seen.length m1, .slice n2 M.items.length m2, .slice n3 M.gone.length m3] 31) := ⟨_, rfl⟩
      have hk10 : Below wm.heap.size wm w10 := by rw [hw10]; exact kept_alloc _ _
      have hz10 : w10.heap.size = Oa + 1 := by rw [hw10, ← hOa]; simp
      have h910 : Below w9.heap.size w9 w10 := hbm.trans (hk10.mono hbm.size)
      have hm10 : MapIn (fun q => q < w10.heap.size) w10 (.slice n1 M.seen.length m1) (.slice n2 M.items.length m2) (.slice n3 M.gone.length m3) M := ((ho.below hk10).map hbd).mono fun q _ hlt => hlt
      have hst : RvSt w9.heap.size Oa w9 w10 (.slice n1 M.seen.length m1) (.slice n2 M.items.length m2) (.slice n3 M.gone.length m3) M.items.length := ⟨by rw [hw10, ← hOa]; exact Blk.new _ _ _, (WRow.of_own ho.items (by rw [hOa]; exact Nat.le_refl _)).keep fun g hg => hk10.block g (by omega), h910⟩
      have Hst := Lib.hid hst; have Hm10 := Lib.hid hm10; have Hw10 := Lib.hid hw10; have Hz10 := Lib.hid hz10
      clear hst hm10 hw10 hk10 hz10 ho hbd hbm HU c0A c1A c2A c0X c1X c2X c3X c4X
      -- Receive of the reference
      have hL10 := HL9.out.trans (h910.mono HL9.out.size)
      obtain ⟨-, kM, kX, mM, mX⟩ := HR.out w10 hL10
      have hR := rrecv_any w10 _ _ (.agg #[.slice a1 m.seen.length p1, .slice a2 m.items.length p2, .slice a3 m.gone.length p3]) m ⟨_, _, _, rfl, mM⟩ (fun y hy => by have := HkI.out y hy; omega) (fun y hy => by have := HkG.out y hy; omega) (.agg #[.int .i64 x.frm, .slice a0m x.seen.length p0m, .slice a1m x.tell.seen.length p1m, .slice a2m x.tell.items.length p2m, .slice a3m x.tell.gone.length p3m]) x ⟨_, _, _, _, rfl, mX⟩ (fun y hy => by have := HxI.out y hy; omega) (fun y hy => by have := HxG.out y hy; omega)
      rw [Hmr.out] at hR
      have HRr := Lib.hid hR
      obtain ⟨c0, c1, c2⟩ := cell3 kM
      obtain ⟨d0, d1, d2, d3, d4⟩ := cell5 kX
      rw [Hw10.out] at c0 c1 c2 d0 d1 d2 d3 d4
      clear hR kM kX mM mX hL10 h910
      go_wp2_with fail
      try rw [hOa]
      rw [← Hw10.out]
      refine HRr.out.mono ?_
      rintro e wn ⟨r, rfl, hmv, hbn⟩
      obtain ⟨v1, v2, v3, rfl, hmi⟩ := hmv
      dsimp only at hmi ⊢
      obtain ⟨f1, h1', rfl, -⟩ := hmi.seen.shape
      obtain ⟨f2, h2', rfl, -⟩ := hmi.items.shape
      obtain ⟨f3, h3', rfl, -⟩ := hmi.gone.shape
      obtain ⟨w11, hw11⟩ : ∃ q, q = wn.alloc (.cells #[.slice f1 M.seen.length h1', .slice f2 M.items.length h2', .slice f3 M.gone.length h3'] 26) := ⟨_, rfl⟩
      have hk11 : Below wn.heap.size wn w11 := by rw [hw11]; exact kept_alloc _ _
      have h1011 : Below w10.heap.size w10 w11 := hbn.trans (hk11.mono hbn.size)
      have hbB : Blk w11 wn.heap.size [.slice f1 M.seen.length h1', .slice f2 M.items.length h2', .slice f3 M.gone.length h3'] 26 := by rw [hw11]; exact Blk.new _ _ _
      have hst11 : RvSt w9.heap.size Oa w9 w11 (.slice n1 M.seen.length m1) (.slice n2 M.items.length m2) (.slice n3 M.gone.length m3) M.items.length := ⟨Hst.out.box.keep (h1011.block _ Hst.out.box.lt), Hst.out.row.keep fun g hg => h1011.block g (by have := Hz10.out; omega), Hst.out.bel.trans (h1011.mono Hst.out.bel.size)⟩
      have HS := Lib.hid (same_any w11 _ _ (.agg #[.slice n1 M.seen.length m1, .slice n2 M.items.length m2, .slice n3 M.gone.length m3]) (.agg #[.slice f1 M.seen.length h1', .slice f2 M.items.length h2', .slice f3 M.gone.length h3']) M M ⟨_, _, _, rfl, Hm10.out.keep (w' := w11) fun q hq _ => h1011.block q hq⟩ ⟨_, _, _, rfl, hmi.keep (w' := w11) fun q _ hlt => hk11.block q hlt⟩ Hks.out.2.1 Hks.out.2.2.1 Hks.out.2.2.2)
      obtain ⟨e0, e1, e2⟩ := cell3 hst11.box
      obtain ⟨g0, g1, g2⟩ := cell3 hbB
      rw [hw11] at e0 e1 e2 g0 g1 g2
      have Hst11 := Lib.hid hst11; have Hw11 := Lib.hid hw11
      clear hst11 hw11 hk11 h1011 hbB hmi hbn HRr c0 c1 c2 d0 d1 d2 d3 d4 hOa
      go_wp2_with fail
      rw [← Hw11.out]
      refine HS.out.mono ?_
      rintro e w12 ⟨r, rfl, hr, hb12⟩
      obtain rfl : r = true := hr.2 rfl
      have hs11 : Oa < w11.heap.size := Hst11.out.box.lt
      have Hst12 := Lib.hid (show RvSt w9.heap.size Oa w9 w12 (.slice n1 M.seen.length m1) (.slice n2 M.items.length m2) (.slice n3 M.gone.length m3) M.items.length from ⟨Hst11.out.box.keep (hb12.block _ hs11), Hst11.out.row.keep fun g hg => hb12.block g (by omega), Hst11.out.bel.trans (hb12.mono Hst11.out.bel.size)⟩)
      have hln := Hks.out.2.2.1
      clear HS hr hb12 e0 e1 e2 g0 g1 g2 hs11
      go_wp2_with fail
      go_loopw [11] (fun i wr => ∃ k : Nat, k ≤ M.items.length ∧ i = .int .i64 (k : Int) ∧ RvSt w9.heap.size Oa w9 wr (.slice n1 M.seen.length m1) (.slice n2 M.items.length m2) (.slice n3 M.gone.length m3) M.items.length) (fun i _ => M.items.length - (intOf i).toNat)
      case atStart => exact ⟨0, by omega, rfl, Hst12.out⟩
      case round =>
        obtain ⟨k, hk, rfl, hst⟩ := hrel
        obtain ⟨e0, e1, e2⟩ := cell3 hst.box
        by_cases hkn : k < M.items.length
        · have hkI : (k : Int) < (M.items.length : Int) := by omega
          rcases id hst.row with h0 | ⟨g, cap, L, t, hv, hB, hA, hg, hlen⟩
          · omega
          · simp only [Value.slice.injEq, true_and] at hv
            obtain ⟨rfl, rfl⟩ := hv
            have hlt : k * 4 + 2 < L.length := by omega
            obtain ⟨z, y2⟩ : ∃ z, wr.cell? ⟨g, k * 4 + 2, none⟩ = some z := ⟨_, (hg.cell (k * 4 + 2)).trans (List.getElem?_eq_getElem hlt)⟩
            have f2' := hg.free (k * 4 + 2)
            have Hst' := Lib.hid (hst.set hB hA (k * 4 + 2) (.int .i64 (-1)))
            clear hst hg hlen hlt e0 e2
            go_wp2_with fail
            go_roundw
            case rel => exact ⟨k + 1, by omega, by go_num, Hst'.out⟩
            case measure => simp [intOf]; omega
        · have hkI : ¬ (k : Int) < (M.items.length : Int) := by omega
          have h9r := hst.bel
          have Hl := Lib.hid (Hl9.out.keep h9r); have Hs := Lib.hid (Hs9.out.keep h9r)
          have hLr := HL9.out.trans (h9r.mono HL9.out.size)
          obtain ⟨hBr, kM, kX, mM, mX⟩ := HR.out wr hLr
          obtain ⟨s1A, e1A, s2A, e2A, s3A, e3A, hBA, hMA⟩ := Hl.out.get O4 m (by simp)
          obtain ⟨c0A, c1A, c2A⟩ := cell3 hBA
          obtain ⟨s0X, e0X, s1X, e1X, s2X, e2X, s3X, e3X, hBX, hMX⟩ := Hs.out.get O5 x (by simp)
          obtain ⟨c0X, c1X, c2X, c3X, c4X⟩ := cell5 hBX
          obtain ⟨c0, c1, c2⟩ := cell3 kM
          obtain ⟨d0, d1, d2, d3, d4⟩ := cell5 kX
          have pa0 : ∀ w', Later wr.drew w' → w'.cell? _ = _ := fun w' hh => laterC c0A hh
          have pa1 : ∀ w', Later wr.drew w' → w'.cell? _ = _ := fun w' hh => laterC c1A hh
          have pa2 : ∀ w', Later wr.drew w' → w'.cell? _ = _ := fun w' hh => laterC c2A hh
          have pm0 : ∀ w', Later wr.drew w' → w'.cell? _ = _ := fun w' hh => laterC c0 hh
          have pm1 : ∀ w', Later wr.drew w' → w'.cell? _ = _ := fun w' hh => laterC c1 hh
          have pm2 : ∀ w', Later wr.drew w' → w'.cell? _ = _ := fun w' hh => laterC c2 hh
          have HC := Lib.hid (show ∀ a u, wr.cell? a = some u → ∀ w', Below wr.heap.size wr w' → w'.cell? a = some u from fun a u h w' hh => (hh.cell (p := a) (cellLt h)).trans h)
          have HcX := Lib.hid (And.intro c0X (And.intro c1X (And.intro c2X (And.intro c3X c4X))))
          have Hcx := Lib.hid (And.intro d0 (And.intro d1 (And.intro d2 (And.intro d3 d4))))
          have HMA := Lib.hid hMA; have HMX := Lib.hid hMX; have HmM := Lib.hid mM; have HmX := Lib.hid mX; have HBr := Lib.hid hBr
          clear hst h9r hLr hBr kM kX mM mX hBA hBX hMA hMX c0A c1A c2A c0X c1X c2X c3X c4X c0 c1 c2 d0 d1 d2 d3 d4 e0 e2
          go_wp2_with fail
          clear e1
          refine wp_region_can Later [(0, true), (1, true), (2, false), (3, true), (4, true), (6, true), (5, false), (7, false), (8, true), (9, true), (10, false), (11, true), (12, true)] (by kernel_rfl) (by kernel_rfl) later_refl later_trans ?_
          repeat (first
            | (refine can_yes (v := ?_) rfl (wanted_none rfl) (fun w' hC => ?_) (fun K hK => ?_); rotate_left; (focus (go_simp; first | done | exact rfl)); go_simp; refine hK _ ?_; clear hK K)
            | (refine can_guard rfl (fun A B hA hB => ?_); go_simp; first | (refine hA ⟨?_, fun w' hC => ?_, fun K hK => ?_⟩; rotate_left; (focus (go_simp; first | done | exact rfl)); go_simp; refine hK _ ?_; clear hK K hA hB A B) | (refine hB (fun K hK => ?_); go_simp; refine hK _ ?_; clear hK K hA hB A B))
            | (refine can_guard_go rfl (fun A B hA hB => ?_); go_simp; refine hB (fun K hK => ?_); go_simp; refine hK _ ?_; clear hK K hA hB A B))
          clear pa0 pa1 pa2 pm0 pm1 pm2
          have hbd := (Below.refl wr.heap.size wr).drew
          refine can_go rfl rfl (fun KK hK => ?_)
          go_simp
          refine (same_any wr.drew _ _ (.agg #[.slice s1A m.seen.length e1A, .slice s2A m.items.length e2A, .slice s3A m.gone.length e3A]) (.agg #[.slice a1 m.seen.length p1, .slice a2 m.items.length p2, .slice a3 m.gone.length p3]) m m ⟨_, _, _, rfl, HMA.out.keep (w' := wr.drew) fun _ _ _ => rfl⟩ ⟨_, _, _, rfl, HmM.out.keep (w' := wr.drew) fun _ _ _ => rfl⟩ (by have := Hsm.out.seen; omega) (by have := Hsm.out.items; omega) (by have := Hsm.out.gone; omega)).mono ?_
          rintro e w14 ⟨r, rfl, hr, hb14⟩
          obtain rfl : r = true := hr.2 rfl
          have hbr := hbd.trans hb14
          refine ⟨_, rfl, hb14, hK _ _ ?_⟩
          clear hK KK hr
          go_simp
          have pX0 : ∀ w', Later w14 w' → w'.cell? _ = _ := fun w' hh => HC.out _ _ HcX.out.1 w' (hbr.trans (RowKit.Below.mono hh hbr.size))
          have pX1 : ∀ w', Later w14 w' → w'.cell? _ = _ := fun w' hh => HC.out _ _ HcX.out.2.1 w' (hbr.trans (RowKit.Below.mono hh hbr.size))
          have pX2 : ∀ w', Later w14 w' → w'.cell? _ = _ := fun w' hh => HC.out _ _ HcX.out.2.2.1 w' (hbr.trans (RowKit.Below.mono hh hbr.size))
          have pX3 : ∀ w', Later w14 w' → w'.cell? _ = _ := fun w' hh => HC.out _ _ HcX.out.2.2.2.1 w' (hbr.trans (RowKit.Below.mono hh hbr.size))
          have pX4 : ∀ w', Later w14 w' → w'.cell? _ = _ := fun w' hh => HC.out _ _ HcX.out.2.2.2.2 w' (hbr.trans (RowKit.Below.mono hh hbr.size))
          have px0 : ∀ w', Later w14 w' → w'.cell? _ = _ := fun w' hh => HC.out _ _ Hcx.out.1 w' (hbr.trans (RowKit.Below.mono hh hbr.size))
          have px1 : ∀ w', Later w14 w' → w'.cell? _ = _ := fun w' hh => HC.out _ _ Hcx.out.2.1 w' (hbr.trans (RowKit.Below.mono hh hbr.size))
          have px2 : ∀ w', Later w14 w' → w'.cell? _ = _ := fun w' hh => HC.out _ _ Hcx.out.2.2.1 w' (hbr.trans (RowKit.Below.mono hh hbr.size))
          have px3 : ∀ w', Later w14 w' → w'.cell? _ = _ := fun w' hh => HC.out _ _ Hcx.out.2.2.2.1 w' (hbr.trans (RowKit.Below.mono hh hbr.size))
          have px4 : ∀ w', Later w14 w' → w'.cell? _ = _ := fun w' hh => HC.out _ _ Hcx.out.2.2.2.2 w' (hbr.trans (RowKit.Below.mono hh hbr.size))
          repeat (first
            | (refine can_yes (v := ?_) rfl (wanted_none rfl) (fun w' hC => ?_) (fun K hK => ?_); rotate_left; (focus (go_simp; first | done | exact rfl)); go_simp; refine hK _ ?_; clear hK K)
            | (refine can_guard rfl (fun A B hA hB => ?_); go_simp; first | (refine hA ⟨?_, fun w' hC => ?_, fun K hK => ?_⟩; rotate_left; (focus (go_simp; first | done | exact rfl)); go_simp; refine hK _ ?_; clear hK K hA hB A B) | (refine hB (fun K hK => ?_); go_simp; refine hK _ ?_; clear hK K hA hB A B))
            | (refine can_guard_go rfl (fun A B hA hB => ?_); go_simp; refine hB (fun K hK => ?_); go_simp; refine hK _ ?_; clear hK K hA hB A B))
          clear pX0 pX1 pX2 pX3 pX4 px0 px1 px2 px3 px4
          refine can_go rfl rfl (fun KK hK => ?_)
          go_simp
          refine (got_any w14 _ (.agg #[.int .i64 x.frm, .slice s0X x.seen.length e0X, .slice s1X x.tell.seen.length e1X, .slice s2X x.tell.items.length e2X, .slice s3X x.tell.gone.length e3X]) x ⟨_, _, _, _, rfl, HMX.out.keep (w' := w14) fun q hq _ => hbr.block q hq⟩ Hss.out).mono ?_
          rintro e w15 ⟨v15, rfl, hv15, hb15⟩
          have hbr15 := hbr.trans (hb15.mono hbr.size)
          refine ⟨_, rfl, hb15, hK _ _ ?_⟩
          clear hK KK
          go_simp
          refine can_go rfl rfl (fun KK hK => ?_)
          go_simp
          refine (sameS_any w15 _ _ v15 (.agg #[.int .i64 x.frm, .slice a0m x.seen.length p0m, .slice a1m x.tell.seen.length p1m, .slice a2m x.tell.items.length p2m, .slice a3m x.tell.gone.length p3m]) x x hv15 ⟨_, _, _, _, rfl, HmX.out.keep (w' := w15) fun q hq hlt => hbr15.block q hlt⟩).mono ?_
          rintro e w16 ⟨r, rfl, hr, hb16⟩
          obtain rfl : r = true := hr.2 rfl
          have hbr16 := hbr15.trans (hb16.mono hbr15.size)
          refine ⟨_, rfl, hb16, hK _ _ ?_⟩
          clear hK KK hr hv15
          go_simp
          repeat (first
            | (refine can_yes (v := ?_) rfl (wanted_none rfl) (fun w' hC => ?_) (fun K hK => ?_); rotate_left; (focus (go_simp; first | done | exact rfl)); go_simp; refine hK _ ?_; clear hK K)
            | (refine can_guard rfl (fun A B hA hB => ?_); go_simp; first | (refine hA ⟨?_, fun w' hC => ?_, fun K hK => ?_⟩; rotate_left; (focus (go_simp; first | done | exact rfl)); go_simp; refine hK _ ?_; clear hK K hA hB A B) | (refine hB (fun K hK => ?_); go_simp; refine hK _ ?_; clear hK K hA hB A B))
            | (refine can_guard_go rfl (fun A B hA hB => ?_); go_simp; refine hB (fun K hK => ?_); go_simp; refine hK _ ?_; clear hK K hA hB A B))
          have hB16 := HBr.out.trans (hbr16.mono HBr.out.size)
          refine can_go rfl rfl (fun KK hK => ?_)
          go_simp
          refine (works_any w16 (HTb.out _ hB16).1 (HTb.out _ hB16).2).mono ?_
          rintro e w17 ⟨rfl, hb17⟩
          refine ⟨_, rfl, hb17, hK _ _ ?_⟩
          clear hK KK
          go_simp
          repeat (first
            | (refine can_yes (v := ?_) rfl (wanted_none rfl) (fun w' hC => ?_) (fun K hK => ?_); rotate_left; (focus (go_simp; first | done | exact rfl)); go_simp; refine hK _ ?_; clear hK K)
            | (refine can_guard rfl (fun A B hA hB => ?_); go_simp; first | (refine hA ⟨?_, fun w' hC => ?_, fun K hK => ?_⟩; rotate_left; (focus (go_simp; first | done | exact rfl)); go_simp; refine hK _ ?_; clear hK K hA hB A B) | (refine hB (fun K hK => ?_); go_simp; refine hK _ ?_; clear hK K hA hB A B))
            | (refine can_guard_go rfl (fun A B hA hB => ?_); go_simp; refine hB (fun K hK => ?_); go_simp; refine hK _ ?_; clear hK K hA hB A B))
          refine can_nil ?_
          go_wp2_with fail
          go_ret
          exact ⟨rfl, hB16.trans (hb17.mono hB16.size)⟩
end Go.Proofs.YtkkacnfpdafadaaGreatDoor
