/-
  SWorks
-/
import Derived.Test.YtelphnigdancpaaGreatDoorZA23
import Derived.Test.YtelphnigdancpaaGreatDoorZA29
import Derived.Test.YtelphnigdancpaaGreatDoorZA32
import Derived.Test.YtelphnigdancpaaGreatDoorZA33
import Derived.Test.YtelphnigdancpaaGreatDoorZA34
namespace Go.Proofs.YtelphnigdancpaaGreatDoor
open Go.RowKit Go.Lib
set_option linter.unusedVariables false
set_option maxRecDepth 20000
attribute [local go_sem] opC upC

def ordW3 : List FStep := [.steady 0, .move 1, .move 2, .steady 3, .steady 4, .steady 5, .float 6, .fixed 7, .steady 8]
def ordW4 : List FStep := [.steady 1, .move 0, .move 2, .steady 3, .steady 4, .steady 5, .float 6, .fixed 7, .steady 8]
theorem laterTC {B0 : Nat} {T : TypeId} {w w' : World} {a : Addr} {x : Value} (h : w.cell? a = some x) (hB : B0 = w.heap.size) (hh : LaterT B0 T w.drew w') : w'.cell? a = some x := by
  have hb := (hh.below (by rw [hB]; exact Nat.le_refl _)).block a.block (by rw [hB]; exact cellLt h)
  have hb' : w'.heap[a.block]? = w.heap[a.block]? := hb
  unfold World.cell? at *
  rw [hb']; exact h
theorem LaterT.belD {B0 : Nat} {T : TypeId} {w w' : World} (hB : B0 = w.heap.size) (hh : LaterT B0 T w.drew w') : Below w.heap.size w w' := by
  have := hh.below (by rw [hB]; exact Nat.le_refl _)
  rw [hB] at this
  exact (Below.refl _ _).drew.trans this
theorem rowsN8 {W : World} {b : Nat} {l : List Int} (h : Blk W b (l.map eI) 3) (hl : l.length = 8) : Rows (fun q => q = b) W 1 (.slice (some ⟨b, 0, none⟩) l.length 8) l.length (l.map eI) := by
  refine ⟨_, 8, rfl, by omega, by unfold maxLen; omega, nofun, by simp, .inr ⟨b, 0, _, _, _, rfl, rfl, h, by simp, fun i hi => by simp⟩⟩
theorem bnd_newS : Bnd .new := ⟨fun n hn => by obtain rfl := List.eq_of_mem_replicate hn; exact ⟨by decide, by decide⟩, nofun, nofun⟩
def NewO (w : World) (e : Ending) (w' : World) : Prop := ∃ v, e = .returned v ∧ OwnV w' w.heap.size v .new ∧ Below w.heap.size w w'
section
attribute [local go_sem ↓] seal_make
set_option maxRecDepth 100000 in
set_option maxHeartbeats 1500000 in
theorem pnew_own (w : World) : Calls Tryz.prog 35 #[] w (NewO w) := by
  obtain ⟨w1, hw1⟩ : ∃ w1, w1 = w.alloc (.cells #[.slice none 0 0, .slice none 0 0, .slice none 0 0] 31) := ⟨_, rfl⟩
  have hb1 : Below w.heap.size w w1 := by rw [hw1]; exact kept_alloc _ _
  have hz1 : w1.heap.size = w.heap.size + 1 := by rw [hw1]; simp
  have hr1 : Blk w1 w.heap.size [.slice none 0 0, .slice none 0 0, .slice none 0 0] 31 := by rw [hw1]; exact Blk.new _ _ _
  obtain ⟨i0, q1, q2, q3, q4⟩ := info_parts infoI
  obtain ⟨w2, hr, hown, hgb⟩ := run_make_full (P := Tryz.prog) w1 w.heap.size 22 3 i0 _ 1 Tryz.underlying22 q1 q2 q3 .i64 .i64 8 (by rw [q4]; omega) (by unfold maxLen; omega) (by omega)
  have hr' : (MK 22 (.int .i64 8) (.int .i64 8)).run Tryz.prog w1 = .ok (.slice (some ⟨w1.heap.size, 0, none⟩) 8 8) w2 := hr
  rw [made8] at hown
  have hr2 : Blk w2 w.heap.size _ _ := hr1.keep (hgb.block _ hr1.lt (by simp))
  have hb2 : Below w.heap.size w w2 := hb1.trans ((Below.refl w.heap.size w1).grown hgb (by omega) (by simp))
  have y0 := hr2.cell 0
  have y1 := hr2.cell 1
  have y2 := hr2.cell 2
  have z0 := hr2.free 0
  have z1 := hr2.free 1
  have z2 := hr2.free 2
  simp at y0 y1 y2
  rw [hz1] at hr' hown
  obtain ⟨wf, hwf⟩ : ∃ wf, wf = ((w2.setCell ⟨w.heap.size, 0, none⟩ (.slice (some ⟨w.heap.size + 1, 0, none⟩) 8 8)).setCell ⟨w.heap.size, 1, none⟩ (.slice none 0 0)).setCell ⟨w.heap.size, 2, none⟩ (.slice none 0 0) := ⟨_, rfl⟩
  have e1 := hr2.set 0 (.slice (some ⟨w.heap.size + 1, 0, none⟩) 8 8)
  have e2 := e1.set 1 (.slice none 0 0)
  have e3 := e2.set 2 (.slice none 0 0)
  have o1 := own_setCell (i := 2) (own_setCell (i := 1) (own_setCell (i := 0) hown hr2 (by decide) (.slice (some ⟨w.heap.size + 1, 0, none⟩) 8 8)) e1 (by decide) (.slice none 0 0)) e2 (by decide) (.slice none 0 0)
  have hbf : Below w.heap.size w wf := by
    rw [hwf]
    exact ((hb2.setCell (p := ⟨w.heap.size, 0, none⟩) (Nat.le_refl _) _).setCell (p := ⟨w.heap.size, 1, none⟩) (Nat.le_refl _) _).setCell (p := ⟨w.heap.size, 2, none⟩) (Nat.le_refl _) _
  have hmf : OwnV wf w.heap.size (.agg #[.slice (some ⟨w.heap.size + 1, 0, none⟩) 8 8, .slice none 0 0, .slice none 0 0]) RMap.new := by
    rw [hwf]
    exact ⟨_, _, _, rfl, o1, World.ownsRow_nil _ _ _ _, World.ownsRow_nil _ _ _ _⟩
  rw [← hwf] at e3
  have q0 := e3.cell 0
  have q1' := e3.cell 1
  have q2' := e3.cell 2
  simp at q0 q1' q2'
  rw [hw1] at hr'
  have Hwf := Lib.hid hwf; have Hmf := Lib.hid hmf; have Hbf := Lib.hid hbf
  have Q0 := Lib.hid q0; have Q1 := Lib.hid q1'; have Q2 := Lib.hid q2'
  clear hb1 hz1 hr1 hw1 hr hown hgb hr2 hb2 e1 e2 e3 o1 hbf hmf hwf q0 q1' q2' q1 q2 q3 q4
  go_enter Tryz.func35, Tryz.ntmps35
  go_wp2_with fail
  rw [← Hwf.out]
  have q0 := Q0.out
  have q1 := Q1.out
  have q2 := Q2.out
  exact bodyPost_ret (v := .agg #[.slice (some ⟨w.heap.size + 1, 0, none⟩) 8 8, .slice none 0 0, .slice none 0 0]) (by simp [results, Tryz.results35, go_sem, q0, q1, q2]) rfl ⟨_, rfl, Hmf.out, Hbf.out⟩
end
set_option maxRecDepth 100000 in
set_option maxHeartbeats 8000000 in
theorem works_any (w : World) (hT : Tabs w) (h3 : 3 ≤ w.heap.size) :
    Calls Tryz.prog 21 #[] w fun e w' => e = .returned (.bool true) ∧ Below w.heap.size w w' := by
  have HTb := Lib.hid (show ∀ w', Below w.heap.size w w' → Tabs w' ∧ 3 ≤ w'.heap.size from fun w' hb => ⟨tabs_below hT h3 hb, Nat.le_trans h3 hb.size⟩)
  clear hT h3
  have HNe : (∀ x ∈ RMap.new.items, x.key.length ≤ 1000000) ∧ (∀ x ∈ RMap.new.gone, x.key.length ≤ 1000000) := ⟨nofun, nofun⟩
  have KN := Lib.hid (show ((∀ x ∈ RMap.new.items, x.key.length ≤ 1000000) ∧ (∀ x ∈ RMap.new.gone, x.key.length ≤ 1000000)) ∧ RMap.new.seen.length ≤ 1000000 ∧ RMap.new.items.length ≤ 1000000 ∧ RMap.new.gone.length ≤ 1000000 from ⟨HNe, by decide, by decide, by decide⟩)
  obtain ⟨X, hX⟩ : ∃ X, shX = X := ⟨_, rfl⟩
  obtain ⟨Y, hY⟩ : ∃ X, shY = X := ⟨_, rfl⟩
  obtain ⟨MA, hMA⟩ : ∃ X, shA = X := ⟨_, rfl⟩
  obtain ⟨MC, hMC⟩ : ∃ X, shC = X := ⟨_, rfl⟩
  have EX := Lib.hid sh_x; have EY := Lib.hid sh_y; have EA := Lib.hid sh_a; have EB := Lib.hid sh_b; have EC := Lib.hid sh_c; have EJ := Lib.hid sh_j; have ED := Lib.hid sh_d
  have KX := Lib.hid (sh_keys X (.inl hX.symm)); have KY := Lib.hid (sh_keys Y (.inr (.inl hY.symm)))
  have KA := Lib.hid (show ((∀ x ∈ MA.tell.items, x.key.length ≤ 1000000) ∧ (∀ x ∈ MA.tell.gone, x.key.length ≤ 1000000)) ∧ True by rw [← hMA]; exact ⟨(sh_keys shY (.inr (.inl rfl))).1, trivial⟩)
  have KC := Lib.hid (show ((∀ x ∈ MC.tell.items, x.key.length ≤ 1000000) ∧ (∀ x ∈ MC.tell.gone, x.key.length ≤ 1000000)) ∧ True by rw [← hMC]; exact ⟨(sh_keys shY (.inr (.inl rfl))).1, trivial⟩)
  rw [hX] at EX EY ED
  rw [hY] at EY EA EB EC ED
  rw [hMA] at EA EB
  rw [hMC] at EC EJ ED
  clear hX hY hMA hMC HNe
  have HW0 := Lib.hid (Below.refl w.heap.size w)
  have Hl0 := Lib.hid (Has.nil w)
  go_enter Tryz.func21, Tryz.ntmps21
  have HN := Lib.hid (pnew_any w)
  go_wp2_with fail
  refine HN.out.mono ?_
  rintro e w1 ⟨v1, rfl, hmn, hbn⟩
  obtain ⟨s11, s21, s31, rfl, -⟩ := id hmn
  have HW1 := Lib.hid (show Below w.heap.size w w1 from HW0.out.trans (hbn.mono HW0.out.size))
  have Hl1 := Lib.hid (Hl0.out.keep hbn)
  have Hm1 := Lib.hid (hmn.mono (G := fun q => q < w1.heap.size) fun q _ hlt => hlt)
  clear hmn hbn
  clear HN
  obtain ⟨wa2, hwa⟩ : ∃ q, q = w1.alloc (.cells #[.string ⟨sK.toArray⟩] 9) := ⟨_, rfl⟩
  have hba : Below w1.heap.size w1 wa2 := by rw [hwa]; exact kept_alloc _ _
  have hWa : Below w.heap.size w wa2 := HW1.out.trans (hba.mono HW1.out.size)
  have hra : Rows (fun q => q = w1.heap.size) wa2 1 (.slice (some ⟨w1.heap.size, 0, none⟩) 1 1) ([sK] : List RKey).length (([sK] : List RKey).map eS) := by rw [hwa]; exact rows_new w1 #[.string ⟨sK.toArray⟩] 9 1 rfl (by unfold maxLen; omega)
  have hU := puse_any wa2 (HTb.out _ hWa).1 (HTb.out _ hWa).2 _ _ .new ((Hm1.out).later hba (Nat.le_refl _)) KN.out.1.1 KN.out.1.2 KN.out.2.2.1 KN.out.2.2.2 0 _ _ [sK] hra (by decide) (by decide)
  rw [EX.out] at hU
  skip
  have HU := Lib.hid hU; have HWa2 := Lib.hid hWa; have Hla2 := Lib.hid (Hl1.out.keep hba); have Hwa2 := Lib.hid hwa
  clear hU hba hWa hra hwa
  go_wp2_with fail
  rw [← Hwa2.out]
  refine HU.out.mono ?_
  rintro e wm2 ⟨⟨r, rfl, ho, hbd⟩, hbm⟩
  obtain ⟨t1, t2, t3, rfl, ho⟩ := ho
  dsimp only at ho hbd ⊢
  obtain ⟨n12, m12, rfl⟩ := own_shape ho.seen
  obtain ⟨n22, m22, rfl⟩ := own_shape ho.items
  obtain ⟨n32, m32, rfl⟩ := own_shape ho.gone
  obtain ⟨w2, hw2⟩ : ∃ q, q = wm2.alloc (.cells #[.slice n12 X.seen.length m12, .slice n22 X.items.length m22, .slice n32 X.gone.length m32] 31) := ⟨_, rfl⟩
  have hk2 : Below wm2.heap.size wm2 w2 := by rw [hw2]; exact kept_alloc _ _
  have hbw : Below wa2.heap.size wa2 w2 := hbm.trans (hk2.mono hbm.size)
  have hmb : MB w2 wm2.heap.size X := ⟨_, _, _, _, _, _, by rw [hw2]; exact Blk.new _ _ _, (((ho.below hk2).map hbd).mono fun q _ hlt => hlt)⟩
  have Hl2 := Lib.hid (show Has ((wm2.heap.size, X) :: []) w2 from (Hla2.out.keep hbw).cons hmb)
  have HW2 := Lib.hid (show Below w.heap.size w w2 from HWa2.out.trans (hbw.mono HWa2.out.size))
  have Hw2 := Lib.hid hw2
  clear hk2 hbw hmb ho hbd hbm
  clear HU
  obtain ⟨s1X, e1X, s2X, e2X, s3X, e3X, hBX, hMX⟩ := Hl2.out.get wm2.heap.size X (by simp)
  obtain ⟨c0X, c1X, c2X⟩ := cell3 hBX
  have hzz : w2.heap.size = wm2.heap.size + 1 := by rw [Hw2.out]; simp
  obtain ⟨wa3, hwa⟩ : ∃ q, q = w2.alloc (.cells #[.string ⟨sK.toArray⟩] 9) := ⟨_, rfl⟩
  have hba : Below w2.heap.size w2 wa3 := by rw [hwa]; exact kept_alloc _ _
  have hWa : Below w.heap.size w wa3 := HW2.out.trans (hba.mono HW2.out.size)
  have hra : Rows (fun q => q = w2.heap.size) wa3 1 (.slice (some ⟨w2.heap.size, 0, none⟩) 1 1) ([sK] : List RKey).length (([sK] : List RKey).map eS) := by rw [hwa]; exact rows_new w2 #[.string ⟨sK.toArray⟩] 9 1 rfl (by unfold maxLen; omega)
  have hU := puse_any wa3 (HTb.out _ hWa).1 (HTb.out _ hWa).2 _ _ X (((show MapV _ _ _ X from ⟨_, _, _, rfl, hMX⟩)).later hba (Nat.le_refl _)) KX.out.1.1 KX.out.1.2 KX.out.2.2.1 KX.out.2.2.2 0 _ _ [sK] hra (by decide) (by decide)
  rw [EY.out] at hU
  rw [hzz] at hU; rw [Hw2.out] at c0X c1X c2X hwa; clear hBX hMX hzz
  have HU := Lib.hid hU; have HWa3 := Lib.hid hWa; have Hla3 := Lib.hid (Hl2.out.keep hba); have Hwa3 := Lib.hid hwa
  clear hU hba hWa hra hwa
  go_wp2_with fail
  rw [← Hwa3.out]
  refine HU.out.mono ?_
  rintro e wm3 ⟨⟨r, rfl, ho, hbd⟩, hbm⟩
  obtain ⟨t1, t2, t3, rfl, ho⟩ := ho
  dsimp only at ho hbd ⊢
  obtain ⟨n13, m13, rfl⟩ := own_shape ho.seen
  obtain ⟨n23, m23, rfl⟩ := own_shape ho.items
  obtain ⟨n33, m33, rfl⟩ := own_shape ho.gone
  obtain ⟨w3, hw3⟩ : ∃ q, q = wm3.alloc (.cells #[.slice n13 Y.seen.length m13, .slice n23 Y.items.length m23, .slice n33 Y.gone.length m33] 31) := ⟨_, rfl⟩
  have hk3 : Below wm3.heap.size wm3 w3 := by rw [hw3]; exact kept_alloc _ _
  have hbw : Below wa3.heap.size wa3 w3 := hbm.trans (hk3.mono hbm.size)
  have hmb : MB w3 wm3.heap.size Y := ⟨_, _, _, _, _, _, by rw [hw3]; exact Blk.new _ _ _, (((ho.below hk3).map hbd).mono fun q _ hlt => hlt)⟩
  have Hl3 := Lib.hid (show Has ((wm3.heap.size, Y) :: [(wm2.heap.size, X)]) w3 from (Hla3.out.keep hbw).cons hmb)
  have HW3 := Lib.hid (show Below w.heap.size w w3 from HWa3.out.trans (hbw.mono HWa3.out.size))
  have Hw3 := Lib.hid hw3
  clear hk3 hbw hmb ho hbd hbm
  clear HU
  clear c0X c1X c2X
  have Hs3 := Lib.hid (HasS.nil w3)
  clear hw2 hw3
  obtain ⟨s1A, e1A, s2A, e2A, s3A, e3A, hBA, hMA⟩ := Hl3.out.get wm3.heap.size Y (by simp)
  obtain ⟨c0A, c1A, c2A⟩ := cell3 hBA
  have pz0 : ∀ w', LaterT w3.heap.size 39 w3.drew w' → w'.cell? _ = _ := fun w' hh => laterTC c0A rfl hh
  have pz1 : ∀ w', LaterT w3.heap.size 39 w3.drew w' → w'.cell? _ = _ := fun w' hh => laterTC c1A rfl hh
  have pz2 : ∀ w', LaterT w3.heap.size 39 w3.drew w' → w'.cell? _ = _ := fun w' hh => laterTC c2A rfl hh
  have HMA := Lib.hid hMA
  clear hBA hMA c0A c1A c2A
  go_wp2_with fail
  rw [← Hw3.out]
  refine wp_region_fl (LaterT w3.heap.size 39) (FreshT w3.heap.size 39 5) [6] ordW3 60 (by kernel_rfl) (by kernel_rfl) (laterT_refl _ _) (laterT_trans _ _) (floats_of #[.int .i64 0, .slice none 0 0, .slice none 0 0, .slice none 0 0, .slice none 0 0] rfl (Nat.le_refl _) (fun j hj => ?_) (fun i j hi hj hne => ?_)) ?_
  · obtain rfl : j = 6 := by simpa using hj
    exact ⟨_, rfl, rfl, fun a W => by go_simp⟩
  · simp at hi hj
    omega
  unfold ordW3
  repeat (refine canF_yes (v := ?_) rfl (wanted_none rfl) (fun w' hC => ?_) (fun K hK => ?_); rotate_left; (focus (go_simp; (try simp (disch := omega) only [IntWalk.i64_in]); (try simp (disch := omega) only [IntWalk.u32_in]); (try simp (disch := omega) only [IntWalk.u8_in]); (try simp (disch := omega) only [IntWalk.i64_quo]); (try simp (disch := omega) only [IntWalk.rem_in]); first | done | exact rfl)); go_simp; (try simp (disch := omega) only [IntWalk.i64_in]); (try simp (disch := omega) only [IntWalk.u32_in]); (try simp (disch := omega) only [IntWalk.u8_in]); (try simp (disch := omega) only [IntWalk.i64_quo]); (try simp (disch := omega) only [IntWalk.rem_in]); refine hK _ ?_; clear hK K)
  refine canF_go rfl rfl (fun Wa hWa KK hK => ?_)
  go_simp
  have hba := hWa.belD rfl
  refine (none_any Wa).mono ?_
  rintro e wq6 ⟨vq6, rfl, rfl, hS6, hb6⟩
  refine ⟨_, rfl, LaterT.of_later hb6, hK _ _ ?_⟩
  clear hK KK
  go_simp
  refine canF_go rfl rfl (fun Wb hWb KK hK => ?_)
  go_simp
  have hb6' : Below w3.heap.size w3 wq6 := hba.trans (hb6.mono hba.size)
  have hbb : Below w3.heap.size w3 Wb := hb6'.trans (hWb.below hb6'.size)
  have hwb : Below w.heap.size w Wb := HW3.out.trans (hbb.mono HW3.out.size)
  have hN := rowsN8 (hWb.blk hS6 (by decide)) rfl
  have hU := send_any Wb (HTb.out _ hwb).1 (HTb.out _ hwb).2 _ _ 0 (.agg #[.slice s1A Y.seen.length e1A, .slice s2A Y.items.length e2A, .slice s3A Y.gone.length e3A]) Y ⟨_, _, _, rfl, HMA.out.keep (w' := Wb) fun q hq _ => hbb.block q hq⟩ KY.out.1.1 KY.out.1.2 (.slice (some ⟨Wa.heap.size, 0, none⟩) 8 8) no8 hN
  rw [EA.out] at hU
  refine hU.mono ?_
  rintro e wq7 ⟨⟨r1, rfl, ho, hbd⟩, hb7⟩
  refine ⟨_, rfl, LaterT.of_later hb7, hK _ _ ?_⟩
  clear hK KK hU pz0 pz1 pz2
  go_simp
  obtain ⟨t0, t1, t2, t3, rfl, ho⟩ := ho
  dsimp only at ho hbd
  obtain ⟨n0, m0, rfl⟩ := own_shape ho.seen
  obtain ⟨n1, m1, rfl⟩ := own_shape ho.tell.seen
  obtain ⟨n2, m2, rfl⟩ := own_shape ho.tell.items
  obtain ⟨n3, m3, rfl⟩ := own_shape ho.tell.gone
  have hb07 : Below w3.heap.size w3 wq7 := hbb.trans (hb7.mono hbb.size)
  have Hb07 := Lib.hid hb07; have Ho := Lib.hid ho; have Hbd := Lib.hid hbd
  clear hb07 ho hbd hb7 hN hwb hbb hb6' hb6 hS6 hba hWa hWb
  repeat (refine canF_yes (v := ?_) rfl (wanted_none rfl) (fun w' hC => ?_) (fun K hK => ?_); rotate_left; (focus (go_simp; (try simp (disch := omega) only [IntWalk.i64_in]); (try simp (disch := omega) only [IntWalk.u32_in]); (try simp (disch := omega) only [IntWalk.u8_in]); (try simp (disch := omega) only [IntWalk.i64_quo]); (try simp (disch := omega) only [IntWalk.rem_in]); first | done | exact rfl)); go_simp; (try simp (disch := omega) only [IntWalk.i64_in]); (try simp (disch := omega) only [IntWalk.u32_in]); (try simp (disch := omega) only [IntWalk.u8_in]); (try simp (disch := omega) only [IntWalk.i64_quo]); (try simp (disch := omega) only [IntWalk.rem_in]); refine hK _ ?_; clear hK K)
  refine canF_float rfl (fun vO Wd hWd hZ hU KK hK => ?_)
  obtain ⟨Oa, LO, rfl, hO1, hO2, hO3⟩ := hZ
  refine hK _ _ ?_
  clear hK KK hU
  go_simp
  obtain ⟨x0, x1, x2, x3, x4, rfl⟩ : ∃ x0 x1 x2 x3 x4, LO = [x0, x1, x2, x3, x4] := by
    match LO, hO3 with
    | [x0, x1, x2, x3, x4], _ => exact ⟨x0, x1, x2, x3, x4, rfl⟩
  have hbd' : Below w3.heap.size w3 Wd := Hb07.out.trans (hWd.below Hb07.out.size)
  obtain ⟨w4, hw8, hblk8, hb8⟩ := fin5 hO2 hbd' hO1 (.int .i64 MA.frm) (.slice n0 MA.seen.length m0) (.slice n1 MA.tell.seen.length m1) (.slice n2 MA.tell.items.length m2) (.slice n3 MA.tell.gone.length m3)
  have hl8 : LaterT w3.heap.size 39 Wd w4 := by
    rw [hw8]
    exact laterT_trans _ _ _ _ _ (laterT_trans _ _ _ _ _ (laterT_trans _ _ _ _ _ (laterT_trans _ _ _ _ _ (LaterT.set hO2 hO1 0 _) (LaterT.set (hO2.set 0 _) hO1 1 _)) (LaterT.set ((hO2.set 0 _).set 1 _) hO1 2 _)) (LaterT.set (((hO2.set 0 _).set 1 _).set 2 _) hO1 3 _)) (LaterT.set ((((hO2.set 0 _).set 1 _).set 2 _).set 3 _) hO1 4 _)
  have ho8 : OwnMsg w4 0 (.slice n0 MA.seen.length m0) (.slice n1 MA.tell.seen.length m1) (.slice n2 MA.tell.items.length m2) (.slice n3 MA.tell.gone.length m3) MA :=
    ⟨own_base (hl8.own (hWd.own Ho.out.seen (by decide)) (by decide)) (Nat.zero_le _), own_base (hl8.own (hWd.own Ho.out.tell.seen (by decide)) (by decide)) (Nat.zero_le _), own_base (hl8.own (hWd.own Ho.out.tell.items (by decide)) (by decide)) (Nat.zero_le _), own_base (hl8.own (hWd.own Ho.out.tell.gone (by decide)) (by decide)) (Nat.zero_le _)⟩
  have hmb : MBS w4 Oa MA := ⟨_, _, _, _, _, _, _, _, hblk8, (ho8.msg Hbd.out).mono fun q _ hlt => hlt⟩
  obtain ⟨y0, y1, y2, y3, y4⟩ := cell5 hO2
  have z0 := hO2.free 0
  have z1 := hO2.free 1
  have z2 := hO2.free 2
  have z3 := hO2.free 3
  have z4 := hO2.free 4
  have HMBOa := Lib.hid hmb; have HBw4 := Lib.hid hb8; have Hl8 := Lib.hid hl8; have Hw8 := Lib.hid hw8
  clear hmb hb8 hl8 hw8 hblk8 hbd' hWd hO2 hO3 Ho Hbd Hb07 ho8
  refine canF_fixed rfl rfl (fun KK hK => ?_)
  go_simp
  rw [← Hw8.out]
  refine ⟨Hl8.out, hK _ _ ?_⟩
  clear hK KK y0 y1 y2 y3 y4 z0 z1 z2 z3 z4 Hl8 Hw8 hO1
  go_simp
  repeat (refine canF_yes (v := ?_) rfl (wanted_none rfl) (fun w' hC => ?_) (fun K hK => ?_); rotate_left; (focus (go_simp; (try simp (disch := omega) only [IntWalk.i64_in]); (try simp (disch := omega) only [IntWalk.u32_in]); (try simp (disch := omega) only [IntWalk.u8_in]); (try simp (disch := omega) only [IntWalk.i64_quo]); (try simp (disch := omega) only [IntWalk.rem_in]); first | done | exact rfl)); go_simp; (try simp (disch := omega) only [IntWalk.i64_in]); (try simp (disch := omega) only [IntWalk.u32_in]); (try simp (disch := omega) only [IntWalk.u8_in]); (try simp (disch := omega) only [IntWalk.i64_quo]); (try simp (disch := omega) only [IntWalk.rem_in]); refine hK _ ?_; clear hK K)
  refine canF_nil ?_
  have Hl4 := Lib.hid (Hl3.out.keep HBw4.out)
  have Hs4 := Lib.hid (show HasS ((Oa, MA) :: []) w4 from (Hs3.out.keep HBw4.out).cons HMBOa.out)
  have HW4 := Lib.hid (show Below w.heap.size w w4 from HW3.out.trans (HBw4.out.mono HW3.out.size))
  clear HMA
  obtain ⟨s0X, e0X, s1X, e1X, s2X, e2X, s3X, e3X, hBX, hMX⟩ := Hs4.out.get Oa MA (by simp)
  obtain ⟨c0X, c1X, c2X, c3X, c4X⟩ := cell5 hBX
  have pz0 : ∀ w', LaterT w4.heap.size 31 w4.drew w' → w'.cell? _ = _ := fun w' hh => laterTC c0X rfl hh
  have pz1 : ∀ w', LaterT w4.heap.size 31 w4.drew w' → w'.cell? _ = _ := fun w' hh => laterTC c1X rfl hh
  have pz2 : ∀ w', LaterT w4.heap.size 31 w4.drew w' → w'.cell? _ = _ := fun w' hh => laterTC c2X rfl hh
  have pz3 : ∀ w', LaterT w4.heap.size 31 w4.drew w' → w'.cell? _ = _ := fun w' hh => laterTC c3X rfl hh
  have pz4 : ∀ w', LaterT w4.heap.size 31 w4.drew w' → w'.cell? _ = _ := fun w' hh => laterTC c4X rfl hh
  have HMX := Lib.hid hMX
  clear hBX hMX c0X c1X c2X c3X c4X
  go_wp2_with fail
  skip
  refine wp_region_fl (LaterT w4.heap.size 31) (FreshT w4.heap.size 31 3) [6] ordW4 60 (by kernel_rfl) (by kernel_rfl) (laterT_refl _ _) (laterT_trans _ _) (floats_of #[.slice none 0 0, .slice none 0 0, .slice none 0 0] rfl (Nat.le_refl _) (fun j hj => ?_) (fun i j hi hj hne => ?_)) ?_
  · obtain rfl : j = 6 := by simpa using hj
    exact ⟨_, rfl, rfl, fun a W => by go_simp⟩
  · simp at hi hj
    omega
  unfold ordW4
  repeat (refine canF_yes (v := ?_) rfl (wanted_none rfl) (fun w' hC => ?_) (fun K hK => ?_); rotate_left; (focus (go_simp; (try simp (disch := omega) only [IntWalk.i64_in]); (try simp (disch := omega) only [IntWalk.u32_in]); (try simp (disch := omega) only [IntWalk.u8_in]); (try simp (disch := omega) only [IntWalk.i64_quo]); (try simp (disch := omega) only [IntWalk.rem_in]); first | done | exact rfl)); go_simp; (try simp (disch := omega) only [IntWalk.i64_in]); (try simp (disch := omega) only [IntWalk.u32_in]); (try simp (disch := omega) only [IntWalk.u8_in]); (try simp (disch := omega) only [IntWalk.i64_quo]); (try simp (disch := omega) only [IntWalk.rem_in]); refine hK _ ?_; clear hK K)
  refine canF_go rfl rfl (fun Wa hWa KK hK => ?_)
  go_simp
  have hba := hWa.belD rfl
  refine (pnew_own Wa).mono ?_
  rintro e wq6 ⟨vq6, rfl, ⟨v1, v2, v3, rfl, hO6⟩, hb6⟩
  obtain ⟨f1, g1, rfl⟩ := own_shape hO6.seen
  obtain ⟨f2, g2, rfl⟩ := own_shape hO6.items
  obtain ⟨f3, g3, rfl⟩ := own_shape hO6.gone
  refine ⟨_, rfl, LaterT.of_later hb6, hK _ _ ?_⟩
  clear hK KK
  go_simp
  refine canF_go rfl rfl (fun Wb hWb KK hK => ?_)
  go_simp
  have hb6' : Below w4.heap.size w4 wq6 := hba.trans (hb6.mono hba.size)
  have hbb : Below w4.heap.size w4 Wb := hb6'.trans (hWb.below hb6'.size)
  have hwb : Below w.heap.size w Wb := HW4.out.trans (hbb.mono HW4.out.size)
  have hN : OwnIn Wb Wa.heap.size (.slice f1 RMap.new.seen.length g1) (.slice f2 RMap.new.items.length g2) (.slice f3 RMap.new.gone.length g3) .new := ⟨hWb.own hO6.seen (by decide), hWb.own hO6.items (by decide), hWb.own hO6.gone (by decide)⟩
  have hU := recv_any Wb (HTb.out _ hwb).1 (HTb.out _ hwb).2 _ _ (.agg #[.slice f1 RMap.new.seen.length g1, .slice f2 RMap.new.items.length g2, .slice f3 RMap.new.gone.length g3]) .new ⟨_, _, _, rfl, hN.map bnd_newS⟩ nofun nofun (.agg #[.int .i64 MA.frm, .slice s0X MA.seen.length e0X, .slice s1X MA.tell.seen.length e1X, .slice s2X MA.tell.items.length e2X, .slice s3X MA.tell.gone.length e3X]) MA ⟨_, _, _, _, rfl, HMX.out.keep (w' := Wb) fun q hq _ => hbb.block q hq⟩ KA.out.1.1 KA.out.1.2
  rw [EB.out] at hU
  refine hU.mono ?_
  rintro e wq7 ⟨⟨r1, rfl, ho, hbd⟩, hb7⟩
  refine ⟨_, rfl, LaterT.of_later hb7, hK _ _ ?_⟩
  clear hK KK hU pz0 pz1 pz2 pz3 pz4
  go_simp
  obtain ⟨t1, t2, t3, rfl, ho⟩ := ho
  dsimp only at ho hbd
  obtain ⟨n1, m1, rfl⟩ := own_shape ho.seen
  obtain ⟨n2, m2, rfl⟩ := own_shape ho.items
  obtain ⟨n3, m3, rfl⟩ := own_shape ho.gone
  have hb07 : Below w4.heap.size w4 wq7 := hbb.trans (hb7.mono hbb.size)
  have Hb07 := Lib.hid hb07; have Ho := Lib.hid ho; have Hbd := Lib.hid hbd
  clear hb07 ho hbd hb7 hN hwb hbb hb6' hb6 hO6 hba hWa hWb
  repeat (refine canF_yes (v := ?_) rfl (wanted_none rfl) (fun w' hC => ?_) (fun K hK => ?_); rotate_left; (focus (go_simp; (try simp (disch := omega) only [IntWalk.i64_in]); (try simp (disch := omega) only [IntWalk.u32_in]); (try simp (disch := omega) only [IntWalk.u8_in]); (try simp (disch := omega) only [IntWalk.i64_quo]); (try simp (disch := omega) only [IntWalk.rem_in]); first | done | exact rfl)); go_simp; (try simp (disch := omega) only [IntWalk.i64_in]); (try simp (disch := omega) only [IntWalk.u32_in]); (try simp (disch := omega) only [IntWalk.u8_in]); (try simp (disch := omega) only [IntWalk.i64_quo]); (try simp (disch := omega) only [IntWalk.rem_in]); refine hK _ ?_; clear hK K)
  refine canF_float rfl (fun vO Wd hWd hZ hU KK hK => ?_)
  obtain ⟨Ob, LO, rfl, hO1, hO2, hO3⟩ := hZ
  refine hK _ _ ?_
  clear hK KK hU
  go_simp
  obtain ⟨x0, x1, x2, rfl⟩ : ∃ x0 x1 x2, LO = [x0, x1, x2] := by
    match LO, hO3 with
    | [x0, x1, x2], _ => exact ⟨x0, x1, x2, rfl⟩
  have hbd' : Below w4.heap.size w4 Wd := Hb07.out.trans (hWd.below Hb07.out.size)
  obtain ⟨w5, hw8, hblk8, hb8⟩ := fin3 hO2 hbd' hO1 (.slice n1 Y.seen.length m1) (.slice n2 Y.items.length m2) (.slice n3 Y.gone.length m3)
  have hl8 : LaterT w4.heap.size 31 Wd w5 := by
    rw [hw8]
    exact laterT_trans _ _ _ _ _ (laterT_trans _ _ _ _ _ (LaterT.set hO2 hO1 0 _) (LaterT.set (hO2.set 0 _) hO1 1 _)) (LaterT.set ((hO2.set 0 _).set 1 _) hO1 2 _)
  have ho8 : OwnIn w5 0 (.slice n1 Y.seen.length m1) (.slice n2 Y.items.length m2) (.slice n3 Y.gone.length m3) Y :=
    ⟨own_base (hl8.own (hWd.own Ho.out.seen (by decide)) (by decide)) (Nat.zero_le _), own_base (hl8.own (hWd.own Ho.out.items (by decide)) (by decide)) (Nat.zero_le _), own_base (hl8.own (hWd.own Ho.out.gone (by decide)) (by decide)) (Nat.zero_le _)⟩
  have hmb : MB w5 Ob Y := ⟨_, _, _, _, _, _, hblk8, (ho8.map Hbd.out).mono fun q _ hlt => hlt⟩
  obtain ⟨y0, y1, y2⟩ := cell3 hO2
  have z0 := hO2.free 0
  have z1 := hO2.free 1
  have z2 := hO2.free 2
  have HMBOb := Lib.hid hmb; have HBw5 := Lib.hid hb8; have Hl8 := Lib.hid hl8; have Hw8 := Lib.hid hw8
  clear hmb hb8 hl8 hw8 hblk8 hbd' hWd hO2 hO3 Ho Hbd Hb07 ho8
  refine canF_fixed rfl rfl (fun KK hK => ?_)
  go_simp
  rw [← Hw8.out]
  refine ⟨Hl8.out, hK _ _ ?_⟩
  clear hK KK y0 y1 y2 z0 z1 z2 Hl8 Hw8 hO1
  go_simp
  repeat (refine canF_yes (v := ?_) rfl (wanted_none rfl) (fun w' hC => ?_) (fun K hK => ?_); rotate_left; (focus (go_simp; (try simp (disch := omega) only [IntWalk.i64_in]); (try simp (disch := omega) only [IntWalk.u32_in]); (try simp (disch := omega) only [IntWalk.u8_in]); (try simp (disch := omega) only [IntWalk.i64_quo]); (try simp (disch := omega) only [IntWalk.rem_in]); first | done | exact rfl)); go_simp; (try simp (disch := omega) only [IntWalk.i64_in]); (try simp (disch := omega) only [IntWalk.u32_in]); (try simp (disch := omega) only [IntWalk.u8_in]); (try simp (disch := omega) only [IntWalk.i64_quo]); (try simp (disch := omega) only [IntWalk.rem_in]); refine hK _ ?_; clear hK K)
  refine canF_nil ?_
  have Hs5 := Lib.hid (Hs4.out.keep HBw5.out)
  have Hl5 := Lib.hid (show Has ((Ob, Y) :: [(wm3.heap.size, Y), (wm2.heap.size, X)]) w5 from (Hl4.out.keep HBw5.out).cons HMBOb.out)
  have HW5 := Lib.hid (show Below w.heap.size w w5 from HW4.out.trans (HBw5.out.mono HW4.out.size))
  clear HMX
  obtain ⟨s1A, e1A, s2A, e2A, s3A, e3A, hBA, hMA⟩ := Hl5.out.get wm3.heap.size Y (by simp)
  obtain ⟨c0A, c1A, c2A⟩ := cell3 hBA
  obtain ⟨wa6, hwa⟩ : ∃ q, q = w5.alloc (.cells #[.int .i64 1, .int .i64 0, .int .i64 0, .int .i64 0, .int .i64 0, .int .i64 0, .int .i64 0, .int .i64 0] 3) := ⟨_, rfl⟩
  have hba : Below w5.heap.size w5 wa6 := by rw [hwa]; exact kept_alloc _ _
  have hWa : Below w.heap.size w wa6 := HW5.out.trans (hba.mono HW5.out.size)
  have hra : Rows (fun q => q = w5.heap.size) wa6 1 (.slice (some ⟨w5.heap.size, 0, none⟩) 8 8) one8.length (one8.map eI) := by rw [hwa]; exact rows_new w5 #[.int .i64 1, .int .i64 0, .int .i64 0, .int .i64 0, .int .i64 0, .int .i64 0, .int .i64 0, .int .i64 0] 3 8 rfl (by unfold maxLen; omega)
  have hU := send_any wa6 (HTb.out _ hWa).1 (HTb.out _ hWa).2 _ _ 0 (.agg #[.slice s1A Y.seen.length e1A, .slice s2A Y.items.length e2A, .slice s3A Y.gone.length e3A]) Y ⟨_, _, _, rfl, hMA.keep (w' := wa6) fun q hq _ => hba.block q hq⟩ KY.out.1.1 KY.out.1.2 (.slice (some ⟨w5.heap.size, 0, none⟩) 8 8) one8 hra
  rw [EC.out] at hU
  have HU := Lib.hid hU; have HWa := Lib.hid hWa; have Hla := Lib.hid (Hl5.out.keep hba); have Hsa := Lib.hid (Hs5.out.keep hba); have Hwa := Lib.hid hwa
  clear hU hba hWa hra hwa hBA hMA
  go_wp2_with fail
  rw [← Hwa.out]
  refine HU.out.mono ?_
  rintro e wm6 ⟨⟨r, rfl, ho, hbd⟩, hbm⟩
  obtain ⟨t0, t1, t2, t3, rfl, ho⟩ := ho
  dsimp only at ho hbd ⊢
  obtain ⟨n06, m06, rfl⟩ := own_shape ho.seen
  obtain ⟨n16, m16, rfl⟩ := own_shape ho.tell.seen
  obtain ⟨n26, m26, rfl⟩ := own_shape ho.tell.items
  obtain ⟨n36, m36, rfl⟩ := own_shape ho.tell.gone
  obtain ⟨w6, hw6⟩ : ∃ q, q = wm6.alloc (.cells #[.int .i64 MC.frm, .slice n06 MC.seen.length m06, .slice n16 MC.tell.seen.length m16, .slice n26 MC.tell.items.length m26, .slice n36 MC.tell.gone.length m36] 39) := ⟨_, rfl⟩
  have hk6 : Below wm6.heap.size wm6 w6 := by rw [hw6]; exact kept_alloc _ _
  have hbw : Below wa6.heap.size wa6 w6 := hbm.trans (hk6.mono hbm.size)
  have hmb : MBS w6 wm6.heap.size MC := ⟨_, _, _, _, _, _, _, _, by rw [hw6]; exact Blk.new _ _ _, (((ho.below hk6).msg hbd).mono fun q _ hlt => hlt)⟩
  have Hl6 := Lib.hid (Hla.out.keep hbw)
  have Hs6 := Lib.hid (show HasS ((wm6.heap.size, MC) :: [(Oa, MA)]) w6 from (Hsa.out.keep hbw).cons hmb)
  have HW6 := Lib.hid (show Below w.heap.size w w6 from HWa.out.trans (hbw.mono HWa.out.size))
  have Hw6 := Lib.hid hw6
  clear hk6 hbw hmb ho hbd hbm hw6
  clear HU c0A c1A c2A
  obtain ⟨s0X, e0X, s1X, e1X, s2X, e2X, s3X, e3X, hBX, hMX⟩ := Hs6.out.get wm6.heap.size MC (by simp)
  obtain ⟨c0X, c1X, c2X, c3X, c4X⟩ := cell5 hBX
  have pz0 : ∀ w', LaterT w6.heap.size 31 w6.drew w' → w'.cell? _ = _ := fun w' hh => laterTC c0X rfl hh
  have pz1 : ∀ w', LaterT w6.heap.size 31 w6.drew w' → w'.cell? _ = _ := fun w' hh => laterTC c1X rfl hh
  have pz2 : ∀ w', LaterT w6.heap.size 31 w6.drew w' → w'.cell? _ = _ := fun w' hh => laterTC c2X rfl hh
  have pz3 : ∀ w', LaterT w6.heap.size 31 w6.drew w' → w'.cell? _ = _ := fun w' hh => laterTC c3X rfl hh
  have pz4 : ∀ w', LaterT w6.heap.size 31 w6.drew w' → w'.cell? _ = _ := fun w' hh => laterTC c4X rfl hh
  have HMX := Lib.hid hMX
  clear hBX hMX c0X c1X c2X c3X c4X
  go_wp2_with fail
  rw [← Hw6.out]
  refine wp_region_fl (LaterT w6.heap.size 31) (FreshT w6.heap.size 31 3) [6] ordW4 60 (by kernel_rfl) (by kernel_rfl) (laterT_refl _ _) (laterT_trans _ _) (floats_of #[.slice none 0 0, .slice none 0 0, .slice none 0 0] rfl (Nat.le_refl _) (fun j hj => ?_) (fun i j hi hj hne => ?_)) ?_
  · obtain rfl : j = 6 := by simpa using hj
    exact ⟨_, rfl, rfl, fun a W => by go_simp⟩
  · simp at hi hj
    omega
  unfold ordW4
  repeat (refine canF_yes (v := ?_) rfl (wanted_none rfl) (fun w' hC => ?_) (fun K hK => ?_); rotate_left; (focus (go_simp; (try simp (disch := omega) only [IntWalk.i64_in]); (try simp (disch := omega) only [IntWalk.u32_in]); (try simp (disch := omega) only [IntWalk.u8_in]); (try simp (disch := omega) only [IntWalk.i64_quo]); (try simp (disch := omega) only [IntWalk.rem_in]); first | done | exact rfl)); go_simp; (try simp (disch := omega) only [IntWalk.i64_in]); (try simp (disch := omega) only [IntWalk.u32_in]); (try simp (disch := omega) only [IntWalk.u8_in]); (try simp (disch := omega) only [IntWalk.i64_quo]); (try simp (disch := omega) only [IntWalk.rem_in]); refine hK _ ?_; clear hK K)
  refine canF_go rfl rfl (fun Wa hWa KK hK => ?_)
  go_simp
  have hba := hWa.belD rfl
  refine (pnew_own Wa).mono ?_
  rintro e wq6 ⟨vq6, rfl, ⟨v1, v2, v3, rfl, hO6⟩, hb6⟩
  obtain ⟨f1, g1, rfl⟩ := own_shape hO6.seen
  obtain ⟨f2, g2, rfl⟩ := own_shape hO6.items
  obtain ⟨f3, g3, rfl⟩ := own_shape hO6.gone
  refine ⟨_, rfl, LaterT.of_later hb6, hK _ _ ?_⟩
  clear hK KK
  go_simp
  refine canF_go rfl rfl (fun Wb hWb KK hK => ?_)
  go_simp
  have hb6' : Below w6.heap.size w6 wq6 := hba.trans (hb6.mono hba.size)
  have hbb : Below w6.heap.size w6 Wb := hb6'.trans (hWb.below hb6'.size)
  have hwb : Below w.heap.size w Wb := HW6.out.trans (hbb.mono HW6.out.size)
  have hN : OwnIn Wb Wa.heap.size (.slice f1 RMap.new.seen.length g1) (.slice f2 RMap.new.items.length g2) (.slice f3 RMap.new.gone.length g3) .new := ⟨hWb.own hO6.seen (by decide), hWb.own hO6.items (by decide), hWb.own hO6.gone (by decide)⟩
  have hU := recv_any Wb (HTb.out _ hwb).1 (HTb.out _ hwb).2 _ _ (.agg #[.slice f1 RMap.new.seen.length g1, .slice f2 RMap.new.items.length g2, .slice f3 RMap.new.gone.length g3]) .new ⟨_, _, _, rfl, hN.map bnd_newS⟩ nofun nofun (.agg #[.int .i64 MC.frm, .slice s0X MC.seen.length e0X, .slice s1X MC.tell.seen.length e1X, .slice s2X MC.tell.items.length e2X, .slice s3X MC.tell.gone.length e3X]) MC ⟨_, _, _, _, rfl, HMX.out.keep (w' := Wb) fun q hq _ => hbb.block q hq⟩ KC.out.1.1 KC.out.1.2
  rw [EJ.out] at hU
  refine hU.mono ?_
  rintro e wq7 ⟨⟨r1, rfl, ho, hbd⟩, hb7⟩
  refine ⟨_, rfl, LaterT.of_later hb7, hK _ _ ?_⟩
  clear hK KK hU pz0 pz1 pz2 pz3 pz4
  go_simp
  obtain ⟨t1, t2, t3, rfl, ho⟩ := ho
  dsimp only at ho hbd
  obtain ⟨n1, m1, rfl⟩ := own_shape ho.seen
  obtain ⟨n2, m2, rfl⟩ := own_shape ho.items
  obtain ⟨n3, m3, rfl⟩ := own_shape ho.gone
  have hb07 : Below w6.heap.size w6 wq7 := hbb.trans (hb7.mono hbb.size)
  have Hb07 := Lib.hid hb07; have Ho := Lib.hid ho; have Hbd := Lib.hid hbd
  clear hb07 ho hbd hb7 hN hwb hbb hb6' hb6 hO6 hba hWa hWb
  repeat (refine canF_yes (v := ?_) rfl (wanted_none rfl) (fun w' hC => ?_) (fun K hK => ?_); rotate_left; (focus (go_simp; (try simp (disch := omega) only [IntWalk.i64_in]); (try simp (disch := omega) only [IntWalk.u32_in]); (try simp (disch := omega) only [IntWalk.u8_in]); (try simp (disch := omega) only [IntWalk.i64_quo]); (try simp (disch := omega) only [IntWalk.rem_in]); first | done | exact rfl)); go_simp; (try simp (disch := omega) only [IntWalk.i64_in]); (try simp (disch := omega) only [IntWalk.u32_in]); (try simp (disch := omega) only [IntWalk.u8_in]); (try simp (disch := omega) only [IntWalk.i64_quo]); (try simp (disch := omega) only [IntWalk.rem_in]); refine hK _ ?_; clear hK K)
  refine canF_float rfl (fun vO Wd hWd hZ hU KK hK => ?_)
  obtain ⟨Oe, LO, rfl, hO1, hO2, hO3⟩ := hZ
  refine hK _ _ ?_
  clear hK KK hU
  go_simp
  obtain ⟨x0, x1, x2, rfl⟩ : ∃ x0 x1 x2, LO = [x0, x1, x2] := by
    match LO, hO3 with
    | [x0, x1, x2], _ => exact ⟨x0, x1, x2, rfl⟩
  have hbd' : Below w6.heap.size w6 Wd := Hb07.out.trans (hWd.below Hb07.out.size)
  obtain ⟨w7, hw8, hblk8, hb8⟩ := fin3 hO2 hbd' hO1 (.slice n1 RMap.empty.seen.length m1) (.slice n2 RMap.empty.items.length m2) (.slice n3 RMap.empty.gone.length m3)
  have hl8 : LaterT w6.heap.size 31 Wd w7 := by
    rw [hw8]
    exact laterT_trans _ _ _ _ _ (laterT_trans _ _ _ _ _ (LaterT.set hO2 hO1 0 _) (LaterT.set (hO2.set 0 _) hO1 1 _)) (LaterT.set ((hO2.set 0 _).set 1 _) hO1 2 _)
  have ho8 : OwnIn w7 0 (.slice n1 RMap.empty.seen.length m1) (.slice n2 RMap.empty.items.length m2) (.slice n3 RMap.empty.gone.length m3) RMap.empty :=
    ⟨own_base (hl8.own (hWd.own Ho.out.seen (by decide)) (by decide)) (Nat.zero_le _), own_base (hl8.own (hWd.own Ho.out.items (by decide)) (by decide)) (Nat.zero_le _), own_base (hl8.own (hWd.own Ho.out.gone (by decide)) (by decide)) (Nat.zero_le _)⟩
  have hmb : MB w7 Oe RMap.empty := ⟨_, _, _, _, _, _, hblk8, (ho8.map Hbd.out).mono fun q _ hlt => hlt⟩
  obtain ⟨y0, y1, y2⟩ := cell3 hO2
  have z0 := hO2.free 0
  have z1 := hO2.free 1
  have z2 := hO2.free 2
  have HMBOe := Lib.hid hmb; have HBw7 := Lib.hid hb8; have Hl8 := Lib.hid hl8; have Hw8 := Lib.hid hw8
  clear hmb hb8 hl8 hw8 hblk8 hbd' hWd hO2 hO3 Ho Hbd Hb07 ho8
  refine canF_fixed rfl rfl (fun KK hK => ?_)
  go_simp
  rw [← Hw8.out]
  refine ⟨Hl8.out, hK _ _ ?_⟩
  clear hK KK y0 y1 y2 z0 z1 z2 Hl8 Hw8 hO1
  go_simp
  repeat (refine canF_yes (v := ?_) rfl (wanted_none rfl) (fun w' hC => ?_) (fun K hK => ?_); rotate_left; (focus (go_simp; (try simp (disch := omega) only [IntWalk.i64_in]); (try simp (disch := omega) only [IntWalk.u32_in]); (try simp (disch := omega) only [IntWalk.u8_in]); (try simp (disch := omega) only [IntWalk.i64_quo]); (try simp (disch := omega) only [IntWalk.rem_in]); first | done | exact rfl)); go_simp; (try simp (disch := omega) only [IntWalk.i64_in]); (try simp (disch := omega) only [IntWalk.u32_in]); (try simp (disch := omega) only [IntWalk.u8_in]); (try simp (disch := omega) only [IntWalk.i64_quo]); (try simp (disch := omega) only [IntWalk.rem_in]); refine hK _ ?_; clear hK K)
  refine canF_nil ?_
  have Hs7 := Lib.hid (Hs6.out.keep HBw7.out)
  have Hl7 := Lib.hid (show Has ((Oe, RMap.empty) :: [(Ob, Y), (wm3.heap.size, Y), (wm2.heap.size, X)]) w7 from (Hl6.out.keep HBw7.out).cons HMBOe.out)
  have HW7 := Lib.hid (show Below w.heap.size w w7 from HW6.out.trans (HBw7.out.mono HW6.out.size))
  clear HMX
  obtain ⟨s1A, e1A, s2A, e2A, s3A, e3A, hBA, hMA⟩ := Hl7.out.get wm2.heap.size X (by simp)
  obtain ⟨c0A, c1A, c2A⟩ := cell3 hBA
  obtain ⟨s0X, e0X, s1X, e1X, s2X, e2X, s3X, e3X, hBX, hMX⟩ := Hs7.out.get wm6.heap.size MC (by simp)
  obtain ⟨c0X, c1X, c2X, c3X, c4X⟩ := cell5 hBX
  have hU := recv_any w7 (HTb.out _ HW7.out).1 (HTb.out _ HW7.out).2 _ _ (.agg #[.slice s1A X.seen.length e1A, .slice s2A X.items.length e2A, .slice s3A X.gone.length e3A]) X ⟨_, _, _, rfl, hMA⟩ KX.out.1.1 KX.out.1.2 (.agg #[.int .i64 MC.frm, .slice s0X MC.seen.length e0X, .slice s1X MC.tell.seen.length e1X, .slice s2X MC.tell.items.length e2X, .slice s3X MC.tell.gone.length e3X]) MC ⟨_, _, _, _, rfl, hMX⟩ KC.out.1.1 KC.out.1.2
  rw [ED.out] at hU
  have HU := Lib.hid hU
  clear hU hBA hMA hBX hMX
  go_wp2_with fail
  refine HU.out.mono ?_
  rintro e wm8 ⟨⟨r, rfl, ho, hbd⟩, hbm⟩
  obtain ⟨t1, t2, t3, rfl, ho⟩ := ho
  dsimp only at ho hbd ⊢
  obtain ⟨n18, m18, rfl⟩ := own_shape ho.seen
  obtain ⟨n28, m28, rfl⟩ := own_shape ho.items
  obtain ⟨n38, m38, rfl⟩ := own_shape ho.gone
  obtain ⟨w8, hw8⟩ : ∃ q, q = wm8.alloc (.cells #[.slice n18 Y.seen.length m18, .slice n28 Y.items.length m28, .slice n38 Y.gone.length m38] 31) := ⟨_, rfl⟩
  have hk8 : Below wm8.heap.size wm8 w8 := by rw [hw8]; exact kept_alloc _ _
  have hbw : Below w7.heap.size w7 w8 := hbm.trans (hk8.mono hbm.size)
  have hmb : MB w8 wm8.heap.size Y := ⟨_, _, _, _, _, _, by rw [hw8]; exact Blk.new _ _ _, (((ho.below hk8).map hbd).mono fun q _ hlt => hlt)⟩
  have Hl8 := Lib.hid (show Has ((wm8.heap.size, Y) :: [(Oe, RMap.empty), (Ob, Y), (wm3.heap.size, Y), (wm2.heap.size, X)]) w8 from (Hl7.out.keep hbw).cons hmb)
  have HW8 := Lib.hid (show Below w.heap.size w w8 from HW7.out.trans (hbw.mono HW7.out.size))
  have Hw8 := Lib.hid hw8
  clear hk8 hbw hmb ho hbd hbm
  clear HU c0A c1A c2A c0X c1X c2X c3X c4X hw8
  obtain ⟨s1B, e1B, s2B, e2B, s3B, e3B, hBB, hMB⟩ := Hl8.out.get Ob Y (by simp)
  obtain ⟨c0B, c1B, c2B⟩ := cell3 hBB
  obtain ⟨s1Y, e1Y, s2Y, e2Y, s3Y, e3Y, hBY, hMY⟩ := Hl8.out.get wm3.heap.size Y (by simp)
  obtain ⟨c0Y, c1Y, c2Y⟩ := cell3 hBY
  obtain ⟨s1D, e1D, s2D, e2D, s3D, e3D, hBD, hMD⟩ := Hl8.out.get wm8.heap.size Y (by simp)
  obtain ⟨c0D, c1D, c2D⟩ := cell3 hBD
  have pb0 : ∀ w', Later w8.drew w' → w'.cell? _ = _ := fun w' hh => laterC c0B hh
  have pb1 : ∀ w', Later w8.drew w' → w'.cell? _ = _ := fun w' hh => laterC c1B hh
  have pb2 : ∀ w', Later w8.drew w' → w'.cell? _ = _ := fun w' hh => laterC c2B hh
  have py0 : ∀ w', Later w8.drew w' → w'.cell? _ = _ := fun w' hh => laterC c0Y hh
  have py1 : ∀ w', Later w8.drew w' → w'.cell? _ = _ := fun w' hh => laterC c1Y hh
  have py2 : ∀ w', Later w8.drew w' → w'.cell? _ = _ := fun w' hh => laterC c2Y hh
  have pd0 : ∀ w', Later w8.drew w' → w'.cell? _ = _ := fun w' hh => laterC c0D hh
  have pd1 : ∀ w', Later w8.drew w' → w'.cell? _ = _ := fun w' hh => laterC c1D hh
  have pd2 : ∀ w', Later w8.drew w' → w'.cell? _ = _ := fun w' hh => laterC c2D hh
  have HMB := Lib.hid hMB; have HMY := Lib.hid hMY; have HMD := Lib.hid hMD
  have Hc8 := Lib.hid (show ∀ a u, w8.cell? a = some u → ∀ w', Below w8.heap.size w8 w' → w'.cell? a = some u from fun a u h w' hh => (hh.cell (p := a) (cellLt h)).trans h)
  have HcY := Lib.hid (And.intro c0Y (And.intro c1Y c2Y)); have HcD := Lib.hid (And.intro c0D (And.intro c1D c2D))
  clear hBB hBY hBD hMB hMY hMD c0B c1B c2B c0Y c1Y c2Y c0D c1D c2D
  go_wp2_with fail
  rw [← Hw8.out]
  refine wp_region_can Later [(0, true), (1, true), (2, true), (3, true), (4, true), (5, true), (6, true), (7, true), (8, true), (9, true), (10, true), (11, true), (12, true), (13, true), (14, true), (15, true), (16, true), (17, true), (18, true), (19, true), (20, true), (21, true), (22, true), (23, true), (24, true), (25, true), (26, true), (27, true), (28, true), (29, false), (30, false), (31, true), (32, true), (33, true), (34, true), (35, false), (36, false), (37, true), (38, true)] (by kernel_rfl) (by kernel_rfl) later_refl later_trans ?_
  repeat (first
    | (refine can_yes (v := ?_) rfl (wanted_none rfl) (fun w' hC => ?_) (fun K hK => ?_); rotate_left; (focus (go_simp; first | done | exact rfl)); go_simp; refine hK _ ?_; clear hK K)
    | (refine can_guard rfl (fun A B hA hB => ?_); go_simp; first | (refine hA ⟨?_, fun w' hC => ?_, fun K hK => ?_⟩; rotate_left; (focus (go_simp; first | done | exact rfl)); go_simp; refine hK _ ?_; clear hK K hA hB A B) | (refine hB (fun K hK => ?_); go_simp; refine hK _ ?_; clear hK K hA hB A B))
    | (refine can_guard_go rfl (fun A B hA hB => ?_); go_simp; refine hB (fun K hK => ?_); go_simp; refine hK _ ?_; clear hK K hA hB A B))
  clear pb0 pb1 pb2 py0 py1 py2 pd0 pd1 pd2
  have hbd := (Below.refl w8.heap.size w8).drew
  refine can_go rfl rfl (fun KK hK => ?_)
  go_simp
  refine (taken_any w8.drew _ (.agg #[.slice s1Y Y.seen.length e1Y, .slice s2Y Y.items.length e2Y, .slice s3Y Y.gone.length e3Y]) Y ⟨_, _, _, rfl, HMY.out.keep (w' := w8.drew) fun _ _ _ => rfl⟩ KY.out.2.1 KY.out.2.2.1 KY.out.2.2.2).mono ?_
  rintro e w9 ⟨v9, rfl, hv9, hb9⟩
  have hb89 := hbd.trans hb9
  refine ⟨_, rfl, hb9, hK _ _ ?_⟩
  clear hK KK
  go_simp
  refine can_go rfl rfl (fun KK hK => ?_)
  go_simp
  refine (same_any w9 _ _ (.agg #[.slice s1B Y.seen.length e1B, .slice s2B Y.items.length e2B, .slice s3B Y.gone.length e3B]) _ Y Y ⟨_, _, _, rfl, HMB.out.keep (w' := w9) fun q hq _ => hb89.block q hq⟩ hv9 KY.out.2.1 KY.out.2.2.1 KY.out.2.2.2).mono ?_
  rintro e w10 ⟨r, rfl, hr, hb10⟩
  obtain rfl : r = true := hr.2 rfl
  have hb810 := hb89.trans (hb10.mono hb89.size)
  refine ⟨_, rfl, hb10, hK _ _ ?_⟩
  clear hK KK hr hv9 hb9 hb10 hb89
  have py0 : ∀ w', Later w10 w' → w'.cell? _ = _ := fun w' hh => Hc8.out _ _ HcY.out.1 w' (hb810.trans (RowKit.Below.mono hh hb810.size))
  have py1 : ∀ w', Later w10 w' → w'.cell? _ = _ := fun w' hh => Hc8.out _ _ HcY.out.2.1 w' (hb810.trans (RowKit.Below.mono hh hb810.size))
  have py2 : ∀ w', Later w10 w' → w'.cell? _ = _ := fun w' hh => Hc8.out _ _ HcY.out.2.2 w' (hb810.trans (RowKit.Below.mono hh hb810.size))
  have pd0 : ∀ w', Later w10 w' → w'.cell? _ = _ := fun w' hh => Hc8.out _ _ HcD.out.1 w' (hb810.trans (RowKit.Below.mono hh hb810.size))
  have pd1 : ∀ w', Later w10 w' → w'.cell? _ = _ := fun w' hh => Hc8.out _ _ HcD.out.2.1 w' (hb810.trans (RowKit.Below.mono hh hb810.size))
  have pd2 : ∀ w', Later w10 w' → w'.cell? _ = _ := fun w' hh => Hc8.out _ _ HcD.out.2.2 w' (hb810.trans (RowKit.Below.mono hh hb810.size))
  go_simp
  repeat (first
    | (refine can_yes (v := ?_) rfl (wanted_none rfl) (fun w' hC => ?_) (fun K hK => ?_); rotate_left; (focus (go_simp; first | done | exact rfl)); go_simp; refine hK _ ?_; clear hK K)
    | (refine can_guard rfl (fun A B hA hB => ?_); go_simp; first | (refine hA ⟨?_, fun w' hC => ?_, fun K hK => ?_⟩; rotate_left; (focus (go_simp; first | done | exact rfl)); go_simp; refine hK _ ?_; clear hK K hA hB A B) | (refine hB (fun K hK => ?_); go_simp; refine hK _ ?_; clear hK K hA hB A B))
    | (refine can_guard_go rfl (fun A B hA hB => ?_); go_simp; refine hB (fun K hK => ?_); go_simp; refine hK _ ?_; clear hK K hA hB A B))
  clear py0 py1 py2 pd0 pd1 pd2
  refine can_go rfl rfl (fun KK hK => ?_)
  go_simp
  refine (taken_any w10 _ (.agg #[.slice s1Y Y.seen.length e1Y, .slice s2Y Y.items.length e2Y, .slice s3Y Y.gone.length e3Y]) Y ⟨_, _, _, rfl, HMY.out.keep (w' := w10) fun q hq _ => hb810.block q hq⟩ KY.out.2.1 KY.out.2.2.1 KY.out.2.2.2).mono ?_
  rintro e w11 ⟨v11, rfl, hv11, hb11⟩
  have hb811 := hb810.trans (hb11.mono hb810.size)
  refine ⟨_, rfl, hb11, hK _ _ ?_⟩
  clear hK KK
  go_simp
  refine can_go rfl rfl (fun KK hK => ?_)
  go_simp
  refine (same_any w11 _ _ (.agg #[.slice s1D Y.seen.length e1D, .slice s2D Y.items.length e2D, .slice s3D Y.gone.length e3D]) _ Y Y ⟨_, _, _, rfl, HMD.out.keep (w' := w11) fun q hq _ => hb811.block q hq⟩ hv11 KY.out.2.1 KY.out.2.2.1 KY.out.2.2.2).mono ?_
  rintro e w12 ⟨r, rfl, hr, hb12⟩
  obtain rfl : r = true := hr.2 rfl
  refine ⟨_, rfl, hb12, hK _ _ ?_⟩
  have Hfin := Lib.hid (HW8.out.trans ((hb811.trans (hb12.mono hb811.size)).mono HW8.out.size))
  clear hK KK hr hv11 hb11 hb12 hb811 hb810 hbd
  go_simp
  repeat (first
    | (refine can_yes (v := ?_) rfl (wanted_none rfl) (fun w' hC => ?_) (fun K hK => ?_); rotate_left; (focus (go_simp; first | done | exact rfl)); go_simp; refine hK _ ?_; clear hK K)
    | (refine can_guard rfl (fun A B hA hB => ?_); go_simp; first | (refine hA ⟨?_, fun w' hC => ?_, fun K hK => ?_⟩; rotate_left; (focus (go_simp; first | done | exact rfl)); go_simp; refine hK _ ?_; clear hK K hA hB A B) | (refine hB (fun K hK => ?_); go_simp; refine hK _ ?_; clear hK K hA hB A B))
    | (refine can_guard_go rfl (fun A B hA hB => ?_); go_simp; refine hB (fun K hK => ?_); go_simp; refine hK _ ?_; clear hK K hA hB A B))
  refine can_nil ?_
  go_wp2_with fail
  go_ret
  exact ⟨rfl, Hfin.out⟩
end Go.Proofs.YtelphnigdancpaaGreatDoor
