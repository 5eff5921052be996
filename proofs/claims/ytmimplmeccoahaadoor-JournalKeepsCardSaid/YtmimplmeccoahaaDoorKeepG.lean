/- Replace, as an act of a life. -/
import Derived.Test.YtmimplmeccoahaaDoorKeepF
namespace Go.Proofs.YtmimplmeccoahaaDoor
open Go.RowKit
set_option linter.unusedVariables false
set_option maxRecDepth 20000
attribute [local go_sem ↓] seal_append
attribute [local go_sem] opC upC

set_option maxRecDepth 100000 in
set_option maxHeartbeats 1500000 in
theorem act_replace (w : World) (lo N x n g c : Nat) (hL : LifeAtN w lo N x n g c) (hq : Quarter w) (kind an am : Int) (v : Value) (l : List UInt8) (G : Blks) (hB : Bytes G w v l) (hG : ∀ b, G b → b < lo) (hl : l.length ≤ 3000) (hk : kind % 8 = 3) (hgb : g + 1 < 4294967295) (hkd : 0 ≤ kind ∧ kind ≤ 255) (hcb : c + 65536 < 4611686018427387904) :
    Calls Tryd.prog 25 #[.pointer (some ⟨x, 0, none⟩), .agg #[.int .u8 kind, .int .u16 an, .int .u16 am, v]] w fun e w' => e = .returned (.bool true) ∧ LifeAt w' lo x n (g + 1) (c + 65536) ∧ Only (between lo N) w w' ∧ w.heap.size < w'.heap.size := by
  obtain ⟨⟨jk, M, J, F, vm, vy, op⟩, ⟨hblk, hj, hI, hT, hR, h0, hlx, hall, hfree, hn⟩, hg, hcw, hxN, hallN⟩ := hL
  dsimp only at *
  have hh0 : 0 < w.heap.size := by obtain ⟨t, fz, hh⟩ := hq; exact lt_of_block hh
  have hxlt := hblk.lt
  obtain ⟨w1, hw1⟩ : ∃ w1, w1 = boxed w kind an am v := ⟨_, rfl⟩
  have hb1 : Below w.heap.size w w1 := by rw [hw1]; exact kept_alloc _ _
  have hz1 : w1.heap.size = w.heap.size + 1 := by rw [hw1]; simp [boxed]
  obtain ⟨x0, x1, x2, x3⟩ := boxed_cells w kind an am v
  rw [← hw1] at x0 x1 x2 x3
  have hkx : ¬ jk.K.foot x := fun hf => (hall x (.inr (.inl hf))).2 rfl
  have hkb : ¬ jk.K.foot w.heap.size := fun hf => by have := hj.lt _ (.inr (.inl hf)); omega
  have hblk1 : Blk w1 x _ _ := hblk.keep (hb1.block _ hxlt)
  have hd3 : (kind % 8 == 3) = true := by simp [hk]
  have hd4 : (kind % 8 == 4) = false := by simp [hk]
  have hd5 : (kind % 8 == 5) = false := by simp [hk]
  have hd7 : (kind % 8 == 7) = false := by simp [hk]
  have hd6 : (kind % 8 == 6) = false := by simp [hk]
  have hsl : J.L.length ≤ 65536 := by
    have h1 : takenL J.L ≤ halfN M.S.length := hj.room
    have h2 := length_le_taken J.L
    have h3 : M.S.length ≤ 65536 := hj.disk.le
    unfold halfN at h1
    omega
  obtain ⟨W0, hW0⟩ : ∃ W0, W0 = w1.drew := ⟨_, rfl⟩
  have hbW : Below w.heap.size w W0 := by rw [hW0]; exact hb1.drew
  have hzW : W0.heap.size = w.heap.size + 1 := by rw [hW0]; exact hz1
  have c2 := hblk1.cell 2
  simp at c2
  have s2 : ∀ w', LaterF (fun b => W0.heap.size ≤ b) W0 w' → w'.cell? ⟨x, 2, none⟩ = some vm := fun w' h => laterF_cell h (by omega) (by omega) 2 (by rw [hW0]; exact c2)
  have s3 : ∀ w', LaterF (fun b => W0.heap.size ≤ b) W0 w' → w'.cell? ⟨w.heap.size, 3, none⟩ = some v := fun w' h => laterF_cell h (by omega) (by omega) 3 (by rw [hW0]; exact x3)
  have hBW : Bytes G W0 v l := hB.keep fun b hb _ => hbW.block b (by have := hG b hb; omega)
  have hRW : RowsF F W0 vm J.L := hR.keep (fun b hb hlt => hbW.block b hlt) (by omega)
  have hFW : ∀ b, F b → b < W0.heap.size := fun b hb => by have := (hfree b hb).1; omega
  have hGW : ∀ b, G b → b < W0.heap.size := fun b hb => by have := hG b hb; omega
  obtain ⟨aB, cB, rfl, -⟩ := id hB
  obtain ⟨aM, cM, rfl, -⟩ := id hR
  have Hj := Lib.hid hj; have HR := Lib.hid hR; have Hfree := Lib.hid hfree; have Hall := Lib.hid hall; have HallN := Lib.hid hallN; have Hblk1 := Lib.hid hblk1; have Hk := Lib.hid hk; have Hblk := Lib.hid hblk; have Hz1 := Lib.hid hz1; have Hn := Lib.hid hn; have HzW := Lib.hid hzW; have Hsl := Lib.hid hsl; have Hl := Lib.hid hl
  have HB := Lib.hid hB; have HBW := Lib.hid hBW; have HRW := Lib.hid hRW; have HFW := Lib.hid hFW; have HGW := Lib.hid hGW; have HG := Lib.hid hG
  have X0 : Hid (W0.cell? ⟨w.heap.size, 0, none⟩ = some (.int .u8 kind)) := Lib.hid (by rw [hW0]; exact x0)
  have X3 : Hid (W0.cell? ⟨w.heap.size, 3, none⟩ = some (.slice aB l.length cB)) := Lib.hid (by rw [hW0]; exact x3)
  have hw1' := hw1
  unfold boxed at hw1'
  have Hw1 := Lib.hid hw1'; have HW0 := Lib.hid hW0
  rw [hw1'] at x0
  have bW0 : Below W0.heap.size W0 W0 := Below.refl _ _
  clear hj hR hfree hall hallN hblk1 hk hblk hz1 hn hzW hsl hl hB hBW hRW hFW hGW hG hw1 hw1' hW0 x1 x2 x3 c2
  go_enter Tryd.func25, Tryd.ntmps25
  go_wp2_with fail
  refine wp_region_puts (LaterF (fun b => W0.heap.size ≤ b)) treeAct 11 (by kernel_rfl) (by kernel_rfl) (laterF_refl _) (laterF_trans _) [40, 41, 42, 43, 44, 45, 46, 47, 48, 49, 5] (AppPost W0 F G J.L l) ?_ ?_
  · rw [← Hw1.out, ← HW0.out]
    unfold treeAct
    refine canT_yes (v := ?_) rfl (wanted_none rfl) (fun w' hC => ?_) (fun K hK => ?_); rotate_left; (focus (go_simp; first | done | exact rfl)); go_simp; refine hK _ ?_; clear hK K
    refine canT_yes (v := ?_) rfl (wanted_none rfl) (fun w' hC => ?_) (fun K hK => ?_); rotate_left; (focus (go_simp; first | done | exact rfl)); go_simp; refine hK _ ?_; clear hK K
    refine canT_yes (v := ?_) rfl (wanted_none rfl) (fun w' hC => ?_) (fun K hK => ?_); rotate_left; (focus (go_simp; first | done | exact rfl)); go_simp; refine hK _ ?_; clear hK K
    refine canT_yes (v := ?_) rfl (wanted_none rfl) (fun w' hC => ?_) (fun K hK => ?_); rotate_left; (focus (go_simp; first | done | exact rfl)); go_simp; refine hK _ ?_; clear hK K
    refine canT_yes (v := ?_) rfl (wanted_none rfl) (fun w' hC => ?_) (fun K hK => ?_); rotate_left; (focus (go_simp; first | done | exact rfl)); go_simp; refine hK _ ?_; clear hK K
    refine canT_yes (v := ?_) rfl (wanted_none rfl) (fun w' hC => ?_) (fun K hK => ?_); rotate_left; (focus (go_simp; first | done | exact rfl)); go_simp; refine hK _ ?_; clear hK K
    clear s2 s3
    refine canT_both rfl rfl rfl rfl (fun KK hK => ?_) (fun KK hK => ?_)
    · go_simp
      obtain ⟨Wa, hWa⟩ : ∃ W, W = W0.alloc (.cells #[] 30) := ⟨_, rfl⟩
      have bWa : Below W0.heap.size W0 Wa := by rw [hWa]; exact Below.alloc bW0 bW0.size _
      have zWa : Wa.heap.size = W0.heap.size + 1 := by rw [hWa]; simp
      have kWa : Below W0.heap.size W0 Wa := by rw [hWa]; exact kept_alloc _ _
      have nWa : Blk Wa W0.heap.size [] 30 := by rw [hWa]; exact Blk.new _ _ _
      have ZWa := Lib.hid zWa
      rw [← hWa]
      refine ⟨laterN bW0 bWa (by omega) (Nat.le_refl _), hK _ _ ?_⟩
      clear hK KK hWa zWa
      go_simp
      refine canT_both rfl rfl rfl rfl (fun KK hK => ?_) (fun KK hK => ?_)
      ·
        obtain ⟨v45, Wb, news, hap, hown, hel, bWb, zWb, kWb⟩ := app1 W0 Wa bWa W0.heap.size nWa (Nat.le_refl _) F _ J.L HRW.out HFW.out (by have := Hsl.out; omega)
        have Hown := Lib.hid hown; have Hel := Lib.hid hel
        clear hown hel
        go_simp
        clear hap
        refine ⟨laterN bWa bWb zWb (Nat.le_refl _), hK _ _ ?_⟩
        clear hK KK
        go_simp
        refine canT_go rfl rfl (fun KK hK => ?_)
        go_simp
        obtain ⟨Wc, hWc⟩ : ∃ W, W = Wb.alloc (.cells #[.slice aB l.length cB] 30) := ⟨_, rfl⟩
        have bWc : Below W0.heap.size W0 Wc := by rw [hWc]; exact Below.alloc bWb bWb.size _
        have zWc : Wc.heap.size = Wb.heap.size + 1 := by rw [hWc]; simp
        have kWc : Below Wb.heap.size Wb Wc := by rw [hWc]; exact kept_alloc _ _
        have nWc : Blk Wc Wb.heap.size [.slice aB l.length cB] 30 := by rw [hWc]; exact Blk.new _ _ _
        have ZWc := Lib.hid zWc
        rw [← hWc]
        refine ⟨laterN bWb bWc (by omega) (Nat.le_refl _), hK _ _ ?_⟩
        clear hK KK hWc zWc
        go_simp
        refine canT_go rfl rfl (fun KK hK => ?_)
        have hcy := (nWc.cell 0)
        obtain ⟨a5, c5, Wd, hap, hrows, bWd, zWd⟩ := app2 W0 Wc bWc v45 news F J.L (owns_keep Hown.out fun g hg => kWc.block g (owns_lt Hown.out hg)) (fun i hi => by obtain ⟨y, h1, h2⟩ := Hel.out i hi; exact ⟨y, h1, h2.keep fun b hb hlt => kWc.block b hlt⟩) HFW.out (by have := Hsl.out; omega) Wb.heap.size _ l hcy G HBW.out HGW.out
        have Hrows := Lib.hid hrows
        clear hrows hcy
        go_simp
        clear hap
        refine ⟨laterN bWc bWd zWd (Nat.le_refl _), hK _ _ ?_⟩
        clear hK KK
        go_simp
        refine canT_yes (v := ?_) rfl (wanted_none rfl) (fun w' hC => ?_) (fun K hK => ?_); rotate_left; (focus (go_simp; first | done | exact rfl)); go_simp; refine hK _ ?_; clear hK K
        refine canT_nil ?_
        apply app_leaf (hr := Hrows.out) (hb := bWd)
        simp only [putsL, List.headD_cons, List.tail_cons]
        go_simp
        exact ⟨rfl, rfl, rfl, rfl, rfl, rfl, rfl, rfl, rfl, rfl⟩
      · go_simp
        obtain ⟨Wb, hWb⟩ : ∃ W, W = Wa.alloc (.cells #[.slice aB l.length cB] 30) := ⟨_, rfl⟩
        have bWb : Below W0.heap.size W0 Wb := by rw [hWb]; exact Below.alloc bWa bWa.size _
        have zWb : Wb.heap.size = Wa.heap.size + 1 := by rw [hWb]; simp
        have kWb : Below Wa.heap.size Wa Wb := by rw [hWb]; exact kept_alloc _ _
        have nWb : Blk Wb Wa.heap.size [.slice aB l.length cB] 30 := by rw [hWb]; exact Blk.new _ _ _
        have ZWb := Lib.hid zWb
        rw [← hWb]
        refine ⟨laterN bWa bWb (by omega) (Nat.le_refl _), hK _ _ ?_⟩
        clear hK KK hWb zWb
        go_simp
        refine canT_go rfl rfl (fun KK hK => ?_)
        obtain ⟨v45, Wc, news, hap, hown, hel, bWc, zWc, kWc⟩ := app1 W0 Wb bWb W0.heap.size (nWa.keep (kWb.block _ nWa.lt)) (Nat.le_refl _) F _ J.L HRW.out HFW.out (by have := Hsl.out; omega)
        have Hown := Lib.hid hown; have Hel := Lib.hid hel
        clear hown hel
        go_simp
        clear hap
        refine ⟨laterN bWb bWc zWc (Nat.le_refl _), hK _ _ ?_⟩
        clear hK KK
        go_simp
        refine canT_go rfl rfl (fun KK hK => ?_)
        have hcy := ((nWb.keep (kWc _ nWb.lt (by have := ZWa.out; omega))).cell 0)
        obtain ⟨a5, c5, Wd, hap, hrows, bWd, zWd⟩ := app2 W0 Wc bWc v45 news F J.L Hown.out Hel.out HFW.out (by have := Hsl.out; omega) Wa.heap.size _ l hcy G HBW.out HGW.out
        have Hrows := Lib.hid hrows
        clear hrows hcy
        go_simp
        clear hap
        refine ⟨laterN bWc bWd zWd (Nat.le_refl _), hK _ _ ?_⟩
        clear hK KK
        go_simp
        refine canT_yes (v := ?_) rfl (wanted_none rfl) (fun w' hC => ?_) (fun K hK => ?_); rotate_left; (focus (go_simp; first | done | exact rfl)); go_simp; refine hK _ ?_; clear hK K
        refine canT_nil ?_
        apply app_leaf (hr := Hrows.out) (hb := bWd)
        simp only [putsL, List.headD_cons, List.tail_cons]
        go_simp
        exact ⟨rfl, rfl, rfl, rfl, rfl, rfl, rfl, rfl, rfl, rfl⟩
    · go_simp
      obtain ⟨Wa, hWa⟩ : ∃ W, W = W0.alloc (.cells #[.slice aB l.length cB] 30) := ⟨_, rfl⟩
      have bWa : Below W0.heap.size W0 Wa := by rw [hWa]; exact Below.alloc bW0 bW0.size _
      have zWa : Wa.heap.size = W0.heap.size + 1 := by rw [hWa]; simp
      have kWa : Below W0.heap.size W0 Wa := by rw [hWa]; exact kept_alloc _ _
      have nWa : Blk Wa W0.heap.size [.slice aB l.length cB] 30 := by rw [hWa]; exact Blk.new _ _ _
      have ZWa := Lib.hid zWa
      rw [← hWa]
      refine ⟨laterN bW0 bWa (by omega) (Nat.le_refl _), hK _ _ ?_⟩
      clear hK KK hWa zWa
      go_simp
      refine canT_go rfl rfl (fun KK hK => ?_)
      go_simp
      obtain ⟨Wb, hWb⟩ : ∃ W, W = Wa.alloc (.cells #[] 30) := ⟨_, rfl⟩
      have bWb : Below W0.heap.size W0 Wb := by rw [hWb]; exact Below.alloc bWa bWa.size _
      have zWb : Wb.heap.size = Wa.heap.size + 1 := by rw [hWb]; simp
      have kWb : Below Wa.heap.size Wa Wb := by rw [hWb]; exact kept_alloc _ _
      have nWb : Blk Wb Wa.heap.size [] 30 := by rw [hWb]; exact Blk.new _ _ _
      have ZWb := Lib.hid zWb
      rw [← hWb]
      refine ⟨laterN bWa bWb (by omega) (Nat.le_refl _), hK _ _ ?_⟩
      clear hK KK hWb zWb
      go_simp
      refine canT_go rfl rfl (fun KK hK => ?_)
      obtain ⟨v45, Wc, news, hap, hown, hel, bWc, zWc, kWc⟩ := app1 W0 Wb bWb Wa.heap.size nWb (by have := ZWa.out; omega) F _ J.L HRW.out HFW.out (by have := Hsl.out; omega)
      have Hown := Lib.hid hown; have Hel := Lib.hid hel
      clear hown hel
      go_simp
      clear hap
      refine ⟨laterN bWb bWc zWc (Nat.le_refl _), hK _ _ ?_⟩
      clear hK KK
      go_simp
      refine canT_go rfl rfl (fun KK hK => ?_)
      have hcy := (((nWa.keep (kWb.block _ nWa.lt)).keep (kWc _ (by have := nWa.lt; have := kWb.size; omega) (by have := ZWa.out; omega))).cell 0)
      obtain ⟨a5, c5, Wd, hap, hrows, bWd, zWd⟩ := app2 W0 Wc bWc v45 news F J.L Hown.out Hel.out HFW.out (by have := Hsl.out; omega) W0.heap.size _ l hcy G HBW.out HGW.out
      have Hrows := Lib.hid hrows
      clear hrows hcy
      go_simp
      clear hap
      refine ⟨laterN bWc bWd zWd (Nat.le_refl _), hK _ _ ?_⟩
      clear hK KK
      go_simp
      refine canT_yes (v := ?_) rfl (wanted_none rfl) (fun w' hC => ?_) (fun K hK => ?_); rotate_left; (focus (go_simp; first | done | exact rfl)); go_simp; refine hK _ ?_; clear hK K
      refine canT_nil ?_
      apply app_leaf (hr := Hrows.out) (hb := bWd)
      simp only [putsL, List.headD_cons, List.tail_cons]
      go_simp
      exact ⟨rfl, rfl, rfl, rfl, rfl, rfl, rfl, rfl, rfl, rfl⟩
  rintro vs wx ⟨v0, v1, v2, v3, v4, v5, v6, v7, v8, v9, a5, c5, rfl, -, hbx⟩
  simp only [putsL, List.headD_cons, List.tail_cons]
  have hzW := HzW.out
  obtain ⟨w2, hw2⟩ : ∃ w2, w2 = wx.alloc (.cells #[.slice aB l.length cB] 30) := ⟨_, rfl⟩
  have hb2 : Below W0.heap.size W0 w2 := by rw [hw2]; exact Below.alloc hbx hbx.size _
  have hxx := hbx.size
  have hn2 : Blk w2 wx.heap.size [.slice aB l.length cB] 30 := by rw [hw2]; exact Blk.new _ _ _
  have hrows : RowsF (fun b => b < w2.heap.size ∧ (F b ∨ G b ∨ W0.heap.size ≤ b)) w2 (.slice (some ⟨wx.heap.size, 0, none⟩) 1 1) [l] := by
    refine ⟨_, _, rfl, .inr ⟨wx.heap.size, rfl, ⟨hn2.lt, .inr (.inr hxx)⟩, hn2.lt, fun i hi => ?_⟩⟩
    obtain rfl : i = 0 := by simpa using hi
    refine ⟨_, hn2.cell 0, ?_⟩
    have h3 := HBW.out.keep (w' := w2) fun b hb _ => hb2.block b (HGW.out b hb)
    exact h3.mono fun b hb => ⟨by have := HGW.out b hb; have := hb2.size; omega, .inr (.inl hb)⟩
  have hz2 := hb2.size
  have hbw2 : Below w.heap.size w w2 := hbW.trans (hb2.mono (by omega))
  have hblk2 : Blk w2 x _ _ := Hblk.out.keep (hbw2.block _ hxlt)
  have y0x := X0.out
  rw [← hbx.cell (p := ⟨w.heap.size, 0, none⟩) (show w.heap.size < W0.heap.size by omega)] at y0x
  have y3x := X3.out
  rw [← hbx.cell (p := ⟨w.heap.size, 3, none⟩) (show w.heap.size < W0.heap.size by omega)] at y3x
  have y0 := X0.out
  rw [← hb2.cell (p := ⟨w.heap.size, 0, none⟩) (show w.heap.size < W0.heap.size by omega)] at y0
  have y3 := X3.out
  rw [← hb2.cell (p := ⟨w.heap.size, 3, none⟩) (show w.heap.size < W0.heap.size by omega)] at y3
  have c0 := hblk2.cell 0
  have c1 := hblk2.cell 1
  simp at c0 c1
  have hj2 : JAt w2.drew jk M J := (Hj.out.kept hbw2).kept (Below.refl _ _).drew
  have hdn0 := down_any w2.drew jk.K M hj2.disk
  have hdd0 := dead_J w2.drew jk M J hj2
  obtain ⟨dn, edn⟩ : ∃ q, M.down = q := ⟨_, rfl⟩
  obtain ⟨dd, edd⟩ : ∃ q, J.dead = q := ⟨_, rfl⟩
  rw [edn] at hdn0
  rw [edd] at hdd0
  have Hdn := Lib.hid hdn0; have Hdd := Lib.hid hdd0; have EDN := Lib.hid edn; have EDD := Lib.hid edd
  clear hdn0 hdd0 edn edd
  have s0 : ∀ w', Later w2.drew w' → w'.cell? ⟨x, 0, none⟩ = some (.pointer (some ⟨jk.K.d, 0, none⟩)) := fun w' h => later_cell c0 h
  have s1 : ∀ w', Later w2.drew w' → w'.cell? ⟨x, 1, none⟩ = some (.pointer (some ⟨jk.j, 0, none⟩)) := fun w' h => later_cell c1 h
  have Hz2 := Lib.hid hz2; have Hblk2 := Lib.hid hblk2; have Hrows := Lib.hid hrows; have Hj2 := Lib.hid hj2; have Y3 := Lib.hid y3; have C1 := Lib.hid c1
  have HW2 := Lib.hid hw2
  clear hz2 hzW hblk2 hrows hj2 s2 s3 x0 y3 c0 c1 hw2 hn2 hxx
  go_wp2_with fail
  rw [← HW2.out]
  clear y0x y3x
  refine wp_region_can Later [(0, true), (1, true), (2, true), (3, true), (5, true), (6, true), (7, true), (8, true), (4, false), (9, false), (10, true), (11, true)] (by kernel_rfl) (by kernel_rfl) later_refl later_trans ?_
  repeat (first
    | (refine can_yes (v := ?_) rfl (wanted_none rfl) (fun w' hC => ?_) (fun K hK => ?_); rotate_left; (focus (go_simp; first | done | exact rfl)); go_simp; refine hK _ ?_; clear hK K)
    | (refine can_guard rfl (fun A B hA hB => ?_); go_simp; first | (refine hA ⟨?_, fun w' hC => ?_, fun K hK => ?_⟩; rotate_left; (focus (go_simp; first | done | exact rfl)); go_simp; refine hK _ ?_; clear hK K hA hB A B) | (refine hB (fun K hK => ?_); go_simp; refine hK _ ?_; clear hK K hA hB A B))
    | (refine can_guard_go rfl (fun A B hA hB => ?_); go_simp; refine hB (fun K hK => ?_); go_simp; refine hK _ ?_; clear hK K hA hB A B))
  refine can_go rfl rfl (fun KK hK => ?_)
  go_simp
  refine Hdn.out.mono ?_
  rintro e w' ⟨rfl, rfl⟩
  refine ⟨_, rfl, later_refl _, hK _ _ ?_⟩
  clear hK KK
  go_simp
  refine can_go rfl rfl (fun KK hK => ?_)
  go_simp
  refine Hdd.out.mono ?_
  rintro e w' ⟨rfl, rfl⟩
  refine ⟨_, rfl, later_refl _, hK _ _ ?_⟩
  clear hK KK Hdn Hdd
  go_simp
  repeat (first
    | (refine can_yes (v := ?_) rfl (wanted_none rfl) (fun w' hC => ?_) (fun K hK => ?_); rotate_left; (focus (go_simp; first | done | exact rfl)); go_simp; refine hK _ ?_; clear hK K)
    | (refine can_guard rfl (fun A B hA hB => ?_); go_simp; first | (refine hA ⟨?_, fun w' hC => ?_, fun K hK => ?_⟩; rotate_left; (focus (go_simp; first | done | exact rfl)); go_simp; refine hK _ ?_; clear hK K hA hB A B) | (refine hB (fun K hK => ?_); go_simp; refine hK _ ?_; clear hK K hA hB A B))
    | (refine can_guard_go rfl (fun A B hA hB => ?_); go_simp; refine hB (fun K hK => ?_); go_simp; refine hK _ ?_; clear hK K hA hB A B))
  refine can_nil ?_
  clear s0 s1
  have hj3 : JAt w2.drew.drew jk M J := Hj2.out.kept (Below.refl _ _).drew
  have hxa : ¬ jk.all x := fun h => (Hall.out x h).2 rfl
  have hba : ¬ jk.all w.heap.size := fun h => by have := Hj.out.lt _ h; omega
  have hz2 := Hz2.out
  have hzW := HzW.out
  have s1 : ∀ w', LaterF jk.all w2.drew.drew w' → w'.cell? ⟨x, 1, none⟩ = some (.pointer (some ⟨jk.j, 0, none⟩)) := fun w' h => laterF_cell h (show x < w2.heap.size by omega) hxa 1 C1.out
  have s3 : ∀ w', LaterF jk.all w2.drew.drew w' → w'.cell? ⟨w.heap.size, 3, none⟩ = some (.slice aB l.length cB) := fun w' h => laterF_cell h (show w.heap.size < w2.heap.size by omega) hba 3 Y3.out
  have hB3 : Bytes G w2.drew.drew (.slice aB l.length cB) l := HB.out.keep fun b hb _ => hbw2.block b (by have := HG.out b hb; omega)
  have hq3 : Quarter w2.drew.drew := hq.keep (hbw2.block 0 hh0)
  have hap := replace_any w2.drew.drew jk M J hj3 G _ l hB3 (fun b hb => ⟨by have := HG.out b hb; show b < w2.heap.size; omega, fun h => by have := (Hall.out b h).1; have := HG.out b hb; omega⟩) (fun h => by have := (Hall.out 0 h).1; omega) hq3 (by omega)
  obtain ⟨M', J', r, hM, hI', hT', hg', hn', hw', h3⟩ := replace_ok M J l hI (by omega) hT Hl.out
  rw [hM] at hap
  dsimp only at hap
  have Hap := Lib.hid hap; have H3 := Lib.hid h3; have HI' := Lib.hid hI'; have Hn' := Lib.hid hn'
  clear hap h3 hI' hM hB3 hj3 hz2 hzW hn'
  go_wp2_with fail
  refine wp_region_can (LaterF jk.all) [(0, true), (1, true), (2, true), (3, true), (4, true), (5, true), (6, false), (7, true)] (by kernel_rfl) (by kernel_rfl) (laterF_refl _) (laterF_trans _) ?_
  repeat (first
    | (refine can_yes (v := ?_) rfl (wanted_none rfl) (fun w' hC => ?_) (fun K hK => ?_); rotate_left; (focus (go_simp; first | done | exact rfl)); go_simp; refine hK _ ?_; clear hK K)
    | (refine can_guard rfl (fun A B hA hB => ?_); go_simp; first | (refine hA ⟨?_, fun w' hC => ?_, fun K hK => ?_⟩; rotate_left; (focus (go_simp; first | done | exact rfl)); go_simp; refine hK _ ?_; clear hK K hA hB A B) | (refine hB (fun K hK => ?_); go_simp; refine hK _ ?_; clear hK K hA hB A B))
    | (refine can_guard_go rfl (fun A B hA hB => ?_); go_simp; refine hB (fun K hK => ?_); go_simp; refine hK _ ?_; clear hK K hA hB A B))
  refine can_go rfl rfl (fun KK hK => ?_)
  go_simp
  refine Hap.out.mono ?_
  rintro e w5 ⟨rfl, jk', hje, hde, hj5, hall5, ho5⟩
  refine ⟨_, rfl, ho5, hK _ _ ?_⟩
  clear hK KK Hap s1 s3
  go_simp
  repeat (first
    | (refine can_yes (v := ?_) rfl (wanted_none rfl) (fun w' hC => ?_) (fun K hK => ?_); rotate_left; (focus (go_simp; first | done | exact rfl)); go_simp; refine hK _ ?_; clear hK K)
    | (refine can_guard rfl (fun A B hA hB => ?_); go_simp; first | (refine hA ⟨?_, fun w' hC => ?_, fun K hK => ?_⟩; rotate_left; (focus (go_simp; first | done | exact rfl)); go_simp; refine hK _ ?_; clear hK K hA hB A B) | (refine hB (fun K hK => ?_); go_simp; refine hK _ ?_; clear hK K hA hB A B))
    | (refine can_guard_go rfl (fun A B hA hB => ?_); go_simp; refine hB (fun K hK => ?_); go_simp; refine hK _ ?_; clear hK K hA hB A B))
  refine can_nil ?_
  have hz2 := Hz2.out; have hzW := HzW.out
  have hz5 : w2.heap.size ≤ w5.heap.size := ho5.size
  have hb5 : ∀ b, b < w2.heap.size → ¬ jk.all b → w5.heap[b]? = w2.heap[b]? := fun b h1 h2 => ho5.block b h1 h2
  have hblk5 : Blk w5 x _ _ := Hblk2.out.keep (hb5 x (by omega) hxa)
  have hallD : ∀ b, jk'.all b → lo ≤ b ∧ b ≠ x := fun b hb => by
    rcases hall5 b hb with h | h
    · exact Hall.out b h
    · have h : w2.heap.size ≤ b := h
      exact ⟨by omega, by omega⟩
  have hfo : ∀ b, F b → b < w2.heap.size ∧ b ≠ x ∧ ¬ jk.all b := fun b hb => ⟨by have := (Hfree.out b hb).1; omega, (Hfree.out b hb).2⟩
  have hfn : ∀ b, (b < w2.heap.size ∧ (F b ∨ G b ∨ W0.heap.size ≤ b)) → b < w2.heap.size ∧ b ≠ x ∧ ¬ jk.all b := fun b hb => by
    refine ⟨hb.1, ?_⟩
    rcases hb.2 with h | h | h
    · exact (Hfree.out b h).2
    · have := HG.out b h
      exact ⟨by omega, fun h' => by have := (Hall.out b h').1; omega⟩
    · exact ⟨by omega, fun h' => by have := Hj.out.lt b h'; omega⟩
  have hRo : RowsF F w5 _ J.L := HR.out.keep (fun b hb hlt => (hb5 b (hfo b hb).1 (hfo b hb).2.2).trans (hbw2.block b hlt)) (by omega)
  have hRn := Hrows.out.keep (w' := w5) (fun b hb hlt => hb5 b hlt (hfn b hb).2.2) hz5
  have hoN : Only (between lo N) w w5 := (Only.of_below (F := between lo N) hbw2.drew.drew).trans (ho5.mono (G := between lo N) fun b hb => ⟨(Hall.out b hb).1, HallN.out b hb⟩) (fun i hi => .inl hi)
  have HJ : Hid (∀ w', Only (fun b => b = x) w5 w' → JAt w' jk' M' J') := Lib.hid fun w' ho => hj5.only ho fun b hb e => (hallD b hb).2 e
  have HDead : Hid (∀ w', Only (fun b => b = x) w5 w' → Calls Tryd.prog 20 #[.pointer (some ⟨jk.j, 0, none⟩)] w' fun e w'' => e = .returned (.bool J'.dead) ∧ w' = w'') := Lib.hid fun w' ho => by
    have := dead_J w' jk' M' J' (HJ.out w' ho)
    rw [hje] at this
    exact this
  have HDown : Hid (∀ w', Only (fun b => b = x) w5 w' → Calls Tryd.prog 54 #[.pointer (some ⟨jk.K.d, 0, none⟩)] w' fun e w'' => e = .returned (.bool M'.down) ∧ w' = w'') := Lib.hid fun w' ho => by
    have := down_any w' jk'.K M' (HJ.out w' ho).disk
    rw [hde] at this
    exact this
  have Close : Hid (∀ (w' : World) (vm' vy' : Value) (op' : Bool) (Fx : Blks) (L' : List (List UInt8)), J'.L = L' → Only (fun b => b = x) w5 w' → Blk w' x [.pointer (some ⟨jk.K.d, 0, none⟩), .pointer (some ⟨jk.j, 0, none⟩), vm', vy', .bool op'] 49 → RowsF Fx w5 vm' L' → (∀ b, Fx b → b < w2.heap.size ∧ b ≠ x ∧ ¬ jk.all b) → LifeAt w' lo x n (g + 1) (c + 65536) ∧ Only (between lo N) w w' ∧ w.heap.size < w'.heap.size) := Lib.hid fun w' vm' vy' op' Fx L' hL ho hblk' hR' hF' => by
    have hz' := ho.size
    refine ⟨⟨⟨jk', M', J', Fx, vm', vy', op'⟩, ⟨?_, HJ.out w' ho, HI'.out, hT', ?_, h0, hlx, hallD, fun b hb => ?_, by rw [show M'.S.length = M.S.length from Hn'.out]; exact Hn.out⟩, by show J'.g ≤ g + 1; omega, by show M'.writes ≤ c + 65536; omega⟩, hoN.trans ho fun i hi => .inl (by subst hi; exact ⟨hlx, hxN⟩), by omega⟩
    · show Blk w' x [.pointer (some ⟨jk'.K.d, 0, none⟩), .pointer (some ⟨jk'.j, 0, none⟩), vm', vy', .bool op'] _
      rw [hje, hde]
      exact hblk'
    · show RowsF Fx w' vm' J'.L
      rw [hL]
      exact hR'.keep (fun b hb hlt => ho.block b hlt (hF' b hb).2.1) hz'
    · have h1 := hF' b hb
      refine ⟨by show b < w'.heap.size; omega, h1.2.1, fun h => ?_⟩
      rcases hall5 b h with h | h
      · exact h1.2.2 h
      · have h : w2.heap.size ≤ b := h
        omega
  have c0 := hblk5.cell 0
  have c1 := hblk5.cell 1
  have c2 := hblk5.cell 2
  have c3 := hblk5.cell 3
  have c4 := hblk5.cell 4
  simp at c0 c1 c2 c3 c4
  have f2 := hblk5.free 2
  have f3 := hblk5.free 3
  have f4 := hblk5.free 4
  have Hblk5 := Lib.hid hblk5; have HRo := Lib.hid hRo; have HRn := Lib.hid hRn; have Hfo := Lib.hid hfo; have Hfn := Lib.hid hfn
  clear hblk5 hRo hRn hfo hfn hz5 hz2 hzW hje hde hj5 hoN hb5 hallD
  rcases H3.out with ⟨rfl, hL', hd', hdn, hdd⟩ | ⟨rfl, hL', hd', hdd⟩ | ⟨rfl, hL', hd', hor⟩
  · obtain rfl : dn = false := EDN.out.symm.trans hdn
    obtain rfl : dd = false := EDD.out.symm.trans hdd
    have HL' := Lib.hid hL'
    clear hL' hd' hdn hdd H3
    go_wp2_with fail
    go_ret
    exact ⟨rfl, Close.out _ _ _ _ _ _ HL'.out (Only.setCell (Only.refl (fun b => b = x) w5) (p := ⟨x, 2, none⟩) (.inl (show x = x from rfl)) _) (Hblk5.out.set 2 _) HRn.out Hfn.out⟩
  · obtain rfl : dd = false := EDD.out.symm.trans hdd
    have HDe := HDead.out w5 (Only.refl _ _)
    rw [hd'] at HDe
    have HDE := Lib.hid HDe
    have HL' := Lib.hid hL'
    clear hL' hd' hdd H3 HDe
    go_wp2_with fail
    refine HDE.out.mono ?_
    rintro e w' ⟨rfl, rfl⟩
    go_wp2_with fail
    go_ret
    exact ⟨rfl, Close.out _ _ _ _ _ _ HL'.out (Only.refl _ _) Hblk5.out HRo.out Hfo.out⟩
  · have HL' := Lib.hid hL'
    cases dd with
    | true =>
      have HDe := HDead.out w5 (Only.refl _ _)
      rw [hd'] at HDe
      have HDE := Lib.hid HDe
      clear hL' hd' H3 HDe hor
      cases dn with
      | true =>
        go_wp2_with fail
        refine HDE.out.mono ?_
        rintro e w' ⟨rfl, rfl⟩
        go_wp2_with fail
        go_ret
        exact ⟨rfl, Close.out _ _ _ _ _ _ HL'.out (Only.refl _ _) Hblk5.out HRo.out Hfo.out⟩
      | false =>
        go_wp2_with fail
        refine HDE.out.mono ?_
        rintro e w' ⟨rfl, rfl⟩
        go_wp2_with fail
        go_ret
        exact ⟨rfl, Close.out _ _ _ _ _ _ HL'.out (Only.refl _ _) Hblk5.out HRo.out Hfo.out⟩
    | false =>
      have hdn' : M'.down = true := hor.resolve_left (by rw [EDD.out]; simp)
      cases dn with
      | true =>
        have HDe := HDead.out w5 (Only.refl _ _)
        rw [hd'] at HDe
        have HDE := Lib.hid HDe
        clear hL' hd' H3 HDe hor hdn'
        go_wp2_with fail
        refine HDE.out.mono ?_
        rintro e w' ⟨rfl, rfl⟩
        go_wp2_with fail
        go_ret
        exact ⟨rfl, Close.out _ _ _ _ _ _ HL'.out (Only.refl _ _) Hblk5.out HRo.out Hfo.out⟩
      | false =>
        have hb6 := ((Hblk5.out.set 3 (.slice (some ⟨wx.heap.size, 0, none⟩) 1 1)).set 4 (.bool true))
        have ho6 : Only (fun b => b = x) w5 ((w5.setCell ⟨x, 3, none⟩ (.slice (some ⟨wx.heap.size, 0, none⟩) 1 1)).setCell ⟨x, 4, none⟩ (.bool true)) := (Only.setCell (Only.refl (fun b => b = x) w5) (p := ⟨x, 3, none⟩) (.inl (show x = x from rfl)) _).setCell (p := ⟨x, 4, none⟩) (.inl (show x = x from rfl)) _
        obtain ⟨w6, hw6⟩ : ∃ w6, w6 = (w5.setCell ⟨x, 3, none⟩ (.slice (some ⟨wx.heap.size, 0, none⟩) 1 1)).setCell ⟨x, 4, none⟩ (.bool true) := ⟨_, rfl⟩
        have HDe := HDead.out _ ho6
        have HDo := HDown.out _ ho6
        rw [hd'] at HDe
        rw [hdn'] at HDo
        have HDE := Lib.hid HDe; have HDO := Lib.hid HDo; have Hb6 := Lib.hid hb6; have Ho6 := Lib.hid ho6
        have c0' := hb6.cell 0
        have c1' := hb6.cell 1
        simp at c0' c1'
        clear hL' hd' H3 HDe hor hdn' HDo hb6 ho6
        go_wp2_with fail
        refine HDO.out.mono ?_
        rintro e w' ⟨rfl, rfl⟩
        go_wp2_with fail
        refine HDE.out.mono ?_
        rintro e w' ⟨rfl, rfl⟩
        go_wp2_with fail
        go_ret
        exact ⟨rfl, Close.out _ _ _ _ _ _ HL'.out Ho6.out Hb6.out HRo.out Hfo.out⟩
end Go.Proofs.YtmimplmeccoahaaDoor
