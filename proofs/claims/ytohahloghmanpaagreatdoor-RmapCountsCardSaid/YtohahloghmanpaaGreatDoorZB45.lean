/-
  RLaw12
-/
import Derived.Test.YtohahloghmanpaaGreatDoorZB39
import Derived.Test.YtohahloghmanpaaGreatDoorZB41
import Derived.Test.YtohahloghmanpaaGreatDoorZB42
import Derived.Test.YtohahloghmanpaaGreatDoorZB44
import Derived.ChangeMaps5
namespace Go.Proofs.YtohahloghmanpaaGreatDoor
open Go.RowKit Go.Lib
set_option linter.unusedVariables false
set_option maxRecDepth 20000
attribute [local go_sem ↓] seal_append
attribute [local go_sem] opC upC

def IsText (w : World) (v : Value) : Prop := ∃ k : RKey, v = .string ⟨k.toArray⟩ ∧ k.length ≤ maxLen
theorem open_Text {H : Type} {enc : TypeId × Value → H} {w : World} {b0 : Nat} {v : Value} {d : DataW H} {p : List MemPlace}
    (hv : Value.okWide Tryz.prog w .any b0 9 v) (h : DataW.Trod enc Tryz.prog w 0 (fun _ => true) true 9 v d p) : IsText w v := by
  obtain ⟨s, rfl, -, -, hs⟩ := ChangeMaps.open_string Tryz.underlying9 hv h
  obtain ⟨⟨l⟩⟩ := s
  exact ⟨l, rfl, hs⟩
theorem cn_cell {F : Blks} {w : World} {a : Option Addr} {n cap : Nat} {l : List RCn} (h : Rows F w 2 (.slice a n cap) l.length (l.flatMap encCn)) (h0 : 0 < l.length) :
    ∃ b off, a = some ⟨b, off, none⟩ ∧ F b ∧ b < w.heap.size ∧ ∀ i (hi : i < l.length), w.cell? ⟨b, off + i * 2, none⟩ = some (.string ⟨l[i].1.toArray⟩) ∧ w.cell? ⟨b, off + i * 2 + 1, none⟩ = some (.int .i64 l[i].2) := by
  obtain ⟨b, off, rfl, hF, hb, hc⟩ := h.cells h0
  refine ⟨b, off, rfl, hF, hb, fun i hi => ⟨?_, ?_⟩⟩
  · have := hc (i * 2) (.string ⟨l[i].1.toArray⟩) (by rw [← Nat.add_zero (i * 2), flat_get encCn 2 encCn_len l i 0 hi (by omega)]; rfl)
    exact this
  · have := hc (i * 2 + 1) (.int .i64 l[i].2) (by rw [flat_get encCn 2 encCn_len l i 1 hi (by omega)]; rfl)
    rw [Nat.add_assoc]; exact this
theorem counts_len (m : RMap) : (countsR m).length ≤ m.items.length := by
  unfold countsR
  split
  · exact refC_len m _
  · exact Nat.zero_le _
set_option maxRecDepth 100000 in
set_option maxHeartbeats 3000000 in
theorem RmapCounts_walk (v kv : Value) (w : World) (hv : IsRMap w v) (hkv : IsText w kv) (hq : Tabs w ∧ 3 ≤ w.heap.size) :
    Calls Tryz.prog 3 #[v, kv] w fun e w' => e = .returned (.bool true) ∧ Below w.heap.size w w' := by
  obtain ⟨m, h⟩ := hv
  obtain ⟨key, rfl, hkl⟩ := hkv
  have HTb := Lib.hid (show ∀ w', Below w.heap.size w w' → Tabs w' ∧ 3 ≤ w'.heap.size from fun w' hb => ⟨tabs_below hq.1 hq.2 hb, Nat.le_trans hq.2 hb.size⟩)
  clear hq
  obtain ⟨s1, s2, s3, rfl, h⟩ := h
  obtain ⟨a1, p1, rfl, -⟩ := h.seen.shape
  obtain ⟨a2, p2, rfl, -⟩ := h.items.shape
  obtain ⟨a3, p3, rfl, -⟩ := h.gone.shape
  obtain ⟨wx, hwx⟩ : ∃ wx, wx = w.alloc (.cells #[.slice a1 m.seen.length p1, .slice a2 m.items.length p2, .slice a3 m.gone.length p3] 26) := ⟨_, rfl⟩
  have hbx : Below w.heap.size w wx := by rw [hwx]; exact kept_alloc _ _
  have hzx : wx.heap.size = w.heap.size + 1 := by rw [hwx]; simp
  have hx := h.keep (w' := wx) fun b _ hlt => hbx.block b hlt
  have hnx : Blk wx w.heap.size [.slice a1 m.seen.length p1, .slice a2 m.items.length p2, .slice a3 m.gone.length p3] 26 := by rw [hwx]; exact Blk.new _ _ _
  have Hx := Lib.hid hx
  have Hwx := Lib.hid hwx; have Hbx := Lib.hid hbx; have Hzx := Lib.hid hzx
  have Hnx := Lib.hid hnx
  clear hx hwx hbx hnx hzx h
  have HF := Lib.hid (few_any wx _ _ m ⟨_, _, _, rfl, Hx.out⟩)
  obtain ⟨c0, c1, c2⟩ := cell3 Hnx.out
  go_enter Tryz.func3, Tryz.ntmps3
  go_wp2_with fail
  rw [← Hwx.out]
  refine HF.out.mono ?_
  rintro e w1 ⟨r, rfl, hsm, hb1⟩
  have hb1' : Below w.heap.size w w1 := Hbx.out.trans (hb1.mono Hbx.out.size)
  clear HF
  cases r with
  | false =>
    have Hb1 := Lib.hid hb1'
    clear hb1' hb1 hsm
    go_wp2_with fail
    go_ret
    exact ⟨rfl, Hb1.out⟩
  | true =>
    have hsz : (ByteArray.mk key.toArray).size = key.length := rfl
    obtain ⟨kn, hkn⟩ : ∃ kn, key.length = kn := ⟨_, rfl⟩
    rw [hkn] at hsz
    by_cases h500 : (500 : Int) < (kn : Int)
    · have Hb1 := Lib.hid hb1'
      clear hb1' hb1 hsm
      go_wp2_with fail
      go_ret
      exact ⟨rfl, Hb1.out⟩
    have Hkn := Lib.hid hkn
    have Hk5 := Lib.hid (show kn ≤ 500 by omega)
    clear hkn
    have hsm := hsm rfl
    have kI : ∀ x ∈ m.items, x.key.length ≤ 1000000 := fun x hx => by have := hsm.ikeys x hx; omega
    have kG : ∀ x ∈ m.gone, x.key.length ≤ 1000000 := fun x hx => by have := hsm.gkeys x hx; omega
    have hS1 := Hx.out.keep (w' := w1) fun b _ hlt => hb1.block b hlt
    have hN1 := Hnx.out.keep (hb1.block _ Hnx.out.lt)
    have HG := Lib.hid (given_any w1 _ _ m ⟨_, _, _, rfl, hS1⟩ (by have := hsm.seen; omega) (by have := hsm.items; omega) (by have := hsm.gone; omega))
    clear c0 c1 c2
    obtain ⟨c0, c1, c2⟩ := cell3 hN1
    have Hb1 := Lib.hid hb1'; have HS1 := Lib.hid hS1; have HN1 := Lib.hid hN1; have Hsm := Lib.hid hsm; have HkI := Lib.hid kI; have HkG := Lib.hid kG
    clear hb1 hb1' hS1 hN1 hsm kI kG
    go_wp2_with fail
    refine HG.out.mono ?_
    rintro e w2 ⟨v2, rfl, hi, hb2⟩
    have hb2' : Below w.heap.size w w2 := Hb1.out.trans (hb2.mono Hb1.out.size)
    obtain ⟨s1i, s2i, s3i, rfl, hi⟩ := hi
    obtain ⟨a1i, p1i, rfl, -⟩ := hi.seen.shape
    obtain ⟨a2i, p2i, rfl, -⟩ := hi.items.shape
    obtain ⟨a3i, p3i, rfl, -⟩ := hi.gone.shape
    obtain ⟨wxi, hwxi⟩ : ∃ wx, wx = w2.alloc (.cells #[.slice a1i m.seen.length p1i, .slice a2i m.items.length p2i, .slice a3i m.gone.length p3i] 31) := ⟨_, rfl⟩
    have hbxi : Below w2.heap.size w2 wxi := by rw [hwxi]; exact kept_alloc _ _
    have hzxi : wxi.heap.size = w2.heap.size + 1 := by rw [hwxi]; simp
    have hxi := hi.keep (w' := wxi) fun b _ hlt => hbxi.block b hlt
    have hnxi : Blk wxi w2.heap.size [.slice a1i m.seen.length p1i, .slice a2i m.items.length p2i, .slice a3i m.gone.length p3i] 31 := by rw [hwxi]; exact Blk.new _ _ _
    have Hxi := Lib.hid hxi
    have Hwxi := Lib.hid hwxi; have Hbxi := Lib.hid hbxi; have Hzxi := Lib.hid hzxi
    have Hnxi := Lib.hid hnxi
    clear hxi hwxi hbxi hnxi hzxi hi
    have hb3 : Below w.heap.size w wxi := hb2'.trans (Hbxi.out.mono hb2'.size)
    have hw13 : Below w1.heap.size w1 wxi := hb2.trans (Hbxi.out.mono hb2.size)
    have HR := Lib.hid (show ∀ W, Below wxi.heap.size wxi W → Below w.heap.size w W ∧ Blk W w.heap.size [.slice a1 m.seen.length p1, .slice a2 m.items.length p2, .slice a3 m.gone.length p3] 26 ∧ MapIn (fun b => b < w.heap.size) W (.slice a1 m.seen.length p1) (.slice a2 m.items.length p2) (.slice a3 m.gone.length p3) m ∧ Blk W w2.heap.size [.slice a1i m.seen.length p1i, .slice a2i m.items.length p2i, .slice a3i m.gone.length p3i] 31 ∧ MapIn (fun b => w1.heap.size ≤ b) W (.slice a1i m.seen.length p1i) (.slice a2i m.items.length p2i) (.slice a3i m.gone.length p3i) m from fun W hb => by
      have hB : Below w.heap.size w W := hb3.trans (hb.mono hb3.size)
      have h1 : Below w1.heap.size w1 W := hw13.trans (hb.mono hw13.size)
      exact ⟨hB, HN1.out.keep (h1.block _ HN1.out.lt), HS1.out.keep (w' := W) fun b _ hlt => h1.block b hlt, Hnxi.out.keep (hb.block _ Hnxi.out.lt), Hxi.out.keep (w' := W) fun b _ hlt => hb.block b hlt⟩)
    have hrr := Below.refl wxi.heap.size wxi
    have HC := Lib.hid (show ∀ W w', Below wxi.heap.size wxi W → Later W w' → (w'.cell? ⟨w.heap.size, 0, none⟩ = some (.slice a1 m.seen.length p1) ∧ w'.cell? ⟨w.heap.size, 1, none⟩ = some (.slice a2 m.items.length p2) ∧ w'.cell? ⟨w.heap.size, 2, none⟩ = some (.slice a3 m.gone.length p3)) ∧ (w'.cell? ⟨w2.heap.size, 0, none⟩ = some (.slice a1i m.seen.length p1i) ∧ w'.cell? ⟨w2.heap.size, 1, none⟩ = some (.slice a2i m.items.length p2i) ∧ w'.cell? ⟨w2.heap.size, 2, none⟩ = some (.slice a3i m.gone.length p3i)) from fun W w' hW hh => by
      have h := HR.out w' (hW.trans (RowKit.Below.mono hh hW.size))
      exact ⟨cell3 h.2.1, cell3 h.2.2.2.1⟩)
    have hd0 : Below wxi.heap.size wxi wxi.drew := (Below.refl wxi.heap.size wxi).drew
    have HP := Lib.hid (pcounts_any wxi.drew (HTb.out _ (HR.out _ hd0).1).1 (HTb.out _ (HR.out _ hd0).1).2 _ (.agg #[.slice a1i m.seen.length p1i, .slice a2i m.items.length p2i, .slice a3i m.gone.length p3i]) m ⟨_, _, _, rfl, (HR.out _ hd0).2.2.2.2⟩ HkI.out HkG.out)
    have pa0 : ∀ w', Later wxi.drew w' → w'.cell? ⟨w.heap.size, 0, none⟩ = some (.slice a1 m.seen.length p1) := fun w' hh => (HC.out _ w' hd0 hh).1.1
    have pa1 : ∀ w', Later wxi.drew w' → w'.cell? ⟨w.heap.size, 1, none⟩ = some (.slice a2 m.items.length p2) := fun w' hh => (HC.out _ w' hd0 hh).1.2.1
    have pa2 : ∀ w', Later wxi.drew w' → w'.cell? ⟨w.heap.size, 2, none⟩ = some (.slice a3 m.gone.length p3) := fun w' hh => (HC.out _ w' hd0 hh).1.2.2
    have pb0 : ∀ w', Later wxi.drew w' → w'.cell? ⟨w2.heap.size, 0, none⟩ = some (.slice a1i m.seen.length p1i) := fun w' hh => (HC.out _ w' hd0 hh).2.1
    have pb1 : ∀ w', Later wxi.drew w' → w'.cell? ⟨w2.heap.size, 1, none⟩ = some (.slice a2i m.items.length p2i) := fun w' hh => (HC.out _ w' hd0 hh).2.2.1
    have pb2 : ∀ w', Later wxi.drew w' → w'.cell? ⟨w2.heap.size, 2, none⟩ = some (.slice a3i m.gone.length p3i) := fun w' hh => (HC.out _ w' hd0 hh).2.2.2
    clear hb2 hb2' hb3 hw13 HG c0 c1 c2 hrr
    go_wp2_with fail
    rw [← Hwxi.out]
    refine wp_region_can Later [(0, true), (2, true), (1, false), (3, false), (4, true), (5, true)] (by kernel_rfl) (by kernel_rfl) later_refl later_trans ?_
    repeat (refine can_yes (v := ?_) rfl (wanted_none rfl) (fun w' hC => ?_) (fun K hK => ?_); rotate_left; (focus (go_simp; (try simp (disch := omega) only [IntWalk.i64_in]); first | done | exact rfl)); go_simp; (try simp (disch := omega) only [IntWalk.i64_in]); refine hK _ ?_; clear hK K)
    clear pa0 pa1 pa2 pb0 pb1 pb2
    refine can_go rfl rfl (fun KK hK => ?_)
    go_simp
    refine HP.out.mono ?_
    rintro e w4 ⟨⟨r4, rfl, hv4⟩, hb4⟩
    refine ⟨_, rfl, hb4, hK _ _ ?_⟩
    clear hK KK HP
    go_simp
    have h4 : Below wxi.heap.size wxi w4 := hd0.trans hb4
    refine can_go rfl rfl (fun KK hK => ?_)
    go_simp
    refine (rcounts_any w4 _ (.agg #[.slice a1 m.seen.length p1, .slice a2 m.items.length p2, .slice a3 m.gone.length p3]) m ⟨_, _, _, rfl, (HR.out w4 h4).2.2.1⟩ (fun x hx => by have := HkI.out x hx; omega) (fun x hx => by have := HkG.out x hx; omega)).mono ?_
    rintro e w5 ⟨⟨r5, rfl, hv5⟩, hb5⟩
    refine ⟨_, rfl, hb5, hK _ _ ?_⟩
    clear hK KK
    go_simp
    repeat (refine can_yes (v := ?_) rfl (wanted_none rfl) (fun w' hC => ?_) (fun K hK => ?_); rotate_left; (focus (go_simp; (try simp (disch := omega) only [IntWalk.i64_in]); first | done | exact rfl)); go_simp; (try simp (disch := omega) only [IntWalk.i64_in]); refine hK _ ?_; clear hK K)
    refine can_nil ?_
    have h5 : Below wxi.heap.size wxi w5 := h4.trans (hb5.mono h4.size)
    have hcl := counts_len m
    obtain ⟨L, hL⟩ : ∃ L, countsR m = L := ⟨_, rfl⟩
    rw [hL] at hv4 hv5 hcl
    have hv4' := (hv4.keep (w' := w5) fun q _ hlt => hb5.block q hlt).mono (G := fun q => q < w5.heap.size) fun q _ hlt => hlt
    have hv5' := hv5.mono (G := fun q => q < w5.heap.size) fun q _ hlt => hlt
    obtain ⟨a4, c4, rfl, -⟩ := id hv4'
    obtain ⟨a5, c5, rfl, -⟩ := id hv5'
    obtain ⟨nl, hnl⟩ : ∃ nl, L.length = nl := ⟨_, rfl⟩
    have HV4 := Lib.hid hv4'; have HV5 := Lib.hid hv5'; have HL := Lib.hid hL; have Hnl := Lib.hid hnl; have H5 := Lib.hid h5
    have Hcl := Lib.hid (show nl ≤ 1000 by have := Hsm.out.items; omega)
    rw [hnl] at HV4 HV5 ⊢
    clear hb4 hb5 h4 hv4 hv5 hv4' hv5' hL hnl hcl hd0
    obtain ⟨w6, hw6⟩ : ∃ q, q = w5.drew := ⟨_, rfl⟩
    have h56 : Below w5.heap.size w5 w6 := by rw [hw6]; exact (Below.refl w5.heap.size w5).drew
    have h6 : Below wxi.heap.size wxi w6 := h5.trans (h56.mono h5.size)
    have pa0 : ∀ w', Later w6 w' → w'.cell? ⟨w.heap.size, 0, none⟩ = some (.slice a1 m.seen.length p1) := fun w' hh => (HC.out _ w' h6 hh).1.1
    have pa1 : ∀ w', Later w6 w' → w'.cell? ⟨w.heap.size, 1, none⟩ = some (.slice a2 m.items.length p2) := fun w' hh => (HC.out _ w' h6 hh).1.2.1
    have pa2 : ∀ w', Later w6 w' → w'.cell? ⟨w.heap.size, 2, none⟩ = some (.slice a3 m.gone.length p3) := fun w' hh => (HC.out _ w' h6 hh).1.2.2
    have pb0 : ∀ w', Later w6 w' → w'.cell? ⟨w2.heap.size, 0, none⟩ = some (.slice a1i m.seen.length p1i) := fun w' hh => (HC.out _ w' h6 hh).2.1
    have pb1 : ∀ w', Later w6 w' → w'.cell? ⟨w2.heap.size, 1, none⟩ = some (.slice a2i m.items.length p2i) := fun w' hh => (HC.out _ w' h6 hh).2.2.1
    have pb2 : ∀ w', Later w6 w' → w'.cell? ⟨w2.heap.size, 2, none⟩ = some (.slice a3i m.gone.length p3i) := fun w' hh => (HC.out _ w' h6 hh).2.2.2
    have HP := Lib.hid (pvalue_any w6 (HTb.out _ (HR.out _ h6).1).1 (HTb.out _ (HR.out _ h6).1).2 _ (.agg #[.slice a1i m.seen.length p1i, .slice a2i m.items.length p2i, .slice a3i m.gone.length p3i]) m ⟨_, _, _, rfl, (HR.out _ h6).2.2.2.2⟩ HkI.out HkG.out key (by have := Hk5.out; have := Hkn.out; omega))
    obtain ⟨vk, hvk⟩ : ∃ vk, valueR m key = vk := ⟨_, rfl⟩
    rw [hvk] at HP
    have Hvk := Lib.hid hvk; have H6 := Lib.hid h6; have H56 := Lib.hid h56; have Hw6 := Lib.hid hw6
    clear hvk h5 h56 h6 hw6
    go_wp2_with fail
    refine wp_region_can Later [(0, true), (1, true), (2, true), (3, true), (4, true), (5, true), (6, true), (7, true), (9, true), (10, true), (8, false), (11, false), (12, true), (13, true)] (by kernel_rfl) (by kernel_rfl) later_refl later_trans ?_
    rw [← Hw6.out]
    repeat (first
      | (refine can_yes (v := ?_) rfl (wanted_none rfl) (fun w' hC => ?_) (fun K hK => ?_); rotate_left; (focus (go_simp; (try simp (disch := omega) only [IntWalk.i64_in]); first | done | exact rfl)); go_simp; (try simp (disch := omega) only [IntWalk.i64_in]); refine hK _ ?_; clear hK K)
      | (refine can_guard rfl (fun A B hA hB => ?_); go_simp; first | (refine hA ⟨?_, fun w' hC => ?_, fun K hK => ?_⟩; rotate_left; (focus (go_simp; (try simp (disch := omega) only [IntWalk.i64_in]); first | done | exact rfl)); go_simp; (try simp (disch := omega) only [IntWalk.i64_in]); refine hK _ ?_; clear hK K hA hB A B) | (refine hB (fun K hK => ?_); go_simp; (try simp (disch := omega) only [IntWalk.i64_in]); refine hK _ ?_; clear hK K hA hB A B))
      | (refine can_guard_go rfl (fun A B hA hB => ?_); go_simp; refine hB (fun K hK => ?_); go_simp; (try simp (disch := omega) only [IntWalk.i64_in]); refine hK _ ?_; clear hK K hA hB A B))
    clear pa0 pa1 pa2 pb0 pb1 pb2
    refine can_go rfl rfl (fun KK hK => ?_)
    go_simp
    refine HP.out.mono ?_
    rintro e w7 ⟨rfl, hb7⟩
    refine ⟨_, rfl, hb7, hK _ _ ?_⟩
    clear hK KK HP
    go_simp
    have h7 : Below wxi.heap.size wxi w7 := H6.out.trans (hb7.mono H6.out.size)
    have hR := rvalue_any w7 _ (.agg #[.slice a1 m.seen.length p1, .slice a2 m.items.length p2, .slice a3 m.gone.length p3]) m ⟨_, _, _, rfl, (HR.out w7 h7).2.2.1⟩ (fun x hx => by have := HkI.out x hx; omega) (fun x hx => by have := HkG.out x hx; omega) key
    rw [Hvk.out] at hR
    repeat (first
      | (refine can_yes (v := ?_) rfl (wanted_none rfl) (fun w' hC => ?_) (fun K hK => ?_); rotate_left; (focus (go_simp; (try simp (disch := omega) only [IntWalk.i64_in]); first | done | exact rfl)); go_simp; (try simp (disch := omega) only [IntWalk.i64_in]); refine hK _ ?_; clear hK K)
      | (refine can_guard rfl (fun A B hA hB => ?_); go_simp; first | (refine hA ⟨?_, fun w' hC => ?_, fun K hK => ?_⟩; rotate_left; (focus (go_simp; (try simp (disch := omega) only [IntWalk.i64_in]); first | done | exact rfl)); go_simp; (try simp (disch := omega) only [IntWalk.i64_in]); refine hK _ ?_; clear hK K hA hB A B) | (refine hB (fun K hK => ?_); go_simp; (try simp (disch := omega) only [IntWalk.i64_in]); refine hK _ ?_; clear hK K hA hB A B))
      | (refine can_guard_go rfl (fun A B hA hB => ?_); go_simp; refine hB (fun K hK => ?_); go_simp; (try simp (disch := omega) only [IntWalk.i64_in]); refine hK _ ?_; clear hK K hA hB A B))
    refine can_go rfl rfl (fun KK hK => ?_)
    go_simp
    refine hR.mono ?_
    rintro e w8 ⟨rfl, hb8⟩
    refine ⟨_, rfl, hb8, hK _ _ ?_⟩
    clear hK KK hR
    go_simp
    repeat (first
      | (refine can_yes (v := ?_) rfl (wanted_none rfl) (fun w' hC => ?_) (fun K hK => ?_); rotate_left; (focus (go_simp; (try simp (disch := omega) only [IntWalk.i64_in]); first | done | exact rfl)); go_simp; (try simp (disch := omega) only [IntWalk.i64_in]); refine hK _ ?_; clear hK K)
      | (refine can_guard rfl (fun A B hA hB => ?_); go_simp; first | (refine hA ⟨?_, fun w' hC => ?_, fun K hK => ?_⟩; rotate_left; (focus (go_simp; (try simp (disch := omega) only [IntWalk.i64_in]); first | done | exact rfl)); go_simp; (try simp (disch := omega) only [IntWalk.i64_in]); refine hK _ ?_; clear hK K hA hB A B) | (refine hB (fun K hK => ?_); go_simp; (try simp (disch := omega) only [IntWalk.i64_in]); refine hK _ ?_; clear hK K hA hB A B))
      | (refine can_guard_go rfl (fun A B hA hB => ?_); go_simp; refine hB (fun K hK => ?_); go_simp; (try simp (disch := omega) only [IntWalk.i64_in]); refine hK _ ?_; clear hK K hA hB A B))
    refine can_nil ?_
    have h58 : Below w5.heap.size w5 w8 := H56.out.trans ((hb7.trans (hb8.mono hb7.size)).mono H56.out.size)
    have H58 := Lib.hid h58
    clear hb7 hb8 h7 h58
    go_wp2_with fail
    go_loopw [8] (fun i wr => ∃ k : Nat, k ≤ nl ∧ i = .int .i64 (k : Int) ∧ Below w5.heap.size w5 wr) (fun i _ => nl - (intOf i).toNat)
    case atStart => exact ⟨0, by omega, rfl, H58.out⟩
    case round =>
      obtain ⟨k, hk, rfl, hbw⟩ := hrel
      by_cases hkn : k < nl
      · have hkI : (k : Int) < (nl : Int) := by omega
        have Hkn2 := Lib.hid hkn
        have hkL : k < L.length := by rw [Hnl.out]; exact hkn
        obtain ⟨x, hx⟩ : ∃ x, L[k] = x := ⟨_, rfl⟩
        obtain ⟨wd, hwd⟩ : ∃ q, q = wr.drew := ⟨_, rfl⟩
        have hbd : Below w5.heap.size w5 wd := by rw [hwd]; exact hbw.drew
        have hv4 := HV4.out.keep (w' := wd) fun q hq _ => hbd.block q hq
        have hv5 := HV5.out.keep (w' := wd) fun q hq _ => hbd.block q hq
        rw [← Hnl.out] at hv4 hv5
        obtain ⟨b4, o4, rfl, -, -, hc4⟩ := cn_cell hv4 (by omega)
        obtain ⟨b5, o5, rfl, -, -, hc5⟩ := cn_cell hv5 (by omega)
        obtain ⟨e0, e1⟩ := hc4 k hkL
        obtain ⟨f0, f1⟩ := hc5 k hkL
        rw [hx] at e0 e1 f0 f1
        obtain ⟨xk, xn⟩ := x
        dsimp only at e0 e1 f0 f1
        have hvalid : validR m = true := by
          cases hvv : validR m with
          | true => rfl
          | false =>
            have e : countsR m = [] := by unfold countsR; rw [hvv]; rfl
            rw [HL.out] at e
            rw [e] at hkL
            simp at hkL
        have hval := value_counts hvalid (x := (xk, xn)) (by rw [HL.out, ← hx]; exact List.getElem_mem hkL)
        dsimp only at hval
        have hxk : xk.length ≤ 1000000 := by
          have hm : (xk, xn) ∈ countsM m := by
            have h1 : (xk, xn) ∈ countsR m := by rw [HL.out, ← hx]; exact List.getElem_mem hkL
            unfold countsR at h1
            rw [if_pos hvalid] at h1
            exact h1
          obtain ⟨⟨y, hy, e⟩, -⟩ := ((counts_ok (valid_formed hvalid).items).mem xk xn).1 hm
          rw [← e]; exact HkI.out y hy
        have hdx : Below wxi.heap.size wxi wd := H5.out.trans (hbd.mono H5.out.size)
        have pl : ∀ a u, wd.cell? a = some u → ∀ w', Later wd w' → w'.cell? a = some u := fun a u hc w' hh => (hh.cell (p := a) (cellLt hc)).trans hc
        have pe0 := pl _ _ e0
        have pe1 := pl _ _ e1
        have pf0 := pl _ _ f0
        have pf1 := pl _ _ f1
        have pb0 : ∀ w', Later wd w' → w'.cell? ⟨w2.heap.size, 0, none⟩ = some (.slice a1i m.seen.length p1i) := fun w' hh => (HC.out _ w' hdx hh).2.1
        have pb1 : ∀ w', Later wd w' → w'.cell? ⟨w2.heap.size, 1, none⟩ = some (.slice a2i m.items.length p2i) := fun w' hh => (HC.out _ w' hdx hh).2.2.1
        have pb2 : ∀ w', Later wd w' → w'.cell? ⟨w2.heap.size, 2, none⟩ = some (.slice a3i m.gone.length p3i) := fun w' hh => (HC.out _ w' hdx hh).2.2.2
        have hP := pvalue_any wd (HTb.out _ (HR.out _ hdx).1).1 (HTb.out _ (HR.out _ hdx).1).2 _ (.agg #[.slice a1i m.seen.length p1i, .slice a2i m.items.length p2i, .slice a3i m.gone.length p3i]) m ⟨_, _, _, rfl, (HR.out _ hdx).2.2.2.2⟩ HkI.out HkG.out xk (by omega)
        rw [hval] at hP
        have HP := Lib.hid hP; have Hbd := Lib.hid hbd; have Hwd := Lib.hid hwd
        have HE1 := Lib.hid (show ∀ w', Below wd.heap.size wd w' → w'.cell? ⟨b4, o4 + k * 2 + 1, none⟩ = some (.int .i64 xn) from fun w' hh => (hh.cell (p := ⟨b4, o4 + k * 2 + 1, none⟩) (cellLt e1)).trans e1)
        clear hP hbd hwd hval hvalid hxk hdx pl e0 e1 f0 f1 hc4 hc5 hv4 hv5 hx hbw hkL
        go_wp2_with fail
        refine wp_region_can Later [(0, true), (1, true), (2, true), (3, true), (4, true), (5, true), (6, true), (7, true), (8, true), (9, true), (10, true), (11, true), (12, true), (13, true), (14, true), (15, true), (17, true), (18, true), (19, true), (20, true), (21, true), (16, false), (22, true), (23, true)] (by kernel_rfl) (by kernel_rfl) later_refl later_trans ?_
        rw [← Hwd.out]
        repeat (first
          | (refine can_yes (v := ?_) rfl (wanted_none rfl) (fun w' hC => ?_) (fun K hK => ?_); rotate_left; (focus (go_simp; (try simp (disch := omega) only [IntWalk.i64_in]); first | done | exact rfl)); go_simp; (try simp (disch := omega) only [IntWalk.i64_in]); refine hK _ ?_; clear hK K)
          | (refine can_guard rfl (fun A B hA hB => ?_); go_simp; first | (refine hA ⟨?_, fun w' hC => ?_, fun K hK => ?_⟩; rotate_left; (focus (go_simp; (try simp (disch := omega) only [IntWalk.i64_in]); first | done | exact rfl)); go_simp; (try simp (disch := omega) only [IntWalk.i64_in]); refine hK _ ?_; clear hK K hA hB A B) | (refine hB (fun K hK => ?_); go_simp; (try simp (disch := omega) only [IntWalk.i64_in]); refine hK _ ?_; clear hK K hA hB A B))
          | (refine can_guard_go rfl (fun A B hA hB => ?_); go_simp; refine hB (fun K hK => ?_); go_simp; (try simp (disch := omega) only [IntWalk.i64_in]); refine hK _ ?_; clear hK K hA hB A B))
        clear pe0 pe1 pf0 pf1 pb0 pb1 pb2
        refine can_go rfl rfl (fun KK hK => ?_)
        go_simp
        refine HP.out.mono ?_
        rintro e w9 ⟨rfl, hb9⟩
        refine ⟨_, rfl, hb9, hK _ _ ?_⟩
        clear hK KK HP
        go_simp
        have Hb9 := Lib.hid (show Below w5.heap.size w5 w9 from Hbd.out.trans (hb9.mono Hbd.out.size))
        clear hb9
        repeat (first
          | (refine can_yes (v := ?_) rfl (wanted_none rfl) (fun w' hC => ?_) (fun K hK => ?_); rotate_left; (focus (go_simp; (try simp (disch := omega) only [IntWalk.i64_in]); first | done | exact rfl)); go_simp; (try simp (disch := omega) only [IntWalk.i64_in]); refine hK _ ?_; clear hK K)
          | (refine can_guard rfl (fun A B hA hB => ?_); go_simp; first | (refine hA ⟨?_, fun w' hC => ?_, fun K hK => ?_⟩; rotate_left; (focus (go_simp; (try simp (disch := omega) only [IntWalk.i64_in]); first | done | exact rfl)); go_simp; (try simp (disch := omega) only [IntWalk.i64_in]); refine hK _ ?_; clear hK K hA hB A B) | (refine hB (fun K hK => ?_); go_simp; (try simp (disch := omega) only [IntWalk.i64_in]); refine hK _ ?_; clear hK K hA hB A B))
          | (refine can_guard_go rfl (fun A B hA hB => ?_); go_simp; refine hB (fun K hK => ?_); go_simp; (try simp (disch := omega) only [IntWalk.i64_in]); refine hK _ ?_; clear hK K hA hB A B))
        refine can_nil ?_
        have hb1000 : nl ≤ 1000 := Hcl.out
        have hk1000 : k ≤ 1000 := by have := Hkn2.out; omega
        have hk0 : 0 ≤ (k : Int) ∧ (k : Int) ≤ 1000 := by omega
        go_wp2_with fail
        go_roundw
        case rel => exact ⟨k + 1, Hkn2.out, by go_num, Hb9.out⟩
        case measure => have := Hkn2.out; simp [intOf]; omega
      · have hkI : ¬ (k : Int) < (nl : Int) := by omega
        have hx5 : Below wxi.heap.size wxi wr := H5.out.trans (hbw.mono H5.out.size)
        obtain ⟨hw5, kA, hMi, kI, hIn⟩ := HR.out wr hx5
        have HS := Lib.hid (same_any wr _ _ _ _ m m ⟨_, _, _, rfl, hIn⟩ ⟨_, _, _, rfl, hMi⟩ (by have := Hsm.out.seen; omega) (by have := Hsm.out.items; omega) (by have := Hsm.out.gone; omega))
        obtain ⟨c0, c1, c2⟩ := cell3 kA
        obtain ⟨d0, d1, d2⟩ := cell3 kI
        have Hw5 := Lib.hid hw5
        clear hw5 kA hMi kI hIn hx5 hbw
        go_wp2_with fail
        refine HS.out.mono ?_
        rintro e w10 ⟨r, rfl, hr, hb10⟩
        obtain rfl : r = true := hr.2 rfl
        have Hb10 := Lib.hid (show Below w.heap.size w w10 from Hw5.out.trans (hb10.mono Hw5.out.size))
        have HW := Lib.hid (works_any w10 (HTb.out _ Hb10.out).1 (HTb.out _ Hb10.out).2)
        clear HS hr hb10 c0 c1 c2 d0 d1 d2
        go_wp2_with fail
        refine HW.out.mono ?_
        rintro e w11 ⟨rfl, hb11⟩
        clear HW
        go_wp2_with fail
        go_ret
        exact ⟨rfl, Hb10.out.trans (hb11.mono Hb10.out.size)⟩
end Go.Proofs.YtohahloghmanpaaGreatDoor
