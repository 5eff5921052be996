/-
  RWorks
-/
import Derived.Test.YtohahloghmanpaaGreatDoorZB29
import Derived.Maps.Own
import Derived.Maps.Views
import Derived.Test.YtohahloghmanpaaGreatDoorZB03
namespace Go.Proofs.YtohahloghmanpaaGreatDoor
open Go.RowKit Go.Maps Go.WideMaps
set_option linter.unusedVariables false
set_option maxRecDepth 20000
attribute [local go_sem] opC upC

abbrev i64L (n : Int) : DataW Unit := .lit (.int .i64 n)
theorem lawS : Keyed Tryz.prog 9 := string_keyed Tryz.underlying9
theorem zeroI (w : World) : (zeroValue 3).run Tryz.prog w = .ok (.int .i64 0) w := by kernel_rfl
def vsum (m : RMap) (l : List RIt) (k : RKey) : Int := ((l.filter fun x => decide (x.key = k)).map (valIt m)).sum
theorem vsum_all (m : RMap) (k : RKey) : vsum m m.items k = valueM m k := rfl
theorem vsum_snoc (m : RMap) (l : List RIt) (x : RIt) (k : RKey) : vsum m (l ++ [x]) k = vsum m l k + if x.key = k then valIt m x else 0 := by
  unfold vsum
  rw [List.filter_append, List.map_append, List.sum_append]
  by_cases h : x.key = k <;> simp [h]
structure SumD (m : RMap) (k : Nat) (D : DataW Unit) : Prop where
  isMap : IsMap D
  at_ : ∀ key : RKey, D.atKey (.string key) (i64L 0) = i64L (vsum m (m.items.take k) key)
  has_ : ∀ key : RKey, Maps.has D (.string key) = (m.items.take k).any fun x => decide (x.key = key)
theorem SumD.start (m : RMap) : SumD m 0 (.map []) := ⟨isMap_empty, fun _ => rfl, fun _ => rfl⟩
theorem SumD.step {m : RMap} {k : Nat} {D : DataW Unit} (h : SumD m k D) (hk : k < m.items.length) : SumD m (k + 1) (D.put (.string m.items[k].key) (i64L (vsum m (m.items.take k) m.items[k].key + valIt m m.items[k]))) := by
  refine ⟨h.isMap.put _ _, fun key => ?_, fun key => ?_⟩
  · rw [List.take_succ_eq_append_getElem hk, vsum_snoc]
    by_cases e : m.items[k].key = key
    · subst e
      rw [atKey_put_same h.isMap (by trivial), if_pos rfl]
    · rw [atKey_put_other (by simpa using fun h => e h.symm), h.at_, if_neg e, Int.add_zero]
  · rw [List.take_succ_eq_append_getElem hk, List.any_append]
    by_cases e : m.items[k].key = key
    · subst e
      rw [has_put_same h.isMap (by trivial)]
      simp
    · rw [has_put_other (by simpa using fun h => e h.symm), h.has_]
      simp [e]
theorem valIt_le {m : RMap} (f : Formed m) {x : RIt} (hx : x ∈ m.items) : 0 ≤ valIt m x ∧ valIt m x ≤ 16777216 := by
  refine ⟨valIt_nonneg m x, ?_⟩
  have hv := f.val x hx
  unfold valIt decAft
  rw [DM.bnd_id x.val (by omega) (by omega)]
  have := DM.aft_le (m.seen.getD x.dev.toNat 0 - x.seq).toNat x.val (by omega)
  omega
theorem vsum_le (m : RMap) (k : RKey) : ∀ l : List RIt, (∀ x ∈ l, 0 ≤ valIt m x ∧ valIt m x ≤ 16777216) → 0 ≤ vsum m l k ∧ vsum m l k ≤ 16777216 * l.length
  | [], _ => by simp [vsum]
  | x :: l, h => by
    have h1 := h x List.mem_cons_self
    have h2 := vsum_le m k l fun y hy => h y (List.mem_cons_of_mem _ hy)
    unfold vsum at h2 ⊢
    rw [List.filter_cons]
    split
    · rw [List.map_cons, List.sum_cons, List.length_cons]; omega
    · rw [List.length_cons]; omega

def SumsPost (w : World) (m : RMap) (e : Ending) (w' : World) : Prop :=
  (∃ B D, e = .returned (.map (some B)) ∧ w.heap.size ≤ B ∧ w'.ownsMap Tryz.prog 9 (plainElem (H := Unit) Tryz.prog 3) B m.items.length D ∧ SumD m m.items.length D) ∧ Below w.heap.size w w'
set_option maxRecDepth 100000 in
set_option maxHeartbeats 3000000 in
theorem sums_any (w : World) (F : Blks) (v : Value) (m : RMap) (h : MapV F w v m) (f : Formed m) (hl : m.items.length ≤ 1000000) :
    Calls Tryz.prog 13 #[v] w (SumsPost w m) := by
  replace h := h.mono (G := fun b => b < w.heap.size) fun b _ hlt => hlt
  obtain ⟨s1, s2, s3, rfl, h⟩ := h
  obtain ⟨a1, p1, rfl, -⟩ := h.seen.shape
  obtain ⟨a2, p2, rfl, -⟩ := h.items.shape
  obtain ⟨a3, p3, rfl, -⟩ := h.gone.shape
  have l1 := h.seen.len
  have l2 := h.items.len
  have l3 := h.gone.len
  unfold maxLen at l1 l2 l3
  obtain ⟨n1, hn1⟩ : ∃ n, m.seen.length = n := ⟨_, rfl⟩
  obtain ⟨n2, hn2⟩ : ∃ n, m.items.length = n := ⟨_, rfl⟩
  obtain ⟨n3, hn3⟩ : ∃ n, m.gone.length = n := ⟨_, rfl⟩
  rw [hn1, hn2, hn3] at h
  rw [hn1] at l1 ⊢
  rw [hn2] at l2 ⊢
  rw [hn3] at l3 ⊢
  obtain ⟨wx, hwx⟩ : ∃ wx, wx = w.alloc (.cells #[.slice a1 n1 p1, .slice a2 n2 p2, .slice a3 n3 p3] 31) := ⟨_, rfl⟩
  have hbx : Below w.heap.size w wx := by rw [hwx]; exact kept_alloc _ _
  have hzx : wx.heap.size = w.heap.size + 1 := by rw [hwx]; simp
  have hx := h.keep (w' := wx) fun b _ hlt => hbx.block b hlt
  have hnx : Blk wx w.heap.size [.slice a1 n1 p1, .slice a2 n2 p2, .slice a3 n3 p3] 31 := by rw [hwx]; exact Blk.new _ _ _
  have Hx := Lib.hid hx; have Hn1 := Lib.hid hn1; have Hn2 := Lib.hid hn2; have Hn3 := Lib.hid hn3
  have Hwx := Lib.hid hwx; have Hbx := Lib.hid hbx; have Hzx := Lib.hid hzx
  have c0 := hnx.cell 0
  have c1 := hnx.cell 1
  have c2 := hnx.cell 2
  simp at c0 c1 c2
  have Hnx := Lib.hid hnx
  clear hx hn1 hn2 hn3 hwx hbx hnx hzx
  rw [Hn2.out] at hl
  clear h
  obtain ⟨w2, hw2⟩ : ∃ w2, w2 = wx.alloc (.map #[] 0) := ⟨_, rfl⟩
  have hmm := @run_makeMap Tryz.prog
  have hz2 : w2.heap.size = w.heap.size + 2 := by rw [hw2]; simp [Hzx.out]
  have hb2 : Below (w.heap.size + 1) wx w2 := by rw [hw2]; exact (Below.refl _ _).alloc (by rw [Hzx.out]; exact Nat.le_refl _) _
  have hown2 : w2.ownsMap Tryz.prog 9 (plainElem (H := Unit) Tryz.prog 3) (w.heap.size + 1) 0 (.map []) := by
    have := World.ownsMap_made (H := Unit) wx Tryz.prog 9 (plainElem Tryz.prog 3)
    rw [hw2, ← Hzx.out]; exact this
  have HM := Lib.hid (show ∀ W, Below (w.heap.size + 1) wx W → (W.cell? ⟨w.heap.size, 0, none⟩ = some (.slice a1 n1 p1) ∧ W.cell? ⟨w.heap.size, 1, none⟩ = some (.slice a2 n2 p2) ∧ W.cell? ⟨w.heap.size, 2, none⟩ = some (.slice a3 n3 p3)) ∧ MapIn (fun b => b < w.heap.size) W (.slice a1 n1 p1) (.slice a2 n2 p2) (.slice a3 n3 p3) m from fun W hb =>
    ⟨cell3 (Hnx.out.keep (hb.block _ (by omega))), Hx.out.keep fun b hb' hlt => hb.block b (by omega)⟩)
  have Hw2 := Lib.hid hw2; have Hb2 := Lib.hid hb2; have Hz2 := Lib.hid hz2; have Hown2 := Lib.hid hown2
  have Hf := Lib.hid f
  clear hw2 hb2 hz2 hown2 f Hx Hnx
  go_enter Tryz.func13, Tryz.ntmps13
  go_wp2_with fail
  rw [← Hwx.out, ← Hw2.out]
  clear hmm
  go_loopw [10] (fun i wr => ∃ (k : Nat) (D : DataW Unit), k ≤ n2 ∧ i = .int .i64 (k : Int) ∧ Below (w.heap.size + 1) wx wr ∧ w.heap.size + 2 ≤ wr.heap.size ∧ wr.ownsMap Tryz.prog 9 (plainElem Tryz.prog 3) (w.heap.size + 1) k D ∧ SumD m k D) (fun i _ => n2 - (intOf i).toNat)
  case atStart => exact ⟨0, _, by omega, rfl, Hb2.out, by rw [Hz2.out]; exact Nat.le_refl _, Hown2.out, SumD.start m⟩
  case round =>
    obtain ⟨k, D, hk, rfl, hbw, hsz, hown, hD⟩ := hrel
    have Hbw := Lib.hid hbw; have Hown := Lib.hid hown; have HD := Lib.hid hD; have Hsz := Lib.hid hsz
    clear hbw hown hD hsz c0 c1 c2
    by_cases hkn : k < n2
    · have hkI : (k : Int) < (n2 : Int) := by omega
      have hkl : k < m.items.length := by rw [Hn2.out]; exact hkn
      obtain ⟨⟨d0, d1, d2⟩, hmp⟩ := HM.out wr Hbw.out
      obtain ⟨b, off, rfl, -, -, hc⟩ := it_cell hmp.items (by omega)
      obtain ⟨e0, e1, e2, e3⟩ := hc k hkl
      have hst := HD.out.step hkl
      obtain ⟨x, hx⟩ : ∃ x, m.items[k] = x := ⟨_, rfl⟩
      rw [hx] at e0 e1 e2 e3 hst
      have hxm : x ∈ m.items := by rw [← hx]; exact List.getElem_mem hkl
      obtain ⟨k1, k2, k3, k4⟩ := known_seq (Hf.out.iknown x hxm)
      obtain ⟨q, hq⟩ := Int.eq_ofNat_of_zero_le k1
      have hq' : x.dev = (q : Int) := hq
      have hqs : q < m.seen.length := by rw [hq] at k2; omega
      have hq8 : q < 8 := by have := Hf.out.len; omega
      obtain ⟨bs, os, rfl, -, -, hcs⟩ := int_cell hmp.seen (by omega)
      have g0 := hcs q hqs
      obtain ⟨s, hs⟩ : ∃ s, m.seen[q] = s := ⟨_, rfl⟩
      rw [hs] at g0
      have hget : m.seen.getD x.dev.toNat 0 = s := by
        rw [hq', Int.toNat_natCast, List.getD_eq_getElem?_getD, List.getElem?_eq_getElem hqs, hs]; rfl
      have hsle := Hf.out.seen s (by rw [← hs]; exact List.getElem_mem hqs)
      have k4' : x.seq ≤ s := by rw [← hget]; exact k4
      have k3' : 1 ≤ x.seq := k3
      have hvx := valIt_le Hf.out hxm
      have hvd : valIt m x = DM.aft (s - x.seq).toNat (DM.bnd x.val) := by unfold valIt decAft; rw [hget]
      have hvs := vsum_le m x.key (m.items.take k) (fun y hy => valIt_le Hf.out (List.mem_of_mem_take hy))
      have htl : (m.items.take k).length = k := by rw [List.length_take]; omega
      rw [htl] at hvs
      have hat := HD.out.at_ x.key
      obtain ⟨c, hcv⟩ : ∃ c, vsum m (m.items.take k) x.key = c := ⟨_, rfl⟩
      rw [hcv] at hat hvs hst
      obtain ⟨u, hu⟩ : ∃ u, valIt m x = u := ⟨_, rfl⟩
      rw [hu] at hvx hvd hst
      obtain ⟨xk, xd, xs, xv⟩ := x
      dsimp only at e0 e1 e2 e3 hq' hst hat hvd k4' k3'
      subst hq'
      have hkl' := (hmp.itemsB _ hxm).1
      dsimp only at hkl'
      have hkey : keyOf Tryz.prog 9 (.string ⟨xk.toArray⟩) = some (.string xk) := keyOf_string_mk Tryz.underlying9 (show xk.toArray.size ≤ maxLen by unfold maxLen; simpa using hkl')
      obtain ⟨wb, hwb⟩ : ∃ wb, wb = wr.alloc (.cells #[.string ⟨xk.toArray⟩, .int .i64 (q : Int), .int .i64 xs, .int .i64 xv] 47) := ⟨_, rfl⟩
      have hbb : Below wr.heap.size wr wb := by rw [hwb]; exact kept_alloc _ _
      have hXB : Blk wb wr.heap.size [.string ⟨xk.toArray⟩, .int .i64 (q : Int), .int .i64 xs, .int .i64 xv] 47 := by rw [hwb]; exact Blk.new _ _ _
      have hz : w.heap.size + 2 ≤ wr.heap.size := Hsz.out
      have HLook := Lib.hid (show ∀ w', Later wb.drew w' → w'.ownsMap Tryz.prog 9 (plainElem (H := Unit) Tryz.prog 3) (w.heap.size + 1) k D from fun w' hh => by
        have hb : Below wr.heap.size wr w' := hbb.trans (((Below.refl _ _).drew.trans hh).mono hbb.size)
        exact Hown.out.kept (row := none) ⟨hb.os, hb.tape, hb.output, hb.size, fun i hi _ => hb.block i hi⟩ (by simp))
      have hlook : ∀ w', Later wb.drew w' → (Instr.lookup 51 (.map (some (w.heap.size + 1))) (.string ⟨xk.toArray⟩) false).run Tryz.prog w' = .ok (.int .i64 c) w' := fun w' hh => by
        obtain ⟨c', hrun, hat', -⟩ := (HLook.out w' hh).lookup_int lawS Tryz.underlying51 Tryz.underlying3 (zeroI w') hkey
        rw [hat] at hat'
        injection hat' with hat'
        injection hat' with _ hat'
        rw [hrun, hat']
      obtain ⟨x0, x1, x2, x3⟩ := cell4 hXB
      have hlt0 : ∀ {a : Addr} {u : Value}, wr.cell? a = some u → wb.cell? a = some u := fun {a u} h => (hbb.cell (cellLt h)).trans h
      have px0 : ∀ w', Later wb.drew w' → w'.cell? _ = _ := fun w' hh => laterC x0 hh
      have px1 : ∀ w', Later wb.drew w' → w'.cell? _ = _ := fun w' hh => laterC x1 hh
      have px2 : ∀ w', Later wb.drew w' → w'.cell? _ = _ := fun w' hh => laterC x2 hh
      have px3 : ∀ w', Later wb.drew w' → w'.cell? _ = _ := fun w' hh => laterC x3 hh
      have pm0 : ∀ w', Later wb.drew w' → w'.cell? _ = _ := fun w' hh => laterC (hlt0 d0) hh
      have pg0 : ∀ w', Later wb.drew w' → w'.cell? _ = _ := fun w' hh => laterC (hlt0 g0) hh
      have hA := after_any xv (s - xs) wb.drew (by omega)
      rw [← hvd] at hA
      have HA := Lib.hid hA
      have hs1 : IntKind.i64.wrap (s - xs) = s - xs := IntWalk.i64_in _ (by omega)
      have hs2 : IntKind.i64.wrap (c + u) = c + u := IntWalk.i64_in _ (by omega)
      have hs0 : IntKind.i64.wrap (q : Int) = (q : Int) := IntWalk.i64_in _ (by omega)
      have hqI : (q : Int) < (n1 : Int) := by have := Hn1.out; omega
      have Hst := Lib.hid hst; have Hwb := Lib.hid hwb; have Hbb := Lib.hid hbb; have Hkey := Lib.hid hkey
      have Hcu := Lib.hid (show -9223372036854775808 ≤ c + u ∧ c + u ≤ 9223372036854775807 by omega)
      clear hc hcs hx hs hget hsle k1 k2 k3 k4 k3' k4' hvx hvd hvs htl hat hcv hu hkl' hkey hwb hbb hXB hA hst x0 x1 x2 x3 g0 d0 d2 hlt0 hq hmp hxm
      go_wp2_with fail
      rw [← Hwb.out]
      refine wp_region_canL Later 17 [(0, true), (1, true), (2, true), (3, true), (4, true), (5, true), (6, true), (7, true), (8, true), (9, true), (10, true), (11, true), (12, true), (13, true), (14, true), (15, false), (16, true), (17, false)] (by kernel_rfl) (by kernel_rfl) (by kernel_rfl) later_refl later_trans ?_
      repeat (refine canL_yes (v := ?_) rfl (wanted_none rfl) (fun w' hC => ?_) (fun K hK => ?_); rotate_left; (focus (go_simp; (try simp (disch := omega) only [IntWalk.i64_in]); first | done | exact rfl)); go_simp; (try simp (disch := omega) only [IntWalk.i64_in]); refine hK _ ?_; clear hK K)
      refine canL_go rfl rfl (fun KK hK => ?_)
      go_simp
      refine HA.out.mono ?_
      rintro e w4 ⟨rfl, hb4⟩
      refine ⟨_, rfl, hb4, hK _ _ ?_⟩
      clear hK KK HA px0 px1 px2 px3 pm0 pg0 hlook
      go_simp
      obtain ⟨w5, hrun, hown5, hgr⟩ := (HLook.out w4 hb4).update lawS Tryz.underlying51 (by unfold maxLen; omega) Hkey.out (plainElem_int Tryz.underlying3 (a := c + u) (WalkArith.wf_i64 Hcu.out))
      have hz5 : w.heap.size + 2 ≤ w5.heap.size := by
        have h1 := Hbb.out.size
        have h2 : wb.drew.heap.size ≤ w4.heap.size := RowKit.Below.size hb4
        have h2' : wb.heap.size ≤ w4.heap.size := h2
        have h3 := hgr.size
        omega
      have hb5 : Below (w.heap.size + 1) wx w5 := by
        have h1 : Below (w.heap.size + 1) wx w4 := Hbw.out.trans ((Hbb.out.mono (by omega)).trans (((Below.refl _ _).drew.trans hb4).mono (show w.heap.size + 1 ≤ wb.heap.size by have := Hbb.out.size; omega)))
        exact h1.grown hgr (Nat.le_trans (by have := Hbw.out.size; have := Hzx.out; omega) h1.size) (fun j hj => by cases hj; exact Nat.le_refl _)
      have Hown5 := Lib.hid hown5; have Hb5 := Lib.hid hb5
      clear hown5 hb5 hgr hb4
      repeat (refine canL_yes (v := ?_) rfl (wanted_none rfl) (fun w' hC => ?_) (fun K hK => ?_); rotate_left; (focus (go_simp; (try simp (disch := omega) only [IntWalk.i64_in]); first | done | exact rfl)); go_simp; (try simp (disch := omega) only [IntWalk.i64_in]); refine hK _ ?_; clear hK K)
      refine canL_last rfl rfl rfl (fun KK hK => ?_)
      go_simp
      refine hK _ _ ?_
      clear hK KK
      go_simp
      refine canL_nil ?_
      clear hrun
      go_wp2_with fail
      go_roundw
      case rel => exact ⟨k + 1, _, by omega, by go_num, Hb5.out, hz5, Hown5.out, Hst.out⟩
      case measure => simp [intOf]; omega
    · have hkI : ¬ (k : Int) < (n2 : Int) := by omega
      have hkl : k = m.items.length := by rw [Hn2.out]; omega
      have Hfin := Lib.hid (show wr.ownsMap Tryz.prog 9 (plainElem Tryz.prog 3) (w.heap.size + 1) m.items.length D ∧ SumD m m.items.length D from by rw [← hkl]; exact ⟨Hown.out, HD.out⟩)
      have Hbel := Lib.hid (Hbx.out.trans (Hbw.out.mono (Nat.le_succ _)))
      clear hkl
      go_wp2_with fail
      go_ret
      exact ⟨⟨_, D, rfl, Nat.le_succ _, Hfin.out.1, Hfin.out.2⟩, Hbel.out⟩

set_option maxRecDepth 100000 in
set_option maxHeartbeats 1500000 in
theorem pvalue_any (w : World) (hT : Tabs w) (h3 : 3 ≤ w.heap.size) (F : Blks) (v : Value) (m : RMap) (h : MapV F w v m) (hki : ∀ x ∈ m.items, x.key.length ≤ 1000000) (hkg : ∀ x ∈ m.gone, x.key.length ≤ 1000000) (key : RKey) (hk : key.length ≤ 9223372036854775807) :
    Calls Tryz.prog 8 #[v, .string ⟨key.toArray⟩] w fun e w' => e = .returned (.int .i64 (valueR m key)) ∧ Below w.heap.size w w' := by
  replace h := h.mono (G := fun b => b < w.heap.size) fun b _ hlt => hlt
  obtain ⟨s1, s2, s3, rfl, h⟩ := h
  obtain ⟨a1, p1, rfl, -⟩ := h.seen.shape
  obtain ⟨a2, p2, rfl, -⟩ := h.items.shape
  obtain ⟨a3, p3, rfl, -⟩ := h.gone.shape
  have l1 := h.seen.len
  have l2 := h.items.len
  have l3 := h.gone.len
  unfold maxLen at l1 l2 l3
  obtain ⟨n1, hn1⟩ : ∃ n, m.seen.length = n := ⟨_, rfl⟩
  obtain ⟨n2, hn2⟩ : ∃ n, m.items.length = n := ⟨_, rfl⟩
  obtain ⟨n3, hn3⟩ : ∃ n, m.gone.length = n := ⟨_, rfl⟩
  rw [hn1, hn2, hn3] at h
  rw [hn1] at l1 ⊢
  rw [hn2] at l2 ⊢
  rw [hn3] at l3 ⊢
  obtain ⟨wx, hwx⟩ : ∃ wx, wx = w.alloc (.cells #[.slice a1 n1 p1, .slice a2 n2 p2, .slice a3 n3 p3] 31) := ⟨_, rfl⟩
  have hbx : Below w.heap.size w wx := by rw [hwx]; exact kept_alloc _ _
  have hzx : wx.heap.size = w.heap.size + 1 := by rw [hwx]; simp
  have hx := h.keep (w' := wx) fun b _ hlt => hbx.block b hlt
  have hnx : Blk wx w.heap.size [.slice a1 n1 p1, .slice a2 n2 p2, .slice a3 n3 p3] 31 := by rw [hwx]; exact Blk.new _ _ _
  have Hx := Lib.hid hx; have Hn1 := Lib.hid hn1; have Hn2 := Lib.hid hn2; have Hn3 := Lib.hid hn3
  have Hwx := Lib.hid hwx; have Hbx := Lib.hid hbx; have Hzx := Lib.hid hzx
  have c0 := hnx.cell 0
  have c1 := hnx.cell 1
  have c2 := hnx.cell 2
  simp at c0 c1 c2
  have Hnx := Lib.hid hnx
  clear hx hn1 hn2 hn3 hwx hbx hnx hzx
  clear h
  have HC := Lib.hid (check_any wx (tabs_below hT h3 Hbx.out) (by rw [Hzx.out]; omega) _ (.agg #[.slice a1 n1 p1, .slice a2 n2 p2, .slice a3 n3 p3]) m ⟨_, _, _, rfl, Hx.out⟩ hki hkg)
  obtain ⟨ok, hok⟩ : ∃ ok, validR m = ok := ⟨_, rfl⟩
  obtain ⟨r, hr⟩ : ∃ r, valueR m key = r := ⟨_, rfl⟩
  rw [hok] at HC
  rw [hr]
  have Hok := Lib.hid hok; have Hr := Lib.hid hr
  have hkey : keyOf Tryz.prog 9 (.string ⟨key.toArray⟩) = some (.string key) := keyOf_string_mk Tryz.underlying9 (show key.toArray.size ≤ maxLen by unfold maxLen; simpa using hk)
  have Hkey := Lib.hid hkey
  clear hok hr hT hki hkg c0 c1 c2 hkey
  go_enter Tryz.func8, Tryz.ntmps8
  go_wp2_with fail
  rw [← Hwx.out]
  refine HC.out.mono ?_
  rintro e w3 ⟨rfl, hb3⟩
  have Hb3 := Lib.hid (Hbx.out.trans (hb3.mono Hbx.out.size))
  obtain ⟨d0, d1, d2⟩ := cell3 (Hnx.out.keep (hb3.block _ Hnx.out.lt))
  have Hx3 := Lib.hid (Hx.out.keep (w' := w3) fun b _ hlt => hb3.block b hlt)
  clear HC hb3
  cases ok with
  | false =>
    obtain rfl : r = 0 := by rw [← Hr.out]; unfold valueR; rw [Hok.out]; rfl
    go_wp2_with fail
    go_ret
    exact ⟨rfl, Hb3.out⟩
  | true =>
    have f := valid_formed Hok.out
    have HS := Lib.hid (sums_any w3 _ (.agg #[.slice a1 n1 p1, .slice a2 n2 p2, .slice a3 n3 p3]) m ⟨_, _, _, rfl, Hx3.out⟩ f (by have := (valid_lens Hok.out).2.1; omega))
    clear f
    go_wp2_with fail
    refine HS.out.mono ?_
    rintro e w4 ⟨⟨B, D, rfl, -, hown, hD⟩, hb4⟩
    obtain ⟨c, hrun, hat, -⟩ := hown.lookup_int lawS Tryz.underlying51 Tryz.underlying3 (zeroI w4) Hkey.out
    have hc : c = r := by
      have h1 := hD.at_ key
      rw [hat, List.take_length, vsum_all] at h1
      injection h1 with h1
      injection h1 with _ h1
      rw [h1, ← Hr.out]
      unfold valueR
      rw [Hok.out]; rfl
    subst hc
    have Hb4 := Lib.hid (Hb3.out.trans (hb4.mono Hb3.out.size))
    clear hown hat hD hb4 HS
    go_wp2_with fail
    go_ret
    exact ⟨rfl, Hb4.out⟩
end Go.Proofs.YtohahloghmanpaaGreatDoor
/- works: the chapter's first example. -/
namespace Go.Proofs.YtohahloghmanpaaGreatDoor
open Go.RowKit
set_option linter.unusedVariables false
set_option maxRecDepth 20000

abbrev exK : RKey := [49, 97, 0, 98]
theorem exK_ok : keyOk exK = true := by decide +kernel
def exM1 : RMap := ⟨[0, 0, 1, 0, 0, 0, 0, 0], [⟨exK, 2, 1, 65536⟩], []⟩
def exM2 : RMap := ⟨[0, 0, 2, 0, 0, 0, 0, 0], [⟨exK, 2, 2, 130816⟩], []⟩
theorem exA : Allowed 2 [exK] := ⟨by omega, by omega, by simp, fun k hk => by rw [List.mem_singleton.1 hk]; exact exK_ok⟩
theorem sortK_one (k : RKey) : sortK [k] = [k] := List.mergeSort_singleton k
theorem ex_use1 : useM .new 2 [exK] = exM1 := by
  unfold useM
  rw [sortK_one]
  show RMap.mk _ (mergeL RIt.pl _ [] _) _ = _
  rw [mergeL_nil_l]
  rfl
theorem ex_use2 : useM exM1 2 [exK] = exM2 := by
  unfold useM
  rw [sortK_one]
  have h1 : nowR exM1 2 = 2 := by decide +kernel
  have h2 : decUse 65536 (2 - 1) = 130816 := by decide +kernel
  have e := mergeL_eq (pl := RIt.pl) (useBetter 2) (x := ⟨exK, 2, 1, 65536⟩) (y := usedIt 2 2 exK) [] [] rfl
  rw [mergeL_nil_l] at e
  rw [h1]
  show RMap.mk _ (mergeL RIt.pl (useBetter 2) [⟨exK, 2, 1, 65536⟩] [usedIt 2 2 exK]) _ = _
  rw [e]
  unfold useBetter usedIt
  rw [h2]
  rfl
theorem ex_good1 : Good [exK] 1 exM1 := by
  have := (Good.new [exK]).use exA (by omega) (fun k hk => hk) (by omega)
  rw [ex_use1] at this
  exact this
theorem ex_useR1 : useR .new 2 [exK] = (exM1, 0) := by
  rw [useR_ok (Good.new [exK]) (by simp) exA (by omega) (fun k hk => hk) (by omega), ex_use1]
theorem ex_useR2 : useR exM1 2 [exK] = (exM2, 0) := by
  rw [useR_ok ex_good1 (by simp) exA (by omega) (fun k hk => hk) (by omega), ex_use2]
theorem ex_value1 : valueR exM1 exK = 65536 := by
  unfold valueR
  rw [if_pos (ex_good1.valid (by simp))]
  decide +kernel

theorem exM_keys (m : RMap) (h : m = exM1 ∨ m = exM2) : (∀ x ∈ m.items, x.key.length ≤ 1000000) ∧ (∀ x ∈ m.gone, x.key.length ≤ 1000000) ∧ m.seen.length ≤ 1000000 ∧ m.items.length ≤ 1000000 ∧ m.gone.length ≤ 1000000 := by
  rcases h with rfl | rfl
  · exact ⟨fun x hx => by rw [List.mem_singleton.1 hx]; decide, nofun, by decide, by decide, by decide⟩
  · exact ⟨fun x hx => by rw [List.mem_singleton.1 hx]; decide, nofun, by decide, by decide, by decide⟩
set_option maxRecDepth 100000 in
set_option maxHeartbeats 3000000 in
theorem works_any (w : World) (hT : Tabs w) (h3 : 3 ≤ w.heap.size) :
    Calls Tryz.prog 11 #[] w fun e w' => e = .returned (.bool true) ∧ Below w.heap.size w w' := by
  have HTb := Lib.hid (show ∀ W, Below w.heap.size w W → Tabs W ∧ 3 ≤ W.heap.size from fun W hb => ⟨tabs_below hT h3 hb, Nat.le_trans h3 hb.size⟩)
  have HN := Lib.hid (pnew_any w)
  clear hT
  go_enter Tryz.func11, Tryz.ntmps11
  go_wp2_with fail
  refine HN.out.mono ?_
  rintro e w1 ⟨v1, rfl, hm1, hb1⟩
  obtain ⟨w2, hw2⟩ : ∃ w2, w2 = w1.alloc (.cells #[.string ⟨exK.toArray⟩] 9) := ⟨_, rfl⟩
  have hb2 : Below w.heap.size w w2 := by rw [hw2]; exact hb1.alloc hb1.size _
  have hm2 : MapV (fun b => w.heap.size ≤ b) w2 v1 .new := by rw [hw2]; exact hm1.keep fun b _ hlt => Below.heap_alloc _ _ _ hlt
  have hr2 : Rows (fun b => b = w1.heap.size) w2 1 (.slice (some ⟨w1.heap.size, 0, none⟩) 1 1) [exK].length ([exK].map eS) := by
    rw [hw2]; exact rows_new w1 #[.string ⟨exK.toArray⟩] 9 1 rfl (by unfold maxLen; omega)
  have hU := puse_any w2 (HTb.out w2 hb2).1 (HTb.out w2 hb2).2 _ v1 .new hm2 nofun nofun (by decide) (by decide) 2 _ _ [exK] hr2 (by decide) (fun k hk => by rw [List.mem_singleton.1 hk]; decide)
  rw [ex_useR1] at hU
  have HU := Lib.hid hU
  obtain ⟨s1, s2, s3, rfl, -⟩ := hm1
  have Hw2 := Lib.hid hw2; have Hb2 := Lib.hid hb2
  clear hw2 hb2 hm2 hr2 hU hb1 HN
  go_wp2_with fail
  rw [← Hw2.out]
  refine HU.out.mono ?_
  rintro e w3 ⟨⟨r1, rfl, ⟨t1, t2, t3, rfl, ho1⟩, hbd1⟩, hb3⟩
  have hk1 := exM_keys exM1 (.inl rfl)
  obtain ⟨w4, hw4⟩ : ∃ w4, w4 = w3.alloc (.cells #[t1, t2, t3] 31) := ⟨_, rfl⟩
  obtain ⟨a1, d1, ht1⟩ := own_shape ho1.seen
  obtain ⟨a2, d2, ht2⟩ := own_shape ho1.items
  obtain ⟨a3, d3, ht3⟩ := own_shape ho1.gone
  subst ht1 ht2 ht3
  have hb3' : Below w.heap.size w w3 := Hb2.out.trans (hb3.mono Hb2.out.size)
  have hb4 : Below w.heap.size w w4 := by rw [hw4]; exact hb3'.alloc hb3'.size _
  have hM4 : Blk w4 w3.heap.size [.slice a1 exM1.seen.length d1, .slice a2 exM1.items.length d2, .slice a3 exM1.gone.length d3] 31 := by rw [hw4]; exact Blk.new _ _ _
  obtain ⟨w5, hw5⟩ : ∃ w5, w5 = w4.alloc (.cells #[.string ⟨exK.toArray⟩] 9) := ⟨_, rfl⟩
  have hb5 : Below w.heap.size w w5 := by rw [hw5]; exact hb4.alloc hb4.size _
  have hz4 : w4.heap.size = w3.heap.size + 1 := by rw [hw4]; simp
  have hm5 : MapV (fun b => w2.heap.size ≤ b) w5 (.agg #[.slice a1 exM1.seen.length d1, .slice a2 exM1.items.length d2, .slice a3 exM1.gone.length d3]) exM1 := by
    have h1 : MapV (fun b => w2.heap.size ≤ b) w3 (.agg #[.slice a1 exM1.seen.length d1, .slice a2 exM1.items.length d2, .slice a3 exM1.gone.length d3]) exM1 := ⟨_, _, _, rfl, ho1.map hbd1⟩
    rw [hw5, hw4]
    exact (h1.keep fun b _ hlt => Below.heap_alloc _ _ _ hlt).keep fun b _ hlt => Below.heap_alloc _ _ _ hlt
  have hr5 : Rows (fun b => b = w4.heap.size) w5 1 (.slice (some ⟨w4.heap.size, 0, none⟩) 1 1) [exK].length ([exK].map eS) := by
    rw [hw5]; exact rows_new w4 #[.string ⟨exK.toArray⟩] 9 1 rfl (by unfold maxLen; omega)
  have hU := puse_any w5 (HTb.out w5 hb5).1 (HTb.out w5 hb5).2 _ _ exM1 hm5 hk1.1 hk1.2.1 hk1.2.2.2.1 hk1.2.2.2.2 2 _ _ [exK] hr5 (by decide) (fun k hk => by rw [List.mem_singleton.1 hk]; decide)
  rw [ex_useR2, hz4] at hU
  have HU2 := Lib.hid hU
  have Hw5 := Lib.hid (show w5 = (w3.alloc (.cells #[.slice a1 exM1.seen.length d1, .slice a2 exM1.items.length d2, .slice a3 exM1.gone.length d3] 31)).alloc (.cells #[.string ⟨exK.toArray⟩] 9) by rw [hw5, hw4])
  have hM5 := hM4.alloc (.cells #[.string ⟨exK.toArray⟩] 9)
  rw [← hw5] at hM5
  have HM5 := Lib.hid hM5; have Hb5 := Lib.hid hb5; have Hm5 := Lib.hid hm5
  clear hU hw5 hw4 hb3 hb3' hb4 hM4 hM5 hb5 hm5 hr5 ho1 hbd1 hz4 hk1 HU
  go_wp2_with fail
  rw [← Hw5.out]
  refine HU2.out.mono ?_
  rintro e w6 ⟨⟨r2, rfl, ⟨u1, u2, u3, rfl, ho2⟩, hbd2⟩, hb6⟩
  have hk1 := exM_keys exM1 (.inl rfl)
  have hk2 := exM_keys exM2 (.inr rfl)
  obtain ⟨b1, f1, hu1⟩ := own_shape ho2.seen
  obtain ⟨b2, f2, hu2⟩ := own_shape ho2.items
  obtain ⟨b3, f3, hu3⟩ := own_shape ho2.gone
  subst hu1 hu2 hu3
  have hbw6 : Below w.heap.size w w6 := Hb5.out.trans (hb6.mono Hb5.out.size)
  obtain ⟨w7, hw7⟩ : ∃ w7, w7 = w6.alloc (.cells #[.slice b1 exM2.seen.length f1, .slice b2 exM2.items.length f2, .slice b3 exM2.gone.length f3] 31) := ⟨_, rfl⟩
  obtain ⟨w8, hw8⟩ : ∃ w8, w8 = w7.alloc (.cells #[.int .i64 0, .int .i64 0, .int .i64 2, .int .i64 0, .int .i64 0, .int .i64 0, .int .i64 0, .int .i64 0] 3) := ⟨_, rfl⟩
  obtain ⟨w9, hw9⟩ : ∃ w9, w9 = w8.alloc (.cells #[.string ⟨exK.toArray⟩, .int .i64 2, .int .i64 2, .int .i64 130816] 44) := ⟨_, rfl⟩
  have hz7 : w7.heap.size = w6.heap.size + 1 := by rw [hw7]; simp
  have hz8 : w8.heap.size = w6.heap.size + 2 := by rw [hw8]; simp [hz7]
  have hbw9 : Below w.heap.size w w9 := by
    rw [hw9, hw8, hw7]
    exact ((hbw6.alloc hbw6.size _).alloc (by have := hbw6.size; simp; omega) _).alloc (by have := hbw6.size; simp; omega) _
  have hl69 : Below w6.heap.size w6 w9 := by
    rw [hw9, hw8, hw7]
    exact ((kept_alloc _ _).alloc (by simp) _).alloc (by simp; omega) _
  have hm9 : MapV (fun b => w5.heap.size ≤ b) w9 (.agg #[.slice b1 exM2.seen.length f1, .slice b2 exM2.items.length f2, .slice b3 exM2.gone.length f3]) exM2 := MapV.later ⟨_, _, _, rfl, ho2.map hbd2⟩ hl69 (Nat.le_refl _)
  have hlit : MapV (fun _ => True) w9 (.agg #[.slice (some ⟨w6.heap.size + 1, 0, none⟩) 8 8, .slice (some ⟨w6.heap.size + 2, 0, none⟩) 1 1, .slice none 0 0]) exM2 := by
    refine ⟨_, _, _, rfl, ?_, ?_, Rows.nil _ _ _, hbd2.seenB, hbd2.itemsB, hbd2.goneB⟩
    · have h1 := rows_new w7 #[.int .i64 0, .int .i64 0, .int .i64 2, .int .i64 0, .int .i64 0, .int .i64 0, .int .i64 0, .int .i64 0] 3 8 rfl (by unfold maxLen; omega)
      rw [hz7] at h1
      rw [hw9, hw8]
      exact (h1.keep fun b _ hlt => Below.heap_alloc _ _ _ hlt).mono fun _ _ _ => trivial
    · refine ⟨_, 1, rfl, Nat.le_refl _, by unfold maxLen; omega, nofun, rfl, .inr ⟨w6.heap.size + 2, 0, #[.string ⟨exK.toArray⟩, .int .i64 2, .int .i64 2, .int .i64 130816], 44, (0, 0), rfl, trivial, ?_, by decide, fun i hi => ?_⟩⟩
      · rw [hw9, ← hz8]; unfold World.alloc; simp
      · rw [Nat.zero_add]
        rcases (show i = 0 ∨ i = 1 ∨ i = 2 ∨ i = 3 by have : exM2.items.length = 1 := rfl; omega) with rfl | rfl | rfl | rfl <;> rfl
  have hS := same_any w9 _ _ _ _ exM2 exM2 hm9 hlit hk2.2.2.1 hk2.2.2.2.1 hk2.2.2.2.2
  have HS := Lib.hid hS
  have hN9 : Blk w7 w6.heap.size [.slice b1 exM2.seen.length f1, .slice b2 exM2.items.length f2, .slice b3 exM2.gone.length f3] 31 := by rw [hw7]; exact Blk.new _ _ _
  have hlt6 : w3.heap.size < w6.heap.size := Nat.lt_of_lt_of_le HM5.out.lt hb6.size
  have hM9 : Blk w9 w3.heap.size [.slice a1 exM1.seen.length d1, .slice a2 exM1.items.length d2, .slice a3 exM1.gone.length d3] 31 := (HM5.out.keep (hb6.block _ HM5.out.lt)).keep (hl69.block _ hlt6)
  have hm19 := (Hm5.out.later hb6 (Nat.le_refl _)).later hl69 (Nat.le_refl _)
  obtain ⟨g0, g1, g2⟩ := cell3 hN9
  have Hw9 := Lib.hid (show w9 = ((w6.alloc (.cells #[.slice b1 exM2.seen.length f1, .slice b2 exM2.items.length f2, .slice b3 exM2.gone.length f3] 31)).alloc (.cells #[.int .i64 0, .int .i64 0, .int .i64 2, .int .i64 0, .int .i64 0, .int .i64 0, .int .i64 0, .int .i64 0] 3)).alloc (.cells #[.string ⟨exK.toArray⟩, .int .i64 2, .int .i64 2, .int .i64 130816] 44) by rw [hw9, hw8, hw7])
  have Hbw9 := Lib.hid hbw9; have HM9 := Lib.hid hM9; have Hm19 := Lib.hid hm19
  clear HU2 ho2 hbd2 hb6 hbw6 hw7 hw8 hw9 hz7 hz8 hbw9 hl69 hm9 hlit hS hN9 hM9 hm19 g0 g1 g2 hk2
  go_wp2_with fail
  rw [← Hw9.out]
  refine HS.out.mono ?_
  rintro e w10 ⟨r, rfl, hr, hb10⟩
  obtain rfl : r = true := hr.2 rfl
  have hbw10 : Below w.heap.size w w10 := Hbw9.out.trans (hb10.mono Hbw9.out.size)
  obtain ⟨m0, m1, m2⟩ := cell3 (HM9.out.keep (hb10.block _ HM9.out.lt))
  have hV := pvalue_any w10 (HTb.out w10 hbw10).1 (HTb.out w10 hbw10).2 _ _ exM1 (Hm19.out.later hb10 (Nat.le_refl _)) hk1.1 hk1.2.1 exK (by decide)
  rw [ex_value1] at hV
  have HV := Lib.hid hV; have Hbw10 := Lib.hid hbw10
  clear hV hbw10 hb10 hr HS hk1
  go_wp2_with fail
  refine HV.out.mono ?_
  rintro e w11 ⟨rfl, hb11⟩
  clear HV
  go_wp2_with fail
  go_ret
  exact ⟨rfl, Hbw10.out.trans (hb11.mono Hbw10.out.size)⟩
end Go.Proofs.YtohahloghmanpaaGreatDoor
