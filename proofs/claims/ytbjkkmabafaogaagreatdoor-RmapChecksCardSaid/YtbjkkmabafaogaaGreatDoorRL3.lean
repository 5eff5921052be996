/- A map is copied: given, taken. -/
import Derived.Test.YtbjkkmabafaogaaGreatDoorRL2
namespace Go.Proofs.YtbjkkmabafaogaaGreatDoor
open Go.RowKit
set_option linter.unusedVariables false
set_option maxRecDepth 20000
attribute [local go_sem ↓] seal_append

theorem infoI : (Tryz.prog.info? 3).map (fun i => (i.zero, i.size, i.bytes)) = some (some (.int .i64 0), 1, 8) := by kernel_rfl
theorem infoItR : (Tryz.prog.info? 72).map (fun i => (i.zero, i.size, i.bytes)) = some (some (.agg #[.string ⟨#[]⟩, .int .i64 0, .int .i64 0, .int .i64 0]), 4, 40) := by kernel_rfl
theorem infoItP : (Tryz.prog.info? 75).map (fun i => (i.zero, i.size, i.bytes)) = some (some (.agg #[.string ⟨#[]⟩, .int .i64 0, .int .i64 0, .int .i64 0]), 4, 40) := by kernel_rfl
theorem infoGoR : (Tryz.prog.info? 74).map (fun i => (i.zero, i.size, i.bytes)) = some (some (.agg #[.string ⟨#[]⟩, .int .i64 0, .int .i64 0]), 3, 32) := by kernel_rfl
theorem infoGoP : (Tryz.prog.info? 83).map (fun i => (i.zero, i.size, i.bytes)) = some (some (.agg #[.string ⟨#[]⟩, .int .i64 0, .int .i64 0]), 3, 32) := by kernel_rfl

def GivenPost (w : World) (m : RMap) (e : Ending) (w' : World) : Prop := ∃ v, e = .returned v ∧ MapV (fun b => w.heap.size ≤ b) w' v m ∧ Below w.heap.size w w'

/-- a map that is being copied: k2 items, k3 elements of gone are there -/
structure GivSt (tA tO tI tIt tGo : TypeId) (w wr : World) (m : RMap) (P : List Value) (v1 v2 v3 : Value) (k2 k3 : Nat) : Prop where
  out : Blk wr (w.heap.size + 1 + 1) [v1, v2, v3] tO
  par : Blk wr w.heap.size P tA
  res : Blk wr (w.heap.size + 1) [.slice none 0 0, .slice none 0 0, .slice none 0 0] tO
  o1 : wr.ownsRow w.heap.size tI 1 v1 m.seen.length (m.seen.map eI)
  o2 : wr.ownsRow w.heap.size tIt 4 v2 k2 ((m.items.take k2).flatMap encIt)
  o3 : wr.ownsRow w.heap.size tGo 3 v3 k3 ((m.gone.take k3).flatMap encGo)
  below : Below w.heap.size w wr

section
variable {tA tO tI tIt tGo : TypeId} {w wr : World} {m : RMap} {P : List Value} {v1 v2 v3 : Value} {k2 k3 : Nat}
theorem GivSt.kept (st : GivSt tA tO tI tIt tGo w wr m P v1 v2 v3 k2 k3) {wt : World} (hb : Below wr.heap.size wr wt) : GivSt tA tO tI tIt tGo w wt m P v1 v2 v3 k2 k3 :=
  ⟨st.out.keep (hb.block _ st.out.lt), st.par.keep (hb.block _ st.par.lt), st.res.keep (hb.block _ st.res.lt), own_below st.o1 hb, own_below st.o2 hb, own_below st.o3 hb, st.below.trans (hb.mono st.below.size)⟩
theorem take_flat {α : Type} (enc : α → List Value) (l : List α) (k : Nat) (h : k < l.length) : (l.take (k + 1)).flatMap enc = (l.take k).flatMap enc ++ enc l[k] := by
  rw [List.take_succ_eq_append_getElem h, List.flatMap_append]
  simp
theorem GivSt.stepIt (st : GivSt tA tO tI tIt tGo w wr m P v1 v2 v3 k2 k3) {w' : World} {v2' : Value} (hk : k2 < m.items.length) (own : w'.ownsRow w.heap.size tIt 4 v2' (k2 + 1) ((m.items.take k2).flatMap encIt ++ encIt m.items[k2])) (hg : wr.grownBy w' v2.ownBlock)
    (n1 : tIt ≠ tO) (n2 : tIt ≠ tA) (n3 : tIt ≠ tI) (n4 : tIt ≠ tGo) (n5 : tI ≠ tO) (n6 : tGo ≠ tO) : GivSt tA tO tI tIt tGo w (w'.setCell ⟨w.heap.size + 1 + 1, 1, none⟩ v2') m P v1 v2' v3 (k2 + 1) k3 := by
  have hout := st.out.grownNe st.o2 n1 hg
  have hlt := st.out.lt
  refine ⟨hout.set 1 v2', (st.par.grownNe st.o2 n2 hg).set_other v2' (by show w.heap.size ≠ w.heap.size + 1 + 1; omega), (st.res.grownNe st.o2 n1 hg).set_other v2' (by show w.heap.size + 1 ≠ w.heap.size + 1 + 1; omega), own_setCell (own_grownNe st.o1 st.o2 n3 hg) hout n5 _, ?_, own_setCell (own_grownNe st.o3 st.o2 n4 hg) hout n6 _, ?_⟩
  · rw [take_flat _ _ _ hk]
    exact own_setCell own hout n1 _
  · exact (st.below.trans (Below.grownOwn st.o2 hg st.below.size (Nat.le_refl _))).setCell (by show w.heap.size ≤ w.heap.size + 1 + 1; omega) _
theorem GivSt.stepGo (st : GivSt tA tO tI tIt tGo w wr m P v1 v2 v3 k2 k3) {w' : World} {v3' : Value} (hk : k3 < m.gone.length) (own : w'.ownsRow w.heap.size tGo 3 v3' (k3 + 1) ((m.gone.take k3).flatMap encGo ++ encGo m.gone[k3])) (hg : wr.grownBy w' v3.ownBlock)
    (n1 : tGo ≠ tO) (n2 : tGo ≠ tA) (n3 : tGo ≠ tI) (n4 : tGo ≠ tIt) (n5 : tI ≠ tO) (n6 : tIt ≠ tO) : GivSt tA tO tI tIt tGo w (w'.setCell ⟨w.heap.size + 1 + 1, 2, none⟩ v3') m P v1 v2 v3' k2 (k3 + 1) := by
  have hout := st.out.grownNe st.o3 n1 hg
  refine ⟨hout.set 2 v3', (st.par.grownNe st.o3 n2 hg).set_other v3' (by show w.heap.size ≠ w.heap.size + 1 + 1; omega), (st.res.grownNe st.o3 n1 hg).set_other v3' (by show w.heap.size + 1 ≠ w.heap.size + 1 + 1; omega), own_setCell (own_grownNe st.o1 st.o3 n3 hg) hout n5 _, own_setCell (own_grownNe st.o2 st.o3 n4 hg) hout n6 _, ?_, ?_⟩
  · rw [take_flat _ _ _ hk]
    exact own_setCell own hout n1 _
  · exact (st.below.trans (Below.grownOwn st.o3 hg st.below.size (Nat.le_refl _))).setCell (by show w.heap.size ≤ w.heap.size + 1 + 1; omega) _
theorem GivSt.done (st : GivSt tA tO tI tIt tGo w wr m P v1 v2 v3 k2 k3) (h2 : k2 = m.items.length) (h3 : k3 = m.gone.length) {F : Blks} {w0 : World} {s1 s2 s3 : Value} (hm : MapIn F w0 s1 s2 s3 m) (n1 : tI ≠ tO) (n2 : tIt ≠ tO) (n3 : tGo ≠ tO) {wf : World}
    (hwf : wf = ((wr.setCell ⟨w.heap.size + 1, 0, none⟩ v1).setCell ⟨w.heap.size + 1, 1, none⟩ v2).setCell ⟨w.heap.size + 1, 2, none⟩ v3) :
    Blk wf (w.heap.size + 1) [v1, v2, v3] tO ∧ MapV (fun b => w.heap.size ≤ b) wf (.agg #[v1, v2, v3]) m ∧ Below w.heap.size w wf := by
  subst h2 h3 hwf
  have r0 := st.res
  have r1 := r0.set 0 v1
  have r2 := r1.set 1 v2
  have r3 := r2.set 2 v3
  have e2 := st.o2
  have e3 := st.o3
  rw [List.take_length] at e2 e3
  have o1 := own_setCell (i := 2) (own_setCell (i := 1) (own_setCell (i := 0) st.o1 r0 n1 v1) r1 n1 v2) r2 n1 v3
  have o2 := own_setCell (i := 2) (own_setCell (i := 1) (own_setCell (i := 0) e2 r0 n2 v1) r1 n2 v2) r2 n2 v3
  have o3 := own_setCell (i := 2) (own_setCell (i := 1) (own_setCell (i := 0) e3 r0 n3 v1) r1 n3 v2) r2 n3 v3
  have hb : Below w.heap.size w _ := ((st.below.setCell (p := ⟨w.heap.size + 1, 0, none⟩) (by show w.heap.size ≤ w.heap.size + 1; omega) v1).setCell (p := ⟨w.heap.size + 1, 1, none⟩) (by show w.heap.size ≤ w.heap.size + 1; omega) v2).setCell (p := ⟨w.heap.size + 1, 2, none⟩) (by show w.heap.size ≤ w.heap.size + 1; omega) v3
  exact ⟨r3, ⟨v1, v2, v3, rfl, (Rows.of_owns o1).mono (fun b h _ => h.1), (Rows.of_owns o2).mono (fun b h _ => h.1), (Rows.of_owns o3).mono (fun b h _ => h.1), hm.seenB, hm.itemsB, hm.goneB⟩, hb⟩
end


set_option maxRecDepth 100000 in
set_option maxHeartbeats 1500000 in
theorem given_any (w : World) (F : Blks) (v : Value) (m : RMap) (h : MapV F w v m) (hs : m.seen.length ≤ 1000000) (hi : m.items.length ≤ 1000000) (hg : m.gone.length ≤ 1000000) :
    Calls Tryz.prog 18 #[v] w (GivenPost w m) := by
  obtain ⟨s1, s2, s3, rfl, h⟩ := h
  obtain ⟨a1, p1, rfl, -⟩ := h.seen.shape
  obtain ⟨a2, p2, rfl, -⟩ := h.items.shape
  obtain ⟨a3, p3, rfl, -⟩ := h.gone.shape
  have l1 := h.seen.len
  have l2 := h.items.len
  have l3 := h.gone.len
  unfold maxLen at l1 l2 l3
  obtain ⟨n1, hn1⟩ : ∃ n, m.seen.length = n := ⟨_, rfl⟩
  obtain ⟨n2, hn2⟩ : ∃ n, m.items.length = n := ⟨_, rfl⟩
  obtain ⟨n3, hn3⟩ : ∃ n, m.gone.length = n := ⟨_, rfl⟩
  rw [hn1, hn2, hn3] at h
  rw [hn1] at l1 ⊢
  rw [hn2] at l2 ⊢
  rw [hn3] at l3 ⊢
  obtain ⟨wx, hwx⟩ : ∃ wx, wx = w.alloc (.cells #[.slice a1 n1 p1, .slice a2 n2 p2, .slice a3 n3 p3] 26) := ⟨_, rfl⟩
  have hbx : Below w.heap.size w wx := by rw [hwx]; exact kept_alloc _ _
  have hzx : wx.heap.size = w.heap.size + 1 := by rw [hwx]; simp
  have hx := h.keep (w' := wx) fun b _ hlt => hbx.block b hlt
  have hnx : Blk wx w.heap.size [.slice a1 n1 p1, .slice a2 n2 p2, .slice a3 n3 p3] 26 := by rw [hwx]; exact Blk.new _ _ _
  have Hx := Lib.hid hx; have Hn1 := Lib.hid hn1; have Hn2 := Lib.hid hn2; have Hn3 := Lib.hid hn3
  have Hwx := Lib.hid hwx; have Hbx := Lib.hid hbx; have Hzx := Lib.hid hzx
  have c0 := hnx.cell 0
  have c1 := hnx.cell 1
  have c2 := hnx.cell 2
  simp at c0 c1 c2
  have Hnx := Lib.hid hnx
  clear hx hn1 hn2 hn3 hwx hbx hnx hzx
  rw [Hn1.out] at hs
  rw [Hn2.out] at hi
  rw [Hn3.out] at hg
  have Hh := Lib.hid h
  obtain ⟨w2, hw2⟩ : ∃ w2, w2 = (wx.alloc (.cells #[.slice none 0 0, .slice none 0 0, .slice none 0 0] 31)).alloc (.cells #[.slice none 0 0, .slice none 0 0, .slice none 0 0] 31) := ⟨_, rfl⟩
  have hb2 : Below w.heap.size w w2 := by rw [hw2]; exact (Hbx.out.alloc Hbx.out.size _).alloc (by have := Hbx.out.size; simp; omega) _
  have hz2 : w2.heap.size = w.heap.size + 3 := by rw [hw2]; simp [Hzx.out]
  have hx2 : MapIn F w2 _ _ _ m := h.keep fun b _ hlt => hb2.block b hlt
  have ho2 : Blk w2 (w.heap.size + 1 + 1) [.slice none 0 0, .slice none 0 0, .slice none 0 0] 31 := by
    have := Blk.new (wx.alloc (.cells #[.slice none 0 0, .slice none 0 0, .slice none 0 0] 31)) #[.slice none 0 0, .slice none 0 0, .slice none 0 0] 31
    rw [hw2]
    simpa [Hzx.out] using this
  have hr2 : Blk w2 (w.heap.size + 1) [.slice none 0 0, .slice none 0 0, .slice none 0 0] 31 := by
    have := (Blk.new wx #[.slice none 0 0, .slice none 0 0, .slice none 0 0] 31).alloc (.cells #[.slice none 0 0, .slice none 0 0, .slice none 0 0] 31)
    rw [hw2]
    simpa [Hzx.out] using this
  have hp2 : Blk w2 w.heap.size _ _ := Hnx.out.keep (by rw [hw2]; exact ((kept_alloc wx _).trans (kept_alloc _ _ |>.mono (by simp))).block _ Hnx.out.lt)
  obtain ⟨i0, q1, q2, q3, q4⟩ := info_parts infoI
  obtain ⟨v1, w3, hr, hown3, hg3⟩ := run_append_rows (P := Tryz.prog) w2 w.heap.size 22 3 Tryz.underlying22 q1 q2 q3 q4 rfl (by decide) _ _ _ (World.ownsRow_nil w2 w.heap.size 3 1) F _ _ _ hx2.seen (one_eI _) (by rw [Hn1.out]; unfold maxLen; omega) (by rw [Hn1.out]; omega) (by omega)
  rw [Hn1.out, Nat.zero_add, List.nil_append] at hown3
  obtain ⟨b1, d1, rfl, -⟩ := (Rows.of_owns hown3).shape
  have ho3 := ho2.grownNe (World.ownsRow_nil w2 w.heap.size 3 1) (by decide) hg3
  have hr3 := hr2.grownNe (World.ownsRow_nil w2 w.heap.size 3 1) (by decide) hg3
  have hp3 := hp2.grownNe (World.ownsRow_nil w2 w.heap.size 3 1) (by decide) hg3
  have hb3 : Below w.heap.size w w3 := hb2.trans (Below.grownOwn (World.ownsRow_nil w2 w.heap.size 3 1) hg3 (by omega) (Nat.le_refl _))
  have o0 := ho3.cell 0
  have f0 := ho3.free 0
  simp at o0
  obtain ⟨w4, hw4⟩ : ∃ w4, w4 = w3.setCell ⟨w.heap.size + 1 + 1, 0, none⟩ (.slice b1 n1 d1) := ⟨_, rfl⟩
  have st4 : GivSt 26 31 3 75 83 w w4 m [.slice a1 n1 p1, .slice a2 n2 p2, .slice a3 n3 p3] (.slice b1 n1 d1) (.slice none 0 0) (.slice none 0 0) 0 0 := by
    rw [hw4]
    exact ⟨ho3.set 0 _, hp3.set_other _ (by show w.heap.size ≠ w.heap.size + 1 + 1; omega), hr3.set_other _ (by show w.heap.size + 1 ≠ w.heap.size + 1 + 1; omega), by rw [Hn1.out]; exact own_setCell hown3 ho3 (by decide) _, World.ownsRow_nil _ _ _ _, World.ownsRow_nil _ _ _ _, hb3.setCell (by show w.heap.size ≤ w.heap.size + 1 + 1; omega) _⟩
  rw [hw2, Hwx.out] at hr
  have Hst4 := Lib.hid st4; have Hw4 := Lib.hid hw4
  clear h hx2 ho2 hp2 hr2 hown3 hg3 ho3 hp3 hr3 hb3 st4 hw4 hw2 hb2 hz2 q1 q2 q3 q4
  go_enter Tryz.func18, Tryz.ntmps18
  go_wp2_with fail
  rw [← Hw4.out]
  clear hr o0 f0
  go_loopw [4] (fun i wr => ∃ (k : Nat) (v2 : Value), k ≤ n2 ∧ i = .int .i64 (k : Int) ∧ GivSt 26 31 3 75 83 w wr m [.slice a1 n1 p1, .slice a2 n2 p2, .slice a3 n3 p3] (.slice b1 n1 d1) v2 (.slice none 0 0) k 0) (fun i _ => n2 - (intOf i).toNat)
  case atStart => exact ⟨0, _, by omega, rfl, Hst4.out⟩
  case round =>
    obtain ⟨k, v2, hk, rfl, st⟩ := hrel
    have r1 : wr.cell? ⟨w.heap.size, 1, none⟩ = some (.slice a2 n2 p2) := by simpa using st.par.cell 1
    by_cases hkn : k < n2
    · have hkI : (k : Int) < (n2 : Int) := by omega
      have hkm : k < m.items.length := by rw [Hn2.out]; exact hkn
      have hm := Hh.out.keep (w' := wr) fun b _ hlt => st.below.block b hlt
      obtain ⟨b, off, rfl, -, hblt, hc⟩ := it_cell hm.items (by omega)
      obtain ⟨e0, e1, e2, e3⟩ := hc k hkm
      obtain ⟨q, hq⟩ : ∃ q, m.items[k] = q := ⟨_, rfl⟩
      rw [hq] at e0 e1 e2 e3
      obtain ⟨ka, da, sa, va⟩ := q
      dsimp only at e0 e1 e2 e3
      obtain ⟨wt, hwt⟩ : ∃ wt, wt = wr.alloc (.cells #[.string ⟨ka.toArray⟩, .int .i64 da, .int .i64 sa, .int .i64 va] 72) := ⟨_, rfl⟩
      have hbt : Below wr.heap.size wr wt := by rw [hwt]; exact kept_alloc _ _
      have stt := st.kept hbt
      obtain ⟨i0, q1, q2, q3, q4⟩ := info_parts infoItP
      obtain ⟨v2', w5, hr, hown5, hg5⟩ := run_append_one (P := Tryz.prog) wt w.heap.size 28 75 Tryz.underlying28 q1 q2 q3 q4 rfl (by decide) v2 k _ stt.o2 #[.string ⟨ka.toArray⟩, .int .i64 da, .int .i64 sa, .int .i64 va] rfl (by simp [Value.oneCell']) (by unfold maxLen; omega) (by omega) (by have := stt.below.size; omega)
      obtain ⟨b2, d2, rfl, -⟩ := (Rows.of_owns hown5).shape
      have st5 := (stt.kept (kept_alloc wt (.cells #[.string ⟨ka.toArray⟩, .int .i64 da, .int .i64 sa, .int .i64 va] 75))).stepIt hkm (by rw [hq]; exact hown5) hg5 (by decide) (by decide) (by decide) (by decide) (by decide) (by decide)
      have ho5 := (stt.kept (kept_alloc wt (.cells #[.string ⟨ka.toArray⟩, .int .i64 da, .int .i64 sa, .int .i64 va] 75))).out.grownNe (stt.kept (kept_alloc wt (.cells #[.string ⟨ka.toArray⟩, .int .i64 da, .int .i64 sa, .int .i64 va] 75))).o2 (by decide) hg5
      have o1 := ho5.cell 1
      have f1 := ho5.free 1
      simp at o1
      have ht1 : wr.cell? ⟨w.heap.size + 1 + 1, 1, none⟩ = some v2 := by simpa using st.out.cell 1
      have hlt1 := st.out.lt
      have hlt0 := st.par.lt
      have Hst5 := Lib.hid st5; have Hq := Lib.hid hq
      rw [show wt.heap.size = wr.heap.size + 1 by rw [hwt]; simp, hwt] at hr
      clear hm hc hq hbt stt hown5 hg5 st5 ho5 st q1 q2 q3 q4 hwt
      go_wp2_with fail
      go_roundw
      case rel => exact ⟨k + 1, _, by omega, by go_num, Hst5.out⟩
      case measure => simp [intOf]; omega
    · have hkI : ¬ (k : Int) < (n2 : Int) := by omega
      have hke : k = m.items.length := by rw [Hn2.out]; omega
      have Hst := Lib.hid st
      have Hke := Lib.hid hke
      clear st hke
      go_wp2_with fail
      clear r1
      go_loopw [6] (fun i wr => ∃ (k' : Nat) (v3 : Value), k' ≤ n3 ∧ i = .int .i64 (k' : Int) ∧ GivSt 26 31 3 75 83 w wr m [.slice a1 n1 p1, .slice a2 n2 p2, .slice a3 n3 p3] (.slice b1 n1 d1) v2 v3 k k') (fun i _ => n3 - (intOf i).toNat)
      case atStart => exact ⟨0, _, by omega, rfl, Hst.out⟩
      case round =>
        obtain ⟨k', v3, hk', rfl, st⟩ := hrel
        clear Hst
        have r1 : wr.cell? ⟨w.heap.size, 2, none⟩ = some (.slice a3 n3 p3) := by simpa using st.par.cell 2
        by_cases hkn' : k' < n3
        · have hkI' : (k' : Int) < (n3 : Int) := by omega
          have hkm : k' < m.gone.length := by rw [Hn3.out]; exact hkn'
          have hm := Hh.out.keep (w' := wr) fun b _ hlt => st.below.block b hlt
          obtain ⟨b, off, rfl, -, hblt, hc⟩ := go_cell hm.gone (by omega)
          obtain ⟨e0, e1, e2⟩ := hc k' hkm
          obtain ⟨q, hq⟩ : ∃ q, m.gone[k'] = q := ⟨_, rfl⟩
          rw [hq] at e0 e1 e2
          obtain ⟨ka, da, sa⟩ := q
          dsimp only at e0 e1 e2
          obtain ⟨wt, hwt⟩ : ∃ wt, wt = wr.alloc (.cells #[.string ⟨ka.toArray⟩, .int .i64 da, .int .i64 sa] 74) := ⟨_, rfl⟩
          have hbt : Below wr.heap.size wr wt := by rw [hwt]; exact kept_alloc _ _
          have stt := st.kept hbt
          obtain ⟨i0, q1, q2, q3, q4⟩ := info_parts infoGoP
          obtain ⟨v3', w5, hr, hown5, hg5⟩ := run_append_one (P := Tryz.prog) wt w.heap.size 29 83 Tryz.underlying29 q1 q2 q3 q4 rfl (by decide) v3 k' _ stt.o3 #[.string ⟨ka.toArray⟩, .int .i64 da, .int .i64 sa] rfl (by simp [Value.oneCell']) (by unfold maxLen; omega) (by omega) (by have := stt.below.size; omega)
          obtain ⟨b3, d3, rfl, -⟩ := (Rows.of_owns hown5).shape
          have st5 := (stt.kept (kept_alloc wt (.cells #[.string ⟨ka.toArray⟩, .int .i64 da, .int .i64 sa] 83))).stepGo hkm (by rw [hq]; exact hown5) hg5 (by decide) (by decide) (by decide) (by decide) (by decide) (by decide)
          have ho5 := (stt.kept (kept_alloc wt (.cells #[.string ⟨ka.toArray⟩, .int .i64 da, .int .i64 sa] 83))).out.grownNe (stt.kept (kept_alloc wt (.cells #[.string ⟨ka.toArray⟩, .int .i64 da, .int .i64 sa] 83))).o3 (by decide) hg5
          have o1 := ho5.cell 2
          have f1 := ho5.free 2
          simp at o1
          have ht1 : wr.cell? ⟨w.heap.size + 1 + 1, 2, none⟩ = some v3 := by simpa using st.out.cell 2
          have hlt1 := st.out.lt
          have hlt0 := st.par.lt
          have Hst5 := Lib.hid st5; have Hq := Lib.hid hq
          rw [show wt.heap.size = wr.heap.size + 1 by rw [hwt]; simp, hwt] at hr
          clear hm hc hq hbt stt hown5 hg5 st5 ho5 st q1 q2 q3 q4 hwt
          go_wp2_with fail
          go_roundw
          case rel => exact ⟨k' + 1, _, by omega, by go_num, Hst5.out⟩
          case measure => simp [intOf]; omega
        · have hkI' : ¬ (k' : Int) < (n3 : Int) := by omega
          have hke' : k' = m.gone.length := by rw [Hn3.out]; omega
          obtain ⟨b2, d2, rfl, -⟩ := (Rows.of_owns st.o2).shape
          obtain ⟨b3, d3, rfl, -⟩ := (Rows.of_owns st.o3).shape
          have x0 := st.out.cell 0
          have x1 := st.out.cell 1
          have x2 := st.out.cell 2
          have y0 := st.res.cell 0
          have y1 := st.res.cell 1
          have y2 := st.res.cell 2
          have z0 := st.res.free 0
          have z1 := st.res.free 1
          have z2 := st.res.free 2
          simp at x0 x1 x2 y0 y1 y2
          obtain ⟨wf, hwf⟩ : ∃ wf, wf = ((wr.setCell ⟨w.heap.size + 1, 0, none⟩ (.slice b1 n1 d1)).setCell ⟨w.heap.size + 1, 1, none⟩ (.slice b2 k d2)).setCell ⟨w.heap.size + 1, 2, none⟩ (.slice b3 k' d3) := ⟨_, rfl⟩
          obtain ⟨hrf, hmf, hbf⟩ := st.done Hke.out hke' Hh.out (by decide) (by decide) (by decide) hwf
          have Hwf := Lib.hid hwf; have Hmf := Lib.hid hmf; have Hbf := Lib.hid hbf; have Hrf := Lib.hid hrf
          clear st hke' hwf hrf hmf hbf
          go_wp2_with fail
          rw [← Hwf.out]
          have q0 := Hrf.out.cell 0
          have q1 := Hrf.out.cell 1
          have q2 := Hrf.out.cell 2
          simp at q0 q1 q2
          exact bodyPost_ret (v := .agg #[.slice b1 n1 d1, .slice b2 k d2, .slice b3 k' d3]) (by simp [results, Tryz.results18, go_sem, q0, q1, q2]) rfl ⟨_, rfl, Hmf.out, Hbf.out⟩

set_option maxRecDepth 100000 in
set_option maxHeartbeats 1500000 in
theorem taken_any (w : World) (F : Blks) (v : Value) (m : RMap) (h : MapV F w v m) (hs : m.seen.length ≤ 1000000) (hi : m.items.length ≤ 1000000) (hg : m.gone.length ≤ 1000000) :
    Calls Tryz.prog 54 #[v] w (GivenPost w m) := by
  obtain ⟨s1, s2, s3, rfl, h⟩ := h
  obtain ⟨a1, p1, rfl, -⟩ := h.seen.shape
  obtain ⟨a2, p2, rfl, -⟩ := h.items.shape
  obtain ⟨a3, p3, rfl, -⟩ := h.gone.shape
  have l1 := h.seen.len
  have l2 := h.items.len
  have l3 := h.gone.len
  unfold maxLen at l1 l2 l3
  obtain ⟨n1, hn1⟩ : ∃ n, m.seen.length = n := ⟨_, rfl⟩
  obtain ⟨n2, hn2⟩ : ∃ n, m.items.length = n := ⟨_, rfl⟩
  obtain ⟨n3, hn3⟩ : ∃ n, m.gone.length = n := ⟨_, rfl⟩
  rw [hn1, hn2, hn3] at h
  rw [hn1] at l1 ⊢
  rw [hn2] at l2 ⊢
  rw [hn3] at l3 ⊢
  obtain ⟨wx, hwx⟩ : ∃ wx, wx = w.alloc (.cells #[.slice a1 n1 p1, .slice a2 n2 p2, .slice a3 n3 p3] 31) := ⟨_, rfl⟩
  have hbx : Below w.heap.size w wx := by rw [hwx]; exact kept_alloc _ _
  have hzx : wx.heap.size = w.heap.size + 1 := by rw [hwx]; simp
  have hx := h.keep (w' := wx) fun b _ hlt => hbx.block b hlt
  have hnx : Blk wx w.heap.size [.slice a1 n1 p1, .slice a2 n2 p2, .slice a3 n3 p3] 31 := by rw [hwx]; exact Blk.new _ _ _
  have Hx := Lib.hid hx; have Hn1 := Lib.hid hn1; have Hn2 := Lib.hid hn2; have Hn3 := Lib.hid hn3
  have Hwx := Lib.hid hwx; have Hbx := Lib.hid hbx; have Hzx := Lib.hid hzx
  have c0 := hnx.cell 0
  have c1 := hnx.cell 1
  have c2 := hnx.cell 2
  simp at c0 c1 c2
  have Hnx := Lib.hid hnx
  clear hx hn1 hn2 hn3 hwx hbx hnx hzx
  rw [Hn1.out] at hs
  rw [Hn2.out] at hi
  rw [Hn3.out] at hg
  have Hh := Lib.hid h
  obtain ⟨w2, hw2⟩ : ∃ w2, w2 = (wx.alloc (.cells #[.slice none 0 0, .slice none 0 0, .slice none 0 0] 26)).alloc (.cells #[.slice none 0 0, .slice none 0 0, .slice none 0 0] 26) := ⟨_, rfl⟩
  have hb2 : Below w.heap.size w w2 := by rw [hw2]; exact (Hbx.out.alloc Hbx.out.size _).alloc (by have := Hbx.out.size; simp; omega) _
  have hz2 : w2.heap.size = w.heap.size + 3 := by rw [hw2]; simp [Hzx.out]
  have hx2 : MapIn F w2 _ _ _ m := h.keep fun b _ hlt => hb2.block b hlt
  have ho2 : Blk w2 (w.heap.size + 1 + 1) [.slice none 0 0, .slice none 0 0, .slice none 0 0] 26 := by
    have := Blk.new (wx.alloc (.cells #[.slice none 0 0, .slice none 0 0, .slice none 0 0] 26)) #[.slice none 0 0, .slice none 0 0, .slice none 0 0] 26
    rw [hw2]
    simpa [Hzx.out] using this
  have hr2 : Blk w2 (w.heap.size + 1) [.slice none 0 0, .slice none 0 0, .slice none 0 0] 26 := by
    have := (Blk.new wx #[.slice none 0 0, .slice none 0 0, .slice none 0 0] 26).alloc (.cells #[.slice none 0 0, .slice none 0 0, .slice none 0 0] 26)
    rw [hw2]
    simpa [Hzx.out] using this
  have hp2 : Blk w2 w.heap.size _ _ := Hnx.out.keep (by rw [hw2]; exact ((kept_alloc wx _).trans (kept_alloc _ _ |>.mono (by simp))).block _ Hnx.out.lt)
  obtain ⟨i0, q1, q2, q3, q4⟩ := info_parts infoI
  obtain ⟨v1, w3, hr, hown3, hg3⟩ := run_append_rows (P := Tryz.prog) w2 w.heap.size 22 3 Tryz.underlying22 q1 q2 q3 q4 rfl (by decide) _ _ _ (World.ownsRow_nil w2 w.heap.size 3 1) F _ _ _ hx2.seen (one_eI _) (by rw [Hn1.out]; unfold maxLen; omega) (by rw [Hn1.out]; omega) (by omega)
  rw [Hn1.out, Nat.zero_add, List.nil_append] at hown3
  obtain ⟨b1, d1, rfl, -⟩ := (Rows.of_owns hown3).shape
  have ho3 := ho2.grownNe (World.ownsRow_nil w2 w.heap.size 3 1) (by decide) hg3
  have hr3 := hr2.grownNe (World.ownsRow_nil w2 w.heap.size 3 1) (by decide) hg3
  have hp3 := hp2.grownNe (World.ownsRow_nil w2 w.heap.size 3 1) (by decide) hg3
  have hb3 : Below w.heap.size w w3 := hb2.trans (Below.grownOwn (World.ownsRow_nil w2 w.heap.size 3 1) hg3 (by omega) (Nat.le_refl _))
  have o0 := ho3.cell 0
  have f0 := ho3.free 0
  simp at o0
  obtain ⟨w4, hw4⟩ : ∃ w4, w4 = w3.setCell ⟨w.heap.size + 1 + 1, 0, none⟩ (.slice b1 n1 d1) := ⟨_, rfl⟩
  have st4 : GivSt 31 26 3 72 74 w w4 m [.slice a1 n1 p1, .slice a2 n2 p2, .slice a3 n3 p3] (.slice b1 n1 d1) (.slice none 0 0) (.slice none 0 0) 0 0 := by
    rw [hw4]
    exact ⟨ho3.set 0 _, hp3.set_other _ (by show w.heap.size ≠ w.heap.size + 1 + 1; omega), hr3.set_other _ (by show w.heap.size + 1 ≠ w.heap.size + 1 + 1; omega), by rw [Hn1.out]; exact own_setCell hown3 ho3 (by decide) _, World.ownsRow_nil _ _ _ _, World.ownsRow_nil _ _ _ _, hb3.setCell (by show w.heap.size ≤ w.heap.size + 1 + 1; omega) _⟩
  rw [hw2, Hwx.out] at hr
  have Hst4 := Lib.hid st4; have Hw4 := Lib.hid hw4
  clear h hx2 ho2 hp2 hr2 hown3 hg3 ho3 hp3 hr3 hb3 st4 hw4 hw2 hb2 hz2 q1 q2 q3 q4
  go_enter Tryz.func54, Tryz.ntmps54
  go_wp2_with fail
  rw [← Hw4.out]
  clear hr o0 f0
  go_loopw [4] (fun i wr => ∃ (k : Nat) (v2 : Value), k ≤ n2 ∧ i = .int .i64 (k : Int) ∧ GivSt 31 26 3 72 74 w wr m [.slice a1 n1 p1, .slice a2 n2 p2, .slice a3 n3 p3] (.slice b1 n1 d1) v2 (.slice none 0 0) k 0) (fun i _ => n2 - (intOf i).toNat)
  case atStart => exact ⟨0, _, by omega, rfl, Hst4.out⟩
  case round =>
    obtain ⟨k, v2, hk, rfl, st⟩ := hrel
    have r1 : wr.cell? ⟨w.heap.size, 1, none⟩ = some (.slice a2 n2 p2) := by simpa using st.par.cell 1
    by_cases hkn : k < n2
    · have hkI : (k : Int) < (n2 : Int) := by omega
      have hkm : k < m.items.length := by rw [Hn2.out]; exact hkn
      have hm := Hh.out.keep (w' := wr) fun b _ hlt => st.below.block b hlt
      obtain ⟨b, off, rfl, -, hblt, hc⟩ := it_cell hm.items (by omega)
      obtain ⟨e0, e1, e2, e3⟩ := hc k hkm
      obtain ⟨q, hq⟩ : ∃ q, m.items[k] = q := ⟨_, rfl⟩
      rw [hq] at e0 e1 e2 e3
      obtain ⟨ka, da, sa, va⟩ := q
      dsimp only at e0 e1 e2 e3
      obtain ⟨wt, hwt⟩ : ∃ wt, wt = wr.alloc (.cells #[.string ⟨ka.toArray⟩, .int .i64 da, .int .i64 sa, .int .i64 va] 75) := ⟨_, rfl⟩
      have hbt : Below wr.heap.size wr wt := by rw [hwt]; exact kept_alloc _ _
      have stt := st.kept hbt
      obtain ⟨i0, q1, q2, q3, q4⟩ := info_parts infoItR
      obtain ⟨v2', w5, hr, hown5, hg5⟩ := run_append_one (P := Tryz.prog) wt w.heap.size 23 72 Tryz.underlying23 q1 q2 q3 q4 rfl (by decide) v2 k _ stt.o2 #[.string ⟨ka.toArray⟩, .int .i64 da, .int .i64 sa, .int .i64 va] rfl (by simp [Value.oneCell']) (by unfold maxLen; omega) (by omega) (by have := stt.below.size; omega)
      obtain ⟨b2, d2, rfl, -⟩ := (Rows.of_owns hown5).shape
      have st5 := (stt.kept (kept_alloc wt (.cells #[.string ⟨ka.toArray⟩, .int .i64 da, .int .i64 sa, .int .i64 va] 72))).stepIt hkm (by rw [hq]; exact hown5) hg5 (by decide) (by decide) (by decide) (by decide) (by decide) (by decide)
      have ho5 := (stt.kept (kept_alloc wt (.cells #[.string ⟨ka.toArray⟩, .int .i64 da, .int .i64 sa, .int .i64 va] 72))).out.grownNe (stt.kept (kept_alloc wt (.cells #[.string ⟨ka.toArray⟩, .int .i64 da, .int .i64 sa, .int .i64 va] 72))).o2 (by decide) hg5
      have o1 := ho5.cell 1
      have f1 := ho5.free 1
      simp at o1
      have ht1 : wr.cell? ⟨w.heap.size + 1 + 1, 1, none⟩ = some v2 := by simpa using st.out.cell 1
      have hlt1 := st.out.lt
      have hlt0 := st.par.lt
      have Hst5 := Lib.hid st5; have Hq := Lib.hid hq
      rw [show wt.heap.size = wr.heap.size + 1 by rw [hwt]; simp, hwt] at hr
      clear hm hc hq hbt stt hown5 hg5 st5 ho5 st q1 q2 q3 q4 hwt
      go_wp2_with fail
      go_roundw
      case rel => exact ⟨k + 1, _, by omega, by go_num, Hst5.out⟩
      case measure => simp [intOf]; omega
    · have hkI : ¬ (k : Int) < (n2 : Int) := by omega
      have hke : k = m.items.length := by rw [Hn2.out]; omega
      have Hst := Lib.hid st
      have Hke := Lib.hid hke
      clear st hke
      go_wp2_with fail
      clear r1
      go_loopw [6] (fun i wr => ∃ (k' : Nat) (v3 : Value), k' ≤ n3 ∧ i = .int .i64 (k' : Int) ∧ GivSt 31 26 3 72 74 w wr m [.slice a1 n1 p1, .slice a2 n2 p2, .slice a3 n3 p3] (.slice b1 n1 d1) v2 v3 k k') (fun i _ => n3 - (intOf i).toNat)
      case atStart => exact ⟨0, _, by omega, rfl, Hst.out⟩
      case round =>
        obtain ⟨k', v3, hk', rfl, st⟩ := hrel
        clear Hst
        have r1 : wr.cell? ⟨w.heap.size, 2, none⟩ = some (.slice a3 n3 p3) := by simpa using st.par.cell 2
        by_cases hkn' : k' < n3
        · have hkI' : (k' : Int) < (n3 : Int) := by omega
          have hkm : k' < m.gone.length := by rw [Hn3.out]; exact hkn'
          have hm := Hh.out.keep (w' := wr) fun b _ hlt => st.below.block b hlt
          obtain ⟨b, off, rfl, -, hblt, hc⟩ := go_cell hm.gone (by omega)
          obtain ⟨e0, e1, e2⟩ := hc k' hkm
          obtain ⟨q, hq⟩ : ∃ q, m.gone[k'] = q := ⟨_, rfl⟩
          rw [hq] at e0 e1 e2
          obtain ⟨ka, da, sa⟩ := q
          dsimp only at e0 e1 e2
          obtain ⟨wt, hwt⟩ : ∃ wt, wt = wr.alloc (.cells #[.string ⟨ka.toArray⟩, .int .i64 da, .int .i64 sa] 83) := ⟨_, rfl⟩
          have hbt : Below wr.heap.size wr wt := by rw [hwt]; exact kept_alloc _ _
          have stt := st.kept hbt
          obtain ⟨i0, q1, q2, q3, q4⟩ := info_parts infoGoR
          obtain ⟨v3', w5, hr, hown5, hg5⟩ := run_append_one (P := Tryz.prog) wt w.heap.size 24 74 Tryz.underlying24 q1 q2 q3 q4 rfl (by decide) v3 k' _ stt.o3 #[.string ⟨ka.toArray⟩, .int .i64 da, .int .i64 sa] rfl (by simp [Value.oneCell']) (by unfold maxLen; omega) (by omega) (by have := stt.below.size; omega)
          obtain ⟨b3, d3, rfl, -⟩ := (Rows.of_owns hown5).shape
          have st5 := (stt.kept (kept_alloc wt (.cells #[.string ⟨ka.toArray⟩, .int .i64 da, .int .i64 sa] 74))).stepGo hkm (by rw [hq]; exact hown5) hg5 (by decide) (by decide) (by decide) (by decide) (by decide) (by decide)
          have ho5 := (stt.kept (kept_alloc wt (.cells #[.string ⟨ka.toArray⟩, .int .i64 da, .int .i64 sa] 74))).out.grownNe (stt.kept (kept_alloc wt (.cells #[.string ⟨ka.toArray⟩, .int .i64 da, .int .i64 sa] 74))).o3 (by decide) hg5
          have o1 := ho5.cell 2
          have f1 := ho5.free 2
          simp at o1
          have ht1 : wr.cell? ⟨w.heap.size + 1 + 1, 2, none⟩ = some v3 := by simpa using st.out.cell 2
          have hlt1 := st.out.lt
          have hlt0 := st.par.lt
          have Hst5 := Lib.hid st5; have Hq := Lib.hid hq
          rw [show wt.heap.size = wr.heap.size + 1 by rw [hwt]; simp, hwt] at hr
          clear hm hc hq hbt stt hown5 hg5 st5 ho5 st q1 q2 q3 q4 hwt
          go_wp2_with fail
          go_roundw
          case rel => exact ⟨k' + 1, _, by omega, by go_num, Hst5.out⟩
          case measure => simp [intOf]; omega
        · have hkI' : ¬ (k' : Int) < (n3 : Int) := by omega
          have hke' : k' = m.gone.length := by rw [Hn3.out]; omega
          obtain ⟨b2, d2, rfl, -⟩ := (Rows.of_owns st.o2).shape
          obtain ⟨b3, d3, rfl, -⟩ := (Rows.of_owns st.o3).shape
          have x0 := st.out.cell 0
          have x1 := st.out.cell 1
          have x2 := st.out.cell 2
          have y0 := st.res.cell 0
          have y1 := st.res.cell 1
          have y2 := st.res.cell 2
          have z0 := st.res.free 0
          have z1 := st.res.free 1
          have z2 := st.res.free 2
          simp at x0 x1 x2 y0 y1 y2
          obtain ⟨wf, hwf⟩ : ∃ wf, wf = ((wr.setCell ⟨w.heap.size + 1, 0, none⟩ (.slice b1 n1 d1)).setCell ⟨w.heap.size + 1, 1, none⟩ (.slice b2 k d2)).setCell ⟨w.heap.size + 1, 2, none⟩ (.slice b3 k' d3) := ⟨_, rfl⟩
          obtain ⟨hrf, hmf, hbf⟩ := st.done Hke.out hke' Hh.out (by decide) (by decide) (by decide) hwf
          have Hwf := Lib.hid hwf; have Hmf := Lib.hid hmf; have Hbf := Lib.hid hbf; have Hrf := Lib.hid hrf
          clear st hke' hwf hrf hmf hbf
          go_wp2_with fail
          rw [← Hwf.out]
          have q0 := Hrf.out.cell 0
          have q1 := Hrf.out.cell 1
          have q2 := Hrf.out.cell 2
          simp at q0 q1 q2
          exact bodyPost_ret (v := .agg #[.slice b1 n1 d1, .slice b2 k d2, .slice b3 k' d3]) (by simp [results, Tryz.results54, go_sem, q0, q1, q2]) rfl ⟨_, rfl, Hmf.out, Hbf.out⟩
end Go.Proofs.YtbjkkmabafaogaaGreatDoor
