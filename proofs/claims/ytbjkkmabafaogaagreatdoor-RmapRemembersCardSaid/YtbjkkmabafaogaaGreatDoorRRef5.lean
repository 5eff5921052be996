/- The reference: Forget. -/
import Derived.Test.YtbjkkmabafaogaaGreatDoorRRef4
namespace Go.Proofs.YtbjkkmabafaogaaGreatDoor
open Go.RowKit
set_option linter.unusedVariables false
set_option maxRecDepth 20000
attribute [local go_sem ↓] seal_append
attribute [local go_sem] opC upC

theorem take_filter {α : Type} (p : α → Bool) (l : List α) (k : Nat) (h : k < l.length) : (l.take (k + 1)).filter p = (l.take k).filter p ++ (if p l[k] then [l[k]] else []) := by
  rw [List.take_succ_eq_append_getElem h, List.filter_append]
  congr 1
  by_cases hp : p l[k] = true
  · rw [if_pos hp, List.filter_cons, if_pos hp]; rfl
  · rw [if_neg hp, List.filter_cons, if_neg hp]; rfl
theorem mem_take_succ (l : List RKey) (y : RKey) (j : Nat) (h : j < l.length) : decide (y ∈ l.take (j + 1)) = (decide (y ∈ l.take j) || (l[j] == y)) := by
  rw [List.take_succ_eq_append_getElem h, Bool.eq_iff_iff]
  simp only [List.mem_append, List.mem_singleton, decide_eq_true_eq, Bool.or_eq_true, beq_iff_eq]
  exact ⟨fun hh => hh.imp id Eq.symm, fun hh => hh.imp id Eq.symm⟩

theorem forget_bnd {m : RMap} (f : Formed m) {d : Int} {l : List RKey} (ha : Allowed d l) : Bnd (forgetM m d l) ∧ (∀ x ∈ (forgetM m d l).items, x.key.length ≤ 400) ∧ ∀ x ∈ (forgetM m d l).gone, x.key.length ≤ 400 := by
  have b := bnd_formed f
  have ki : ∀ x ∈ m.items, x.key.length ≤ 400 := fun x hx => keyOk_len (known_key (f.iknown x hx))
  have kg : ∀ x ∈ m.gone, x.key.length ≤ 400 := fun x hx => keyOk_len (known_key (f.gknown x hx))
  have hi : ∀ x ∈ (forgetM m d l).items, x ∈ m.items := fun x hx => (List.mem_filter.1 hx).1
  have hg : ∀ g ∈ (forgetM m d l).gone, g.key.length ≤ 400 ∧ i64ok g.dev ∧ i64ok g.seq := fun g hg => by
    rcases forget_gmem f hg with ⟨x, hx, -, rfl⟩ | hg
    · exact ⟨ki x hx, (b.itemsB x hx).2.1, (b.itemsB x hx).2.2.1⟩
    · exact ⟨kg g hg, (b.goneB g hg).2⟩
  exact ⟨⟨fun n hn => by have := up_bnd f ha.lo ha.hi n hn; exact i64ok_of (by omega), fun x hx => b.itemsB x (hi x hx), fun g hh => ⟨by have := (hg g hh).1; omega, (hg g hh).2⟩⟩, fun x hx => ki x (hi x hx), fun g hh => (hg g hh).1⟩

set_option maxRecDepth 100000 in
set_option maxHeartbeats 8000000 in
theorem rforget_any (w : World) (F : Blks) (v : Value) (m : RMap) (h : MapV F w v m) (hki : ∀ x ∈ m.items, x.key.length ≤ 1000000000) (hkg : ∀ x ∈ m.gone, x.key.length ≤ 1000000000)
    (d : Int) (G : Blks) (lv : Value) (l : List RKey) (hlv : Rows G w 1 lv l.length (l.map eS)) (hl : l.length ≤ 100000) (hk : ∀ k ∈ l, k.length ≤ 1000000000) :
    Calls Tryz.prog 35 #[v, .int .i64 d, lv] w (RPost w (forgetR m d l)) := by
  replace h := h.mono (G := fun b => b < w.heap.size) fun b _ hlt => hlt
  replace hlv := hlv.mono (G := fun b => b < w.heap.size) fun b _ hlt => hlt
  obtain ⟨s1, s2, s3, rfl, h⟩ := h
  obtain ⟨a1, p1, rfl, -⟩ := h.seen.shape
  obtain ⟨a2, p2, rfl, -⟩ := h.items.shape
  obtain ⟨a3, p3, rfl, -⟩ := h.gone.shape
  obtain ⟨wx, hwx⟩ : ∃ wx, wx = w.alloc (.cells #[.slice a1 m.seen.length p1, .slice a2 m.items.length p2, .slice a3 m.gone.length p3] 26) := ⟨_, rfl⟩
  have hbx : Below w.heap.size w wx := by rw [hwx]; exact kept_alloc _ _
  have hzx : wx.heap.size = w.heap.size + 1 := by rw [hwx]; simp
  have hx := h.keep (w' := wx) fun b _ hlt => hbx.block b hlt
  have hnx : Blk wx w.heap.size [.slice a1 m.seen.length p1, .slice a2 m.items.length p2, .slice a3 m.gone.length p3] 26 := by rw [hwx]; exact Blk.new _ _ _
  have Hx := Lib.hid hx
  have Hwx := Lib.hid hwx; have Hbx := Lib.hid hbx; have Hzx := Lib.hid hzx
  have Hnx := Lib.hid hnx
  clear hx hwx hbx hnx hzx h
  obtain ⟨al, cl, rfl, -⟩ := hlv.shape
  obtain ⟨w2, hw2⟩ : ∃ w2, w2 = wx.alloc (.cells #[.slice none 0 0, .slice none 0 0, .slice none 0 0] 26) := ⟨_, rfl⟩
  have hb2 : Below w.heap.size w w2 := by rw [hw2]; exact Hbx.out.alloc Hbx.out.size _
  have hz2 : w2.heap.size = w.heap.size + 2 := by rw [hw2]; simp [Hzx.out]
  have k1 : Blk w2 w.heap.size [.slice a1 m.seen.length p1, .slice a2 m.items.length p2, .slice a3 m.gone.length p3] 26 := by rw [hw2]; exact Hnx.out.alloc _
  have k2 : Blk w2 (w.heap.size + 1) [.slice none 0 0, .slice none 0 0, .slice none 0 0] 26 := by
    have := Blk.new wx #[.slice none 0 0, .slice none 0 0, .slice none 0 0] 26
    rw [hw2, ← Hzx.out]; exact this
  have HR := Lib.hid (show ∀ W, Below w2.heap.size w2 W → Below w.heap.size w W ∧ Blk W w.heap.size [.slice a1 m.seen.length p1, .slice a2 m.items.length p2, .slice a3 m.gone.length p3] 26 ∧ Blk W (w.heap.size + 1) [.slice none 0 0, .slice none 0 0, .slice none 0 0] 26 ∧ MapIn (fun b => b < w.heap.size) W (.slice a1 m.seen.length p1) (.slice a2 m.items.length p2) (.slice a3 m.gone.length p3) m ∧ Rows (fun b => b < w.heap.size) W 1 (.slice al l.length cl) l.length (l.map eS) from fun W hb => by
    have hB : Below w.heap.size w W := hb2.trans (hb.mono (by omega))
    exact ⟨hB, k1.keep (hb.block _ k1.lt), k2.keep (hb.block _ k2.lt), Hx.out.keep (w' := W) fun b hlt _ => (hB.block b hlt).trans (Hbx.out.block b hlt).symm, hlv.keep (w' := W) fun b hlt _ => hB.block b hlt⟩)
  have HV := Lib.hid (rvalid2_any w2 _ (.agg #[.slice a1 m.seen.length p1, .slice a2 m.items.length p2, .slice a3 m.gone.length p3]) m ⟨_, _, _, rfl, (HR.out w2 (Below.refl _ _)).2.2.2.1⟩ hki hkg)
  obtain ⟨ok, hok⟩ : ∃ ok, validR m = ok := ⟨_, rfl⟩
  rw [hok] at HV
  obtain ⟨c0, c1, c2⟩ := cell3 k1
  have Hw2 := Lib.hid hw2; have Hz2 := Lib.hid hz2; have Hok := Lib.hid hok
  clear hw2 hb2 hz2 k1 k2 hlv hok
  go_enter Tryz.func35, Tryz.ntmps35
  go_wp2_with fail
  rw [← Hwx.out, ← Hw2.out]
  refine HV.out.mono ?_
  rintro e w3 ⟨rfl, hb3⟩
  clear HV c0 c1 c2
  cases ok with
  | false =>
    have Hu := Lib.hid (show forgetR m d l = (.empty, 5) by unfold forgetR; rw [Hok.out]; rfl)
    have kr := (HR.out w3 hb3).2.2.1
    have hbel := (HR.out w3 hb3).1
    clear hb3
    obtain ⟨wf, hwf, hblk, hbf⟩ := fin3 kr hbel (Nat.le_succ _) (.slice none 0 0) (.slice none 0 0) (.slice none 0 0)
    obtain ⟨y0, y1, y2⟩ := cell3 kr
    have z0 := kr.free 0
    have z1 := kr.free 1
    have z2 := kr.free 2
    have Q := Lib.hid (cell3 hblk)
    have Hbf := Lib.hid hbf; have Hwf := Lib.hid hwf
    clear hwf hblk hbf
    go_wp2_with fail
    rw [← Hwf.out]
    obtain ⟨q0, q1, q2⟩ := Q.out
    exact bodyPost_ret (v := .tuple #[.agg #[.slice none 0 0, .slice none 0 0, .slice none 0 0], .int .i64 5]) (by simp [results, Tryz.results35, go_sem, q0, q1, q2]) rfl ⟨_, by rw [Hu.out], by rw [Hu.out]; exact mapV_empty _ _, Hbf.out⟩
  | true =>
    have HA := Lib.hid (rallowed_any w3 _ _ d l (HR.out w3 hb3).2.2.2.2 (by omega) hk)
    obtain ⟨oka, hal⟩ : ∃ oka, allowedR d l = oka := ⟨_, rfl⟩
    rw [hal] at HA
    have Hal := Lib.hid hal
    have HL3 := Lib.hid hb3
    clear hal hb3
    go_wp2_with fail
    refine HA.out.mono ?_
    rintro e w4 ⟨rfl, hb4⟩
    have hL4 : Below w2.heap.size w2 w4 := HL3.out.trans (hb4.mono HL3.out.size)
    clear HA hb4
    cases oka with
    | false =>
      have Hu := Lib.hid (show forgetR m d l = (.empty, 1) by unfold forgetR; rw [Hok.out, Hal.out]; rfl)
      have kr := (HR.out w4 hL4).2.2.1
      have hbel := (HR.out w4 hL4).1
      clear hL4
      obtain ⟨wf, hwf, hblk, hbf⟩ := fin3 kr hbel (Nat.le_succ _) (.slice none 0 0) (.slice none 0 0) (.slice none 0 0)
      obtain ⟨y0, y1, y2⟩ := cell3 kr
      have z0 := kr.free 0
      have z1 := kr.free 1
      have z2 := kr.free 2
      have Q := Lib.hid (cell3 hblk)
      have Hbf := Lib.hid hbf; have Hwf := Lib.hid hwf
      clear hwf hblk hbf
      go_wp2_with fail
      rw [← Hwf.out]
      obtain ⟨q0, q1, q2⟩ := Q.out
      exact bodyPost_ret (v := .tuple #[.agg #[.slice none 0 0, .slice none 0 0, .slice none 0 0], .int .i64 1]) (by simp [results, Tryz.results35, go_sem, q0, q1, q2]) rfl ⟨_, by rw [Hu.out], by rw [Hu.out]; exact mapV_empty _ _, Hbf.out⟩
    | true =>
      have ha := (allowed_iff d l).1 Hal.out
      have f := valid_formed Hok.out
      have hn8 := f.len
      have hni : m.items.length ≤ 4096 := by have := Hok.out; unfold validR at this; simp at this; omega
      have hng : m.gone.length ≤ 4096 := by have := Hok.out; unfold validR at this; simp at this; omega
      obtain ⟨c0, c1, c2⟩ := cell3 (HR.out w4 hL4).2.1
      have HC := Lib.hid (rcopy_any w4 _ (.agg #[.slice a1 m.seen.length p1, .slice a2 m.items.length p2, .slice a3 m.gone.length p3]) m ⟨_, _, _, rfl, (HR.out w4 hL4).2.2.2.1⟩ (by omega) (by omega) (by omega))
      have HL4 := Lib.hid hL4
      have Ha := Lib.hid ha; have Hf := Lib.hid f; have Hn8 := Lib.hid hn8
      clear hL4 ha f hn8
      go_wp2_with fail
      refine HC.out.mono ?_
      rintro e w5 ⟨⟨s1, s2, s3, rfl, ho⟩, hb5⟩
      have hL5 : Below w2.heap.size w2 w5 := HL4.out.trans (hb5.mono HL4.out.size)
      obtain ⟨b1, e1, hs1⟩ := own_shape ho.seen
      obtain ⟨b2, e2, rfl⟩ := own_shape ho.items
      obtain ⟨b3, e3, rfl⟩ := own_shape ho.gone
      subst hs1
      obtain ⟨g, rfl⟩ : ∃ g, b1 = some ⟨g, 0, none⟩ := by
        rcases ho.seen.2 with ⟨_, h0⟩ | ⟨g, cap, cur, hv, _⟩
        · have := Hn8.out; omega
        · simp at hv; exact ⟨g, hv.1⟩
      obtain ⟨q, rfl⟩ := Int.eq_ofNat_of_zero_le Ha.out.lo
      have hq8 := Ha.out.hi
      have hq : q < m.seen.length := by have := Hn8.out; omega
      have hqI : (q : Int) < (m.seen.length : Int) := by omega
      obtain ⟨x, hx⟩ : ∃ x, m.seen[q] = x := ⟨_, rfl⟩
      obtain ⟨hx0, hx1⟩ := Hf.out.seen x (by rw [← hx]; exact List.getElem_mem hq)
      have hnow : nowR m q = x + 1 := by
        unfold nowR
        rw [Int.toNat_natCast, List.getD_eq_getElem?_getD, List.getElem?_eq_getElem hq, hx]
        rfl
      obtain ⟨hg1, hg2⟩ : w4.heap.size ≤ g ∧ g < w5.heap.size := by
        rcases ho.seen.2 with ⟨hh, _⟩ | ⟨g', cap, cur, hv, hb, hg, _⟩
        · simp at hh
        · simp at hv; obtain ⟨rfl, -⟩ := hv; exact ⟨hb, lt_of_block hg⟩
      have e0 : w5.cell? ⟨g, q, none⟩ = some (.int .i64 x) := by
        rw [ho.seen.cellAt q (by simpa using hq)]
        simp [hq, hx]
      have f0 := ho.seen.frozenAt q
      obtain ⟨hst, hgr⟩ := ho.seen.stored q (.int .i64 (x + 1))
      obtain ⟨w6, hw6⟩ : ∃ w6, w6 = w5.setCell ⟨g, q, none⟩ (.int .i64 (x + 1)) := ⟨_, rfl⟩
      rw [← hw6] at hst hgr
      have hz6 : w6.heap.size = w5.heap.size := by rw [hw6]; simp [World.setCell]
      have ho6 : RefIn w6 w4.heap.size (.slice (some ⟨g, 0, none⟩) m.seen.length e1) (.slice b2 m.items.length e2) (.slice b3 m.gone.length e3) ⟨seenUp m q, m.items, m.gone⟩ := by
        refine ⟨?_, own_grownNe ho.items ho.seen (by decide) hgr, own_grownNe ho.gone ho.seen (by decide) hgr⟩
        have h2 : (seenUp m q).length = m.seen.length := up_len m q
        have h3 : (seenUp m q).map eI = (m.seen.map eI).set q (.int .i64 (x + 1)) := by
          unfold seenUp
          rw [List.map_set, Int.toNat_natCast, List.getD_eq_getElem?_getD, List.getElem?_eq_getElem hq, hx]
          rfl
        show w6.ownsRow w4.heap.size 3 1 _ (seenUp m q).length ((seenUp m q).map eI)
        rw [h2, h3]
        exact hst
      obtain ⟨w7, hw7⟩ : ∃ w7, w7 = w6.alloc (.cells #[.slice (some ⟨g, 0, none⟩) m.seen.length e1, .slice none 0 0, .slice b3 m.gone.length e3] 26) := ⟨_, rfl⟩
      have hb7 : Below w6.heap.size w6 w7 := by rw [hw7]; exact kept_alloc _ _
      have ho7 := ho6.below hb7
      have kO7 : Blk w7 w5.heap.size [.slice (some ⟨g, 0, none⟩) m.seen.length e1, .slice none 0 0, .slice b3 m.gone.length e3] 26 := by rw [hw7, ← hz6]; exact Blk.new _ _ _
      have hL7 : Below w2.heap.size w2 w7 := by
        have h6 : Below w2.heap.size w2 w6 := by
          rw [hw6]
          exact hL5.setCell (by have := HL4.out.size; show w2.heap.size ≤ g; omega) _
        exact h6.trans (hb7.mono h6.size)
      have hglt : g < w5.heap.size + 1 := by omega
      have hgne : g ≠ w5.heap.size := by omega
      have Hw7 := Lib.hid (show w7 = (w5.setCell ⟨g, q, none⟩ (.int .i64 (x + 1))).alloc (.cells #[.slice (some ⟨g, 0, none⟩) m.seen.length e1, .slice none 0 0, .slice b3 m.gone.length e3] 26) by rw [hw7, hw6])
      have hz7 : w7.heap.size = w5.heap.size + 1 := by rw [hw7]; simp [hz6]
      have Ho7 := Lib.hid ho7; have KO7 := Lib.hid kO7; have HL7 := Lib.hid hL7; have Hnow := Lib.hid hnow; have HL5 := Lib.hid hL5; have Hz7 := Lib.hid hz7
      have Hz5 := Lib.hid hL5.size
      have Hz45 := Lib.hid (show w2.heap.size ≤ w4.heap.size from HL4.out.size)
      clear HC hb5 hL5 ho6 hst hgr hw7 hw6 ho7 kO7 hL7 hnow c0 c1 c2 hx ho hq hb7 hz6 hz7
      go_wp2_with fail
      rw [← Hw7.out]
      clear e0 f0 hglt hgne hg1 hg2
      have Hn7 := Lib.hid (show RefIn w7 w2.heap.size (.slice (some ⟨g, 0, none⟩) m.seen.length e1) (.slice none 0 0) (.slice b3 m.gone.length e3) ⟨seenUp m q, [], m.gone⟩ from
        have hh := Ho7.out.mono Hz45.out
        ⟨hh.seen, World.ownsRow_nil _ _ _ _, hh.gone⟩)
      go_loopw [9] (fun i wr => ∃ k : Nat, k ≤ m.items.length ∧ i = .int .i64 (k : Int) ∧ Below w2.heap.size w2 wr ∧ ∃ si sg, Blk wr w5.heap.size [.slice (some ⟨g, 0, none⟩) m.seen.length e1, si, sg] 26 ∧ RefIn wr w2.heap.size (.slice (some ⟨g, 0, none⟩) m.seen.length e1) si sg ⟨seenUp m q, (m.items.take k).filter (fun x => decide (x.key ∉ l)), (((m.items.take k).filter fun x => decide (x.key ∈ l)).map goneOf).foldl (putL RGo.pl) m.gone⟩ ∧ ((((m.items.take k).filter fun x => decide (x.key ∈ l)).map goneOf).foldl (putL RGo.pl) m.gone).length ≤ 4096 + k) (fun i _ => m.items.length - (intOf i).toNat)
      case atStart => exact ⟨0, by omega, rfl, HL7.out, _, _, KO7.out, Hn7.out, by simpa using hng⟩
      case round =>
        obtain ⟨k, hkn0, rfl, hbw, si, sg, hOb, hin, hlen⟩ := hrel
        generalize hcur : (((m.items.take k).filter fun x => decide (x.key ∈ l)).map goneOf).foldl (putL RGo.pl) m.gone = cur at hin hlen
        generalize hitc : (m.items.take k).filter (fun x => decide (x.key ∉ l)) = itc at hin
        have hil : itc.length ≤ k := by
          rw [← hitc]
          exact Nat.le_trans (List.length_filter_le _ _) (by simp; omega)
        obtain ⟨ai, ci, rfl⟩ := own_shape hin.items
        obtain ⟨ag, cg, rfl⟩ := own_shape hin.gone
        dsimp only at hOb hin hlen ⊢
        have Hcur := Lib.hid hcur; have Hitc := Lib.hid hitc; have Hbw := Lib.hid hbw; have HOb := Lib.hid hOb; have Hin := Lib.hid hin; have Hlen := Lib.hid hlen; have Hil := Lib.hid hil
        clear hcur hitc hbw hOb hin hlen hil Hn7
        obtain ⟨-, kA, -, hMm, hLl⟩ := HR.out wr Hbw.out
        obtain ⟨c0, c1, c2⟩ := cell3 kA
        by_cases hkn : k < m.items.length
        · have hkI : (k : Int) < (m.items.length : Int) := by omega
          obtain ⟨bi, oi, rfl, -, -, hic⟩ := it_cell hMm.items (by omega)
          obtain ⟨x0, x1, x2, x3⟩ := hic k hkn
          obtain ⟨it, hit⟩ : ∃ it, m.items[k] = it := ⟨_, rfl⟩
          rw [hit] at x0 x1 x2 x3
          have Hit := Lib.hid hit
          obtain ⟨wX, hwX⟩ : ∃ wX, wX = wr.alloc (.cells #[.string ⟨it.key.toArray⟩, .int .i64 it.dev, .int .i64 it.seq, .int .i64 it.val] 72) := ⟨_, rfl⟩
          have HwX := Lib.hid hwX
          have hbX : Below wr.heap.size wr wX := by rw [hwX]; exact kept_alloc _ _
          have kX : Blk wX wr.heap.size [.string ⟨it.key.toArray⟩, .int .i64 it.dev, .int .i64 it.seq, .int .i64 it.val] 72 := by rw [hwX]; exact Blk.new _ _ _
          have HbX := Lib.hid hbX; have KX := Lib.hid kX
          have HF := Lib.hid (show ∀ W, Below wr.heap.size wr W → Below w2.heap.size w2 W ∧ Rows (fun b => b < w.heap.size) W 1 (.slice al l.length cl) l.length (l.map eS) from fun W hb => by
            have h1 := Hbw.out.trans (hb.mono Hbw.out.size)
            obtain ⟨-, -, -, -, hL'⟩ := HR.out W h1
            exact ⟨h1, hL'⟩)
          clear hic hit hwX hbX kX kA hMm hLl
          go_wp2_with fail
          rw [← HwX.out]
          clear x0 x1 x2 x3 c0 c1 c2
          go_loopw [12, 11] (fun j b wq => ∃ jn : Nat, jn ≤ l.length ∧ j = .int .i64 (jn : Int) ∧ b = .bool (decide (it.key ∈ l.take jn)) ∧ Below wX.heap.size wX wq) (fun j _ _ => l.length - (intOf j).toNat)
          case atStart => exact ⟨0, by omega, rfl, by simp, Below.refl _ _⟩
          case round =>
            rename World => wq
            obtain ⟨jn, hjn, rfl, rfl, hbq⟩ := hrel
            have HXq := Lib.hid (show ∀ W, Below wX.heap.size wX W → Below wr.heap.size wr W ∧ Blk W wr.heap.size [.string ⟨it.key.toArray⟩, .int .i64 it.dev, .int .i64 it.seq, .int .i64 it.val] 72 from fun W hb => ⟨HbX.out.trans (hb.mono HbX.out.size), KX.out.keep (hb.block _ KX.out.lt)⟩)
            have Hbq := Lib.hid hbq
            clear hbq
            by_cases hj : jn < l.length
            · have hjI : (jn : Int) < (l.length : Int) := by omega
              obtain ⟨bl, ol, rfl, -, -, hlc⟩ := str_cell (HF.out wq (HXq.out wq Hbq.out).1).2 (by omega)
              obtain ⟨y, hy⟩ : ∃ y, l[jn] = y := ⟨_, rfl⟩
              have hall : ∀ w', Later wq.drew w' → Below wX.heap.size wX w' := fun w' hh => Hbq.out.drew.trans (RowKit.Below.mono hh Hbq.out.size)
              have px : ∀ w', Later wq.drew w' → w'.cell? ⟨wr.heap.size, 0, none⟩ = some (.string ⟨it.key.toArray⟩) := fun w' hh => (cell4 (HXq.out w' (hall w' hh)).2).1
              have pk : ∀ w', Later wq.drew w' → w'.cell? ⟨bl, ol + jn, none⟩ = some (.string ⟨y.toArray⟩) := fun w' hh => by
                obtain ⟨b', o', hbb, -, -, hlc'⟩ := str_cell (HF.out w' (HXq.out w' (hall w' hh)).1).2 (by omega)
                simp at hbb
                obtain ⟨rfl, rfl⟩ := hbb
                have := hlc' jn hj
                rw [hy] at this
                exact this
              have Hst := Lib.hid (show decide (it.key ∈ l.take (jn + 1)) = (decide (it.key ∈ l.take jn) || (y == it.key)) by rw [mem_take_succ l it.key jn hj, hy])
              generalize decide (it.key ∈ l.take jn) = b0 at Hst ⊢
              clear hlc hy
              cases b0 with
              | false =>
                go_wp2_with fail
                refine wp_region_can Later [(0, true), (1, true), (2, true), (3, true), (4, true), (5, true), (6, true), (7, true), (8, true), (9, true), (10, true)] (by kernel_rfl) (by kernel_rfl) later_refl later_trans ?_
                repeat (first
                  | (refine can_yes (v := ?_) rfl (wanted_none rfl) (fun w' hC => ?_) (fun K hK => ?_); rotate_left; (focus (go_simp; (try simp (disch := omega) only [IntWalk.i64_in]); first | done | exact rfl)); go_simp; (try simp (disch := omega) only [IntWalk.i64_in]); refine hK _ ?_; clear hK K)
                  | (refine can_guard rfl (fun A B hA hB => ?_); go_simp; first | (refine hA ⟨?_, fun w' hC => ?_, fun K hK => ?_⟩; rotate_left; (focus (go_simp; (try simp (disch := omega) only [IntWalk.i64_in]); first | done | exact rfl)); go_simp; (try simp (disch := omega) only [IntWalk.i64_in]); refine hK _ ?_; clear hK K hA hB A B) | (refine hB (fun K hK => ?_); go_simp; (try simp (disch := omega) only [IntWalk.i64_in]); refine hK _ ?_; clear hK K hA hB A B))
                  | (refine can_guard_go rfl (fun A B hA hB => ?_); go_simp; refine hB (fun K hK => ?_); go_simp; (try simp (disch := omega) only [IntWalk.i64_in]); refine hK _ ?_; clear hK K hA hB A B))
                refine can_nil ?_
                clear px pk hall
                go_wp2_with fail
                go_roundw
                case rel => exact ⟨jn + 1, by omega, by go_num, by rw [Hst.out]; rfl, Hbq.out.drew⟩
                case measure => simp [intOf]; omega
              | true =>
                go_wp2_with fail
                refine wp_region_can Later [(0, true), (1, true), (2, true), (3, true), (4, true), (5, true), (6, true), (7, true), (8, true), (9, true), (10, true)] (by kernel_rfl) (by kernel_rfl) later_refl later_trans ?_
                repeat (first
                  | (refine can_yes (v := ?_) rfl (wanted_none rfl) (fun w' hC => ?_) (fun K hK => ?_); rotate_left; (focus (go_simp; (try simp (disch := omega) only [IntWalk.i64_in]); first | done | exact rfl)); go_simp; (try simp (disch := omega) only [IntWalk.i64_in]); refine hK _ ?_; clear hK K)
                  | (refine can_guard rfl (fun A B hA hB => ?_); go_simp; first | (refine hA ⟨?_, fun w' hC => ?_, fun K hK => ?_⟩; rotate_left; (focus (go_simp; (try simp (disch := omega) only [IntWalk.i64_in]); first | done | exact rfl)); go_simp; (try simp (disch := omega) only [IntWalk.i64_in]); refine hK _ ?_; clear hK K hA hB A B) | (refine hB (fun K hK => ?_); go_simp; (try simp (disch := omega) only [IntWalk.i64_in]); refine hK _ ?_; clear hK K hA hB A B))
                  | (refine can_guard_go rfl (fun A B hA hB => ?_); go_simp; refine hB (fun K hK => ?_); go_simp; (try simp (disch := omega) only [IntWalk.i64_in]); refine hK _ ?_; clear hK K hA hB A B))
                refine can_nil ?_
                clear px pk hall
                go_wp2_with fail
                go_roundw
                case rel => exact ⟨jn + 1, by omega, by go_num, by rw [Hst.out]; rfl, Hbq.out.drew⟩
                case measure => simp [intOf]; omega
            · have hjI : ¬ (jn : Int) < (l.length : Int) := by omega
              obtain rfl : jn = l.length := by omega
              rw [List.take_length]
              have hqq := HXq.out wq Hbq.out
              have kOq := HOb.out.keep (hqq.1.block _ HOb.out.lt)
              obtain ⟨o0, o1, o2⟩ := cell3 kOq
              obtain ⟨x0, x1, x2, x3⟩ := cell4 hqq.2
              have hinq := Hin.out.below hqq.1
              have hLq : Below w2.heap.size w2 wq := Hbw.out.trans (hqq.1.mono Hbw.out.size)
              have hf1 := take_filter (fun x : RIt => decide (x.key ∈ l)) m.items k hkn
              have hf2 := take_filter (fun x : RIt => decide (x.key ∉ l)) m.items k hkn
              rw [Hit.out] at hf1 hf2
              have KOq := Lib.hid kOq; have Hinq := Lib.hid hinq; have HLq := Lib.hid hLq
              by_cases hmem : it.key ∈ l
              · have hd : decide (it.key ∈ l) = true := decide_eq_true hmem
                rw [hd]
                rw [if_pos (by simpa using hmem)] at hf1
                rw [if_neg (by simpa using hmem)] at hf2
                have Hf1 := Lib.hid hf1; have Hf2 := Lib.hid hf2
                clear hd hf1 hf2 hmem
                have hP := rbury_any wq _ (.slice ag cur.length cg) cur (goneOf it) (Rows.of_owns hinq.gone) (by have := Hlen.out; omega)
                have hpn := put_len RGo.pl cur (goneOf it)
                generalize hnr : putL RGo.pl cur (goneOf it) = nxt at hP hpn
                unfold goV goneOf at hP
                have HP := Lib.hid hP; have Hnx := Lib.hid hnr; have Hpn := Lib.hid hpn
                clear hP hnr hpn kOq hinq hLq hqq
                go_wp2_with fail
                refine HP.out.mono ?_
                rintro e w9 ⟨⟨r, rfl, ho9⟩, hb9⟩
                obtain ⟨a9, c9, rfl⟩ := own_shape ho9
                have kO9 := KOq.out.keep (hb9.block _ KOq.out.lt)
                clear o0 o1 o2 x0 x1 x2 x3
                obtain ⟨o0, o1, o2⟩ := cell3 kO9
                have fo1 := kO9.free 2
                obtain ⟨w10, hw10⟩ : ∃ w10, w10 = w9.setCell ⟨w5.heap.size, 2, none⟩ (.slice a9 nxt.length c9) := ⟨_, rfl⟩
                have hL9 : Below w2.heap.size w2 w9 := HLq.out.trans (hb9.mono HLq.out.size)
                have HL10 := Lib.hid (show Below w2.heap.size w2 w10 by rw [hw10]; exact hL9.setCell (by show w2.heap.size ≤ w5.heap.size; exact Hz5.out) _)
                have KO10 := Lib.hid (show Blk w10 w5.heap.size [.slice (some ⟨g, 0, none⟩) m.seen.length e1, .slice ai itc.length ci, .slice a9 nxt.length c9] 26 by rw [hw10]; exact kO9.set 2 _)
                have e1' : (m.items.take (k + 1)).filter (fun x => decide (x.key ∉ l)) = itc := by rw [Hf2.out, Hitc.out, List.append_nil]
                have e2' : (((m.items.take (k + 1)).filter fun x => decide (x.key ∈ l)).map goneOf).foldl (putL RGo.pl) m.gone = nxt := by
                  rw [Hf1.out, List.map_append, List.foldl_append, Hcur.out]
                  exact Hnx.out
                have Hin10 := Lib.hid (show RefIn w10 w2.heap.size (.slice (some ⟨g, 0, none⟩) m.seen.length e1) (.slice ai itc.length ci) (.slice a9 nxt.length c9) ⟨seenUp m q, (m.items.take (k + 1)).filter (fun x => decide (x.key ∉ l)), (((m.items.take (k + 1)).filter fun x => decide (x.key ∈ l)).map goneOf).foldl (putL RGo.pl) m.gone⟩ by
                  rw [e1', e2']
                  have hq9 := Hinq.out.below hb9
                  rw [hw10]
                  exact ⟨own_setCell hq9.seen kO9 (by decide) _, own_setCell hq9.items kO9 (by decide) _, own_setCell (own_base ho9 HLq.out.size) kO9 (by decide) _⟩)
                have Hlen10 := Lib.hid (show ((((m.items.take (k + 1)).filter fun x => decide (x.key ∈ l)).map goneOf).foldl (putL RGo.pl) m.gone).length ≤ 4096 + (k + 1) by
                  rw [e2']
                  have := Hpn.out; have := Hlen.out
                  omega)
                have Hw10 := Lib.hid hw10
                clear hw10 hL9 e1' e2' ho9 hb9 kO9 HP
                go_wp2_with fail
                rw [← Hw10.out]
                clear o0 o1 o2 fo1
                go_roundw
                case rel => exact ⟨k + 1, by omega, by go_num, HL10.out, _, _, KO10.out, Hin10.out, Hlen10.out⟩
                case measure => simp [intOf]; omega
              · have hd : decide (it.key ∈ l) = false := decide_eq_false hmem
                rw [hd]
                rw [if_neg (by simpa using hmem)] at hf1
                rw [if_pos (by simpa using hmem)] at hf2
                have Hf1 := Lib.hid hf1; have Hf2 := Lib.hid hf2
                clear hd hf1 hf2 hmem
                obtain ⟨i0, t1, t2, t3, t4⟩ := info_parts infoItR
                obtain ⟨v5, w9, hr5, hown5, hg5⟩ := run_append_one (P := Tryz.prog) wq w2.heap.size 23 72 Tryz.underlying23 t1 t2 t3 t4 rfl (by decide) (.slice ai itc.length ci) itc.length _ hinq.items #[.string ⟨it.key.toArray⟩, .int .i64 it.dev, .int .i64 it.seq, .int .i64 it.val] rfl (by simp [Value.oneCell']) (by have := Hil.out; unfold maxLen; omega) (by have := Hil.out; omega) hLq.size
                obtain ⟨a9, c9, rfl⟩ := own_shape hown5
                have hoA := own_below hinq.items (kept_alloc wq (.cells #[.string ⟨it.key.toArray⟩, .int .i64 it.dev, .int .i64 it.seq, .int .i64 it.val] 72))
                have kO9 := (KOq.out.alloc (.cells #[.string ⟨it.key.toArray⟩, .int .i64 it.dev, .int .i64 it.seq, .int .i64 it.val] 72)).grownNe hoA (by decide) hg5
                have os9 := own_grownNe (own_below hinq.seen (kept_alloc wq (.cells #[.string ⟨it.key.toArray⟩, .int .i64 it.dev, .int .i64 it.seq, .int .i64 it.val] 72))) hoA (by decide) hg5
                have og9 := own_grownNe (own_below hinq.gone (kept_alloc wq (.cells #[.string ⟨it.key.toArray⟩, .int .i64 it.dev, .int .i64 it.seq, .int .i64 it.val] 72))) hoA (by decide) hg5
                have hL9 : Below w2.heap.size w2 w9 := hLq.trans (((Below.refl w2.heap.size wq).alloc hLq.size _).trans (Below.grownOwn hoA hg5 (by have := hLq.size; simp; omega) (Nat.le_refl _)))
                obtain ⟨w10, hw10⟩ : ∃ w10, w10 = w9.setCell ⟨w5.heap.size, 1, none⟩ (.slice a9 (itc.length + 1) c9) := ⟨_, rfl⟩
                have HL10 := Lib.hid (show Below w2.heap.size w2 w10 by rw [hw10]; exact hL9.setCell (by show w2.heap.size ≤ w5.heap.size; exact Hz5.out) _)
                have KO10 := Lib.hid (show Blk w10 w5.heap.size [.slice (some ⟨g, 0, none⟩) m.seen.length e1, .slice a9 (itc.length + 1) c9, .slice ag cur.length cg] 26 by rw [hw10]; exact kO9.set 1 _)
                have e1' : (m.items.take (k + 1)).filter (fun x => decide (x.key ∉ l)) = itc ++ [it] := by rw [Hf2.out, Hitc.out]
                have e2' : (((m.items.take (k + 1)).filter fun x => decide (x.key ∈ l)).map goneOf).foldl (putL RGo.pl) m.gone = cur := by
                  rw [Hf1.out, List.append_nil, Hcur.out]
                have Hin10 := Lib.hid (show RefIn w10 w2.heap.size (.slice (some ⟨g, 0, none⟩) m.seen.length e1) (.slice a9 (itc.length + 1) c9) (.slice ag cur.length cg) ⟨seenUp m q, (m.items.take (k + 1)).filter (fun x => decide (x.key ∉ l)), (((m.items.take (k + 1)).filter fun x => decide (x.key ∈ l)).map goneOf).foldl (putL RGo.pl) m.gone⟩ by
                  rw [e1', e2', hw10]
                  refine ⟨own_setCell os9 kO9 (by decide) _, ?_, own_setCell og9 kO9 (by decide) _⟩
                  dsimp only
                  rw [List.length_append, flat_snoc]
                  exact own_setCell hown5 kO9 (by decide) _)
                have Hlen10 := Lib.hid (show ((((m.items.take (k + 1)).filter fun x => decide (x.key ∈ l)).map goneOf).foldl (putL RGo.pl) m.gone).length ≤ 4096 + (k + 1) by
                  rw [e2']
                  have := Hlen.out
                  omega)
                obtain ⟨p0, p1', p2'⟩ := cell3 kO9
                have fo1 := kO9.free 1
                have Hw10 := Lib.hid hw10
                clear hw10 hL9 e1' e2' hown5 kO9 os9 og9 hoA hg5 t1 t2 t3 t4 kOq hinq hLq hqq
                go_wp2_with fail
                rw [← Hw10.out]
                clear o0 o1 o2 fo1 p0 p1' p2' hr5
                go_roundw
                case rel => exact ⟨k + 1, by omega, by go_num, HL10.out, _, _, KO10.out, Hin10.out, Hlen10.out⟩
                case measure => simp [intOf]; omega
        · have hkI : ¬ (k : Int) < (m.items.length : Int) := by omega
          obtain rfl : k = m.items.length := by omega
          have hus : (⟨seenUp m q, itc, cur⟩ : RMap) = forgetM m q l := by
            rw [← refForget_eq m q l Hf.out]
            unfold refForgetM
            rw [← Hcur.out, ← Hitc.out, List.take_length]
          have hin := Hin.out
          rw [hus] at hin
          have hml : m.seen.length = (forgetM m q l).seen.length := (congrArg (fun z : RMap => z.seen.length) hus.symm).trans (up_len m q) |>.symm
          obtain ⟨hbnd, hki', hkg'⟩ := forget_bnd Hf.out Ha.out
          have hLm := rfull_any wr _ (.agg #[.slice (some ⟨g, 0, none⟩) m.seen.length e1, .slice ai itc.length ci, .slice ag cur.length cg]) (forgetM m q l) ⟨_, _, _, rfl, hin.map hbnd⟩ (fun x hx => by have := hki' x hx; omega) (fun x hx => by have := hkg' x hx; omega)
          obtain ⟨ok, hok⟩ : ∃ ok, validR (forgetM m q l) = ok := ⟨_, rfl⟩
          rw [hok] at hLm
          have hu : forgetR m q l = if ok = true then (forgetM m q l, 0) else (.empty, 7) := by
            unfold forgetR fullR
            rw [Hok.out, Hal.out, hok]
            cases ok <;> rfl
          obtain ⟨o0, o1, o2⟩ := cell3 HOb.out
          have HLm := Lib.hid hLm; have Hu := Lib.hid hu; have Hbnd := Lib.hid hbnd; have Hin2 := Lib.hid hin
          clear hLm hu hbnd hki' hkg' hin hus hml hok kA hMm hLl
          go_wp2_with fail
          refine HLm.out.mono ?_
          rintro e w8 ⟨rfl, hb8⟩
          have hL8 : Below w2.heap.size w2 w8 := Hbw.out.trans (hb8.mono Hbw.out.size)
          have kr := (HR.out w8 hL8).2.2.1
          have hbel := (HR.out w8 hL8).1
          have Hin8 := Lib.hid (Hin2.out.below hb8)
          clear HLm hb8 hL8 o0 o1 o2
          cases ok with
          | false =>
            have Hu0 := Lib.hid (show forgetR m q l = (.empty, 7) from Hu.out.trans (if_neg Bool.false_ne_true))
            obtain ⟨wf, hwf, hblk, hbf⟩ := fin3 kr hbel (Nat.le_succ _) (.slice none 0 0) (.slice none 0 0) (.slice none 0 0)
            obtain ⟨y0, y1, y2⟩ := cell3 kr
            have z0 := kr.free 0
            have z1 := kr.free 1
            have z2 := kr.free 2
            have Q := Lib.hid (cell3 hblk)
            have Hbf := Lib.hid hbf; have Hwf := Lib.hid hwf
            clear hwf hblk hbf
            go_wp2_with fail
            rw [← Hwf.out]
            obtain ⟨q0, q1, q2⟩ := Q.out
            exact bodyPost_ret (v := .tuple #[.agg #[.slice none 0 0, .slice none 0 0, .slice none 0 0], .int .i64 7]) (by simp [results, Tryz.results35, go_sem, q0, q1, q2]) rfl ⟨_, by rw [Hu0.out], by rw [Hu0.out]; exact mapV_empty _ _, Hbf.out⟩
          | true =>
            have Hu0 := Lib.hid (show forgetR m q l = (forgetM m q l, 0) from Hu.out.trans (if_pos rfl))
            obtain ⟨wf, hwf, hblk, hbf⟩ := fin3 kr hbel (Nat.le_succ _) (.slice (some ⟨g, 0, none⟩) m.seen.length e1) (.slice ai itc.length ci) (.slice ag cur.length cg)
            obtain ⟨y0, y1, y2⟩ := cell3 kr
            have z0 := kr.free 0
            have z1 := kr.free 1
            have z2 := kr.free 2
            have Q := Lib.hid (cell3 hblk)
            have Hof := Lib.hid (show RefIn wf w2.heap.size (.slice (some ⟨g, 0, none⟩) m.seen.length e1) (.slice ai itc.length ci) (.slice ag cur.length cg) (forgetM m q l) by
              rw [hwf]
              exact ((Hin8.out.setCell kr _).setCell (kr.set 0 _) _).setCell ((kr.set 0 _).set 1 _) _)
            have Hbf := Lib.hid hbf; have Hwf := Lib.hid hwf
            clear hwf hblk hbf
            go_wp2_with fail
            rw [← Hwf.out]
            obtain ⟨q0, q1, q2⟩ := Q.out
            exact bodyPost_ret (v := .tuple #[.agg #[.slice (some ⟨g, 0, none⟩) m.seen.length e1, .slice ai itc.length ci, .slice ag cur.length cg], .int .i64 0]) (by simp [results, Tryz.results35, go_sem, q0, q1, q2]) rfl ⟨_, by rw [Hu0.out], by rw [Hu0.out]; exact ⟨_, _, _, rfl, (Hof.out.map Hbnd.out).mono fun b hb _ => by have := Hz2.out; omega⟩, Hbf.out⟩
end Go.Proofs.YtbjkkmabafaogaaGreatDoor
