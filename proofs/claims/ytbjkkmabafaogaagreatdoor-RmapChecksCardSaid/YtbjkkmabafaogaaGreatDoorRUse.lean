/- Use. -/
import Derived.Test.YtbjkkmabafaogaaGreatDoorRBet
import Derived.Test.YtbjkkmabafaogaaGreatDoorREvent
namespace Go.Proofs.YtbjkkmabafaogaaGreatDoor
open Go.RowKit Go.Sort
set_option linter.unusedVariables false
set_option maxRecDepth 20000
attribute [local go_sem ↓] seal_append

/-- what an event returns: a map in new memory that may be written, or none, and an error -/
def UPost (w : World) (mr : RMap × Int) (e : Ending) (w' : World) : Prop :=
  (∃ r, e = .returned (.tuple #[r, .int .i64 mr.2]) ∧ OwnV w' w.heap.size r mr.1 ∧ Bnd mr.1) ∧ Below w.heap.size w w'
theorem own_nil (w : World) (base : Nat) : OwnV w base nilV .empty := ⟨_, _, _, rfl, World.ownsRow_nil _ _ _ _, World.ownsRow_nil _ _ _ _, World.ownsRow_nil _ _ _ _⟩
theorem bnd_empty : Bnd .empty := ⟨nofun, nofun, nofun⟩

theorem i64ok_of {n : Int} (h : -4611686018427387904 ≤ n ∧ n ≤ 4611686018427387904) : i64ok n := by unfold i64ok; omega
theorem bnd_formed {m : RMap} (f : Formed m) : Bnd m := by
  have sg := seen_get f
  refine ⟨fun n hn => ?_, fun x hx => ?_, fun x hx => ?_⟩
  · have := f.seen n hn
    exact i64ok_of (by omega)
  · obtain ⟨h1, h2, h3, h4⟩ := known_seq (f.iknown x hx)
    have h5 := keyOk_len (known_key (f.iknown x hx))
    have h6 := f.val x hx
    have h7 := sg x.pl.2.toNat
    rw [f.len] at h2
    have e1 : x.pl.2 = x.dev := rfl
    have e2 : x.pl.1 = x.key := rfl
    rw [e1] at h1 h2 h4 h7
    rw [e2] at h5
    exact ⟨by omega, i64ok_of (by omega), i64ok_of (by omega), i64ok_of (by omega)⟩
  · obtain ⟨h1, h2, h3, h4⟩ := known_seq (f.gknown x hx)
    have h5 := keyOk_len (known_key (f.gknown x hx))
    have h7 := sg x.pl.2.toNat
    rw [f.len] at h2
    have e1 : x.pl.2 = x.dev := rfl
    have e2 : x.pl.1 = x.key := rfl
    rw [e1] at h1 h2 h4 h7
    rw [e2] at h5
    exact ⟨by omega, i64ok_of (by omega), i64ok_of (by omega)⟩
theorem up_bnd {m : RMap} (f : Formed m) {d : Int} (h1 : 0 ≤ d) (h2 : d < 8) : ∀ n ∈ seenUp m d, 0 ≤ n ∧ n ≤ 1099511627777 := by
  intro n hn
  obtain ⟨i, hi, rfl⟩ := List.mem_iff_getElem.1 hn
  have h3 := up_get m d (dev_lt f h1 h2) i
  rw [List.getD_eq_getElem?_getD, List.getElem?_eq_getElem hi] at h3
  have h4 := seen_get f i
  simp only [Option.getD_some] at h3
  rw [h3]
  split <;> omega
theorem use_bnd {m : RMap} (f : Formed m) {d : Int} {l : List RKey} (ha : Allowed d l) : Bnd (useM m d l) ∧ (∀ x ∈ (useM m d l).items, x.key.length ≤ 400) ∧ ∀ x ∈ (useM m d l).gone, x.key.length ≤ 400 := by
  have b := bnd_formed f
  have hn := seen_get f d.toNat
  have hnow : 1 ≤ nowR m d ∧ nowR m d ≤ 1099511627777 := by unfold nowR; omega
  have ki : ∀ x ∈ m.items, x.key.length ≤ 400 := fun x hx => keyOk_len (known_key (f.iknown x hx))
  have kg : ∀ x ∈ m.gone, x.key.length ≤ 400 := fun x hx => keyOk_len (known_key (f.gknown x hx))
  have key : ∀ x ∈ (useM m d l).items, (x.key.length ≤ 400) ∧ i64ok x.dev ∧ i64ok x.seq ∧ i64ok x.val := fun x hx => by
    rcases use_mem f.items ha.nodup hx with ⟨k, hk, rfl⟩ | hx
    · have e1 := Prod.mk.inj (refItem_pl m d k)
      have e2 := refItem_seq m d k
      have e3 := refItem_val f ha.lo ha.hi k
      have l1 := ha.lo
      have l2 := ha.hi
      refine ⟨by rw [e1.1]; exact keyOk_len (ha.keys k hk), by rw [e1.2]; exact i64ok_of (by omega), by rw [e2]; exact i64ok_of (by omega), i64ok_of (by omega)⟩
    · exact ⟨ki x hx, (b.itemsB x hx).2⟩
  exact ⟨⟨fun n hn => by have := up_bnd f ha.lo ha.hi n hn; exact i64ok_of (by omega), fun x hx => ⟨by have := (key x hx).1; omega, (key x hx).2⟩, b.goneB⟩, fun x hx => (key x hx).1, kg⟩

set_option maxRecDepth 100000 in
set_option maxHeartbeats 4000000 in
theorem puse_any (w : World) (hT : Tabs w) (h3 : 3 ≤ w.heap.size) (F : Blks) (v : Value) (m : RMap) (h : MapV F w v m) (hki : ∀ x ∈ m.items, x.key.length ≤ 1000000) (hkg : ∀ x ∈ m.gone, x.key.length ≤ 1000000)
    (hl2 : m.items.length ≤ 1000000) (hl3 : m.gone.length ≤ 1000000) (d : Int) (G : Blks) (lv : Value) (l : List RKey) (hlv : Rows G w 1 lv l.length (l.map eS)) (hl : l.length ≤ 1000000) (hk : ∀ k ∈ l, k.length ≤ 4611686018427387903) :
    Calls Tryz.prog 26 #[v, .int .i64 d, lv] w (UPost w (useR m d l)) := by
  replace h := h.mono (G := fun b => b < w.heap.size) fun b _ hlt => hlt
  replace hlv := hlv.mono (G := fun b => b < w.heap.size) fun b _ hlt => hlt
  obtain ⟨s1, s2, s3, rfl, h⟩ := h
  obtain ⟨a1, p1, rfl, -⟩ := h.seen.shape
  obtain ⟨a2, p2, rfl, -⟩ := h.items.shape
  obtain ⟨a3, p3, rfl, -⟩ := h.gone.shape
  have l1 := h.seen.len
  have l2 := h.items.len
  have l3 := h.gone.len
  unfold maxLen at l1 l2 l3
  obtain ⟨n1, hn1⟩ : ∃ n, m.seen.length = n := ⟨_, rfl⟩
  obtain ⟨n2, hn2⟩ : ∃ n, m.items.length = n := ⟨_, rfl⟩
  obtain ⟨n3, hn3⟩ : ∃ n, m.gone.length = n := ⟨_, rfl⟩
  rw [hn1, hn2, hn3] at h
  rw [hn1] at l1 ⊢
  rw [hn2] at l2 ⊢
  rw [hn3] at l3 ⊢
  obtain ⟨wx, hwx⟩ : ∃ wx, wx = w.alloc (.cells #[.slice a1 n1 p1, .slice a2 n2 p2, .slice a3 n3 p3] 31) := ⟨_, rfl⟩
  have hbx : Below w.heap.size w wx := by rw [hwx]; exact kept_alloc _ _
  have hzx : wx.heap.size = w.heap.size + 1 := by rw [hwx]; simp
  have hx := h.keep (w' := wx) fun b _ hlt => hbx.block b hlt
  have hnx : Blk wx w.heap.size [.slice a1 n1 p1, .slice a2 n2 p2, .slice a3 n3 p3] 31 := by rw [hwx]; exact Blk.new _ _ _
  have Hx := Lib.hid hx; have Hn1 := Lib.hid hn1; have Hn2 := Lib.hid hn2; have Hn3 := Lib.hid hn3
  have Hwx := Lib.hid hwx; have Hbx := Lib.hid hbx; have Hzx := Lib.hid hzx
  have c0 := hnx.cell 0
  have c1 := hnx.cell 1
  have c2 := hnx.cell 2
  simp at c0 c1 c2
  have Hnx := Lib.hid hnx
  clear hx hn1 hn2 hn3 hwx hbx hnx hzx
  clear h
  obtain ⟨nl, hnl⟩ : ∃ nl, l.length = nl := ⟨_, rfl⟩
  obtain ⟨al, cl, rfl, -⟩ := hlv.shape
  have Hlv := Lib.hid hlv
  rw [hnl]
  have Hnl := Lib.hid hnl
  obtain ⟨w2, hw2⟩ : ∃ w2, w2 = wx.alloc (.cells #[.slice none 0 0, .slice none 0 0, .slice none 0 0] 31) := ⟨_, rfl⟩
  have hb2 : Below w.heap.size w w2 := by rw [hw2]; exact Hbx.out.alloc Hbx.out.size _
  have hz2 : w2.heap.size = w.heap.size + 2 := by rw [hw2]; simp [Hzx.out]
  have k2 : Blk w2 (w.heap.size + 1) [.slice none 0 0, .slice none 0 0, .slice none 0 0] 31 := by
    have := Blk.new wx #[.slice none 0 0, .slice none 0 0, .slice none 0 0] 31
    rw [hw2, ← Hzx.out]; exact this
  have HR := Lib.hid (show ∀ W, Below w2.heap.size w2 W → Below w.heap.size w W ∧ Blk W (w.heap.size + 1) [.slice none 0 0, .slice none 0 0, .slice none 0 0] 31 from fun W hl => ⟨hb2.trans (hl.mono (by omega)), k2.keep (hl.block _ k2.lt)⟩)
  have HE := Lib.hid (show Calls Tryz.prog 55 #[.agg #[.slice a1 n1 p1, .slice a2 n2 p2, .slice a3 n3 p3], .int .i64 d, .slice al nl cl] w2 (EvPost w2 m d l) by
    have := event_any w2 (tabs_below hT h3 hb2) (by omega) _ (.agg #[.slice a1 n1 p1, .slice a2 n2 p2, .slice a3 n3 p3]) m ⟨_, _, _, rfl, Hx.out.keep (w' := w2) fun b _ hlt => by rw [hw2]; exact Below.heap_alloc _ _ _ hlt⟩ hki hkg hl2 hl3 d _ (.slice al l.length cl) l (Hlv.out.keep (w' := w2) fun b _ hlt => hb2.block b hlt) hl hk
    rw [Hnl.out] at this
    exact this)
  have HT := Lib.hid (show ∀ W, Below w2.heap.size w2 W → Tabs W ∧ 3 ≤ W.heap.size from fun W hl => ⟨tabs_below hT h3 (HR.out W hl).1, Nat.le_trans h3 (HR.out W hl).1.size⟩)
  have Hw2 := Lib.hid hw2; have Hz2 := Lib.hid hz2
  rw [hnl] at hl
  rw [Hn2.out] at hl2
  clear hw2 hb2 hz2 k2 Hx Hnx hT hki hkg c0 c1 c2 hlv hnl hk Hlv hl3
  go_enter Tryz.func26, Tryz.ntmps26
  go_wp2_with fail
  rw [← Hwx.out, ← Hw2.out]
  refine HE.out.mono ?_
  rintro e w3 ⟨(⟨hok, rfl⟩ | ⟨hok, hal, rfl⟩ | ⟨hok, hal, r, s, rfl, ⟨s1, s2, s3, rfl, ho⟩, hos⟩), hb3⟩
  · have Hu := Lib.hid (show useR m d l = (.empty, 5) by unfold useR; rw [hok]; rfl)
    have kr := (HR.out w3 hb3).2.alloc (.cells #[.slice none 0 0, .slice none 0 0, .slice none 0 0] 31)
    have hbel := (HR.out w3 hb3).1.alloc (HR.out w3 hb3).1.size (.cells #[.slice none 0 0, .slice none 0 0, .slice none 0 0] 31)
    have HL3 := Lib.hid hb3
    clear HE hok hb3
    unfold nilV
    obtain ⟨wf, hwf, hblk, hbf⟩ := fin3 kr hbel (Nat.le_succ _) (.slice none 0 0) (.slice none 0 0) (.slice none 0 0)
    obtain ⟨y0, y1, y2⟩ := cell3 kr
    have z0 := kr.free 0
    have z1 := kr.free 1
    have z2 := kr.free 2
    have Q := Lib.hid (cell3 hblk)
    have Hbf := Lib.hid hbf; have Hwf := Lib.hid hwf
    clear hwf hblk hbf
    go_wp2_with fail
    rw [← Hwf.out]
    obtain ⟨q0, q1, q2⟩ := Q.out
    exact bodyPost_ret (v := .tuple #[nilV, .int .i64 5]) (by simp [results, Tryz.results26, go_sem, q0, q1, q2, nilV]) rfl ⟨⟨_, by rw [Hu.out], by rw [Hu.out]; exact own_nil _ _, by rw [Hu.out]; exact bnd_empty⟩, Hbf.out⟩
  · have Hu := Lib.hid (show useR m d l = (.empty, 1) by unfold useR; rw [hok, hal]; rfl)
    have kr := (HR.out w3 hb3).2.alloc (.cells #[.slice none 0 0, .slice none 0 0, .slice none 0 0] 31)
    have hbel := (HR.out w3 hb3).1.alloc (HR.out w3 hb3).1.size (.cells #[.slice none 0 0, .slice none 0 0, .slice none 0 0] 31)
    have HL3 := Lib.hid hb3
    clear HE hok hb3 hal
    unfold nilV
    obtain ⟨wf, hwf, hblk, hbf⟩ := fin3 kr hbel (Nat.le_succ _) (.slice none 0 0) (.slice none 0 0) (.slice none 0 0)
    obtain ⟨y0, y1, y2⟩ := cell3 kr
    have z0 := kr.free 0
    have z1 := kr.free 1
    have z2 := kr.free 2
    have Q := Lib.hid (cell3 hblk)
    have Hbf := Lib.hid hbf; have Hwf := Lib.hid hwf
    clear hwf hblk hbf
    go_wp2_with fail
    rw [← Hwf.out]
    obtain ⟨q0, q1, q2⟩ := Q.out
    exact bodyPost_ret (v := .tuple #[nilV, .int .i64 1]) (by simp [results, Tryz.results26, go_sem, q0, q1, q2, nilV]) rfl ⟨⟨_, by rw [Hu.out], by rw [Hu.out]; exact own_nil _ _, by rw [Hu.out]; exact bnd_empty⟩, Hbf.out⟩
  · have ha := (allowed_iff d l).1 hal
    have f := valid_formed hok
    have hn1 : (seenUp m d).length = n1 := (up_len m d).trans Hn1.out
    have hn8 := f.len
    rw [Hn1.out] at hn8
    have hsl : (sortK l).length = nl := by rw [(sortK_perm l).length_eq]; exact Hnl.out
    have Hsl := Lib.hid hsl
    obtain ⟨b1, c1, hs1⟩ := own_shape ho.seen
    obtain ⟨b2, c2, hs2⟩ := own_shape ho.items
    obtain ⟨b3, c3, hs3⟩ := own_shape ho.gone
    rw [Hnl.out] at hos
    obtain ⟨bs, cs, rfl⟩ := own_shape hos
    dsimp only at hs1 hs2 hs3
    rw [hn1] at hs1
    rw [Hn2.out] at hs2
    rw [Hn3.out] at hs3
    subst hs1 hs2 hs3
    have hg1 : ∃ g, b1 = some ⟨g, 0, none⟩ := by
      rcases ho.seen.2 with ⟨_, h0⟩ | ⟨g, cap, cur, hv, _⟩
      · dsimp only at h0; omega
      · simp at hv; exact ⟨g, hv.1⟩
    obtain ⟨g, rfl⟩ := hg1
    obtain ⟨q, rfl⟩ := Int.eq_ofNat_of_zero_le ha.lo
    have hq8 := ha.hi
    have hqn : q < n1 := by omega
    obtain ⟨now, hnow⟩ : ∃ now, nowR m q = now := ⟨_, rfl⟩
    have hq : q < (seenUp m q).length := by rw [hn1]; exact hqn
    have hup : (seenUp m q)[q] = now := by
      have h1 := up_get m (q : Int) (dev_lt f ha.lo ha.hi) q
      rw [Int.toNat_natCast, if_pos rfl, List.getD_eq_getElem?_getD, List.getElem?_eq_getElem hq] at h1
      rw [← hnow]
      unfold nowR
      rw [Int.toNat_natCast]
      simpa using h1
    have hnb : 0 ≤ now ∧ now ≤ 1099511627777 := by
      have := up_bnd f ha.lo ha.hi now (by rw [← hup]; exact List.getElem_mem hq)
      exact this
    obtain ⟨w4, hw4⟩ : ∃ w4, w4 = w3.alloc (.cells #[.slice (some ⟨g, 0, none⟩) n1 c1, .slice b2 n2 c2, .slice b3 n3 c3] 31) := ⟨_, rfl⟩
    have hz4 : w4.heap.size = w3.heap.size + 1 := by rw [hw4]; simp
    have hb4 : Below w3.heap.size w3 w4 := by rw [hw4]; exact kept_alloc _ _
    have hO4 : Blk w4 w3.heap.size [.slice (some ⟨g, 0, none⟩) n1 c1, .slice b2 n2 c2, .slice b3 n3 c3] 31 := by rw [hw4]; exact Blk.new _ _ _
    have ho4 := ho.below hb4
    have ho1 := ho4.seen
    dsimp only at ho1
    rw [hn1] at ho1
    have e0 : w4.cell? ⟨g, q, none⟩ = some (.int .i64 now) := by
      rw [ho1.cellAt q (by omega)]
      simp [hq, hup]
    have hglt : g < w3.heap.size := by
      rcases ho.seen.2 with ⟨hh, _⟩ | ⟨g', cap, cur, hv, hb, hg, _⟩
      · simp at hh
      · simp at hv; obtain ⟨rfl, -⟩ := hv; exact lt_of_block hg
    have e0' : w3.cell? ⟨g, q, none⟩ = some (.int .i64 now) := by
      rw [← e0, hw4]
      unfold World.cell?
      rw [show (w3.alloc (.cells #[.slice (some ⟨g, 0, none⟩) n1 c1, .slice b2 n2 c2, .slice b3 n3 c3] 31)).heap[g]? = w3.heap[g]? from Below.heap_alloc _ _ _ hglt]
    have hglt1 : g < w3.heap.size + 1 := by omega
    have hqI : (q : Int) < (n1 : Int) := by omega
    obtain ⟨w5, hw5⟩ : ∃ w5, w5 = w4.alloc (.cells #[.int .i64 now] 3) := ⟨_, rfl⟩
    have hz5 : w5.heap.size = w3.heap.size + 2 := by rw [hw5]; simp [hz4]
    have hb5 : Below w3.heap.size w3 w5 := by rw [hw5]; exact hb4.alloc (by omega) _
    have HL3 := Lib.hid hb3
    have hz23 : w2.heap.size ≤ w3.heap.size := hb3.size
    have HK5 := Lib.hid (show ∀ W, Below w5.heap.size w5 W → Below w2.heap.size w2 W ∧ Blk W w3.heap.size [.slice (some ⟨g, 0, none⟩) n1 c1, .slice b2 n2 c2, .slice b3 n3 c3] 31 ∧ W.cell? ⟨w3.heap.size + 1, 0, none⟩ = some (.int .i64 now) ∧ OwnIn W w2.heap.size (.slice (some ⟨g, 0, none⟩) n1 c1) (.slice b2 n2 c2) (.slice b3 n3 c3) ⟨seenUp m q, m.items, m.gone⟩ ∧ W.ownsRow w2.heap.size 9 1 (.slice bs nl cs) nl ((sortK l).map eS) from fun W hl => by
      have k5 : Blk w5 w3.heap.size [.slice (some ⟨g, 0, none⟩) n1 c1, .slice b2 n2 c2, .slice b3 n3 c3] 31 := by rw [hw5]; exact hO4.alloc _
      have kn : Blk w5 (w3.heap.size + 1) [.int .i64 now] 3 := by
        have := Blk.new w4 #[.int .i64 now] 3
        rw [hw5, ← hz4]; exact this
      have hL : Below w3.heap.size w3 W := hb5.trans (hl.mono (by omega))
      refine ⟨HL3.out.trans (hL.mono hz23), k5.keep (hl.block _ k5.lt), ?_, ho.below hL, own_below hos hL⟩
      have := (kn.keep (hl.block _ kn.lt)).cell 0
      simpa using this)
    have H0 := Lib.hid (show Below w5.heap.size w5 w5 from Below.refl _ _)
    have Hw5 := Lib.hid (show w5 = (w3.alloc (.cells #[.slice (some ⟨g, 0, none⟩) n1 c1, .slice b2 n2 c2, .slice b3 n3 c3] 31)).alloc (.cells #[.int .i64 now] 3) by rw [hw5, hw4])
    have Ha := Lib.hid ha; have Hf := Lib.hid f; have Hok := Lib.hid hok; have Hal := Lib.hid hal; have Hnb := Lib.hid hnb
    have Hnow := Lib.hid hnow
    have Hz5 := Lib.hid hz5; have Hz23 := Lib.hid hz23
    clear HE hok hb3 hal ha f hn1 hn8 hos ho hup hnb hw4 hb4 hO4 ho4 ho1 e0 hw5 hb5 hz4 hz5 hsl hnow hq hq8
    go_wp2_with fail
    rw [← Hw5.out]
    clear e0'
    go_loopw [33, 11] (fun i s wr => ∃ k : Nat, k ≤ nl ∧ i = .int .i64 (k : Int) ∧ Below w5.heap.size w5 wr ∧ wr.ownsRow w5.heap.size 75 4 s k ((((sortK l).take k).map (usedIt q now)).flatMap encIt)) (fun i _ _ => nl - (intOf i).toNat)
    case atStart => exact ⟨0, by omega, rfl, H0.out, World.ownsRow_nil _ _ _ _⟩
    case round =>
      obtain ⟨k, hk, rfl, hbw, hown⟩ := hrel
      obtain ⟨a11, c11, rfl⟩ := own_shape hown
      have Hbw := Lib.hid hbw; have Hown := Lib.hid hown
      obtain ⟨-, hOb, hnc, -, hos⟩ := HK5.out wr hbw
      clear hbw hown
      by_cases hkn : k < nl
      · have hkI : (k : Int) < (nl : Int) := by omega
        have hkl : k < (sortK l).length := by rw [Hsl.out]; exact hkn
        have hsr := Rows.of_owns hos
        obtain ⟨bb, ob, rfl, -, -, hc⟩ := str_cell (l := sortK l) (by rw [Hsl.out]; exact hsr) (by rw [Hsl.out]; omega)
        have e1 := hc k hkl
        obtain ⟨x, hx⟩ : ∃ x, (sortK l)[k] = x := ⟨_, rfl⟩
        rw [hx] at e1
        obtain ⟨i0, t1, t2, t3, t4⟩ := info_parts infoItP
        obtain ⟨v6, w6, hr6, hown6, hg6⟩ := run_append_one (P := Tryz.prog) wr w5.heap.size 28 75 Tryz.underlying28 t1 t2 t3 t4 rfl (by decide) (.slice a11 k c11) k _ Hown.out #[.string ⟨x.toArray⟩, .int .i64 q, .int .i64 now, .int .i64 65536] rfl (by simp [Value.oneCell']) (by unfold maxLen; omega) (by omega) Hbw.out.size
        obtain ⟨a6, c6, rfl⟩ := own_shape hown6
        have hb6 : Below w5.heap.size wr w6 := (((Below.refl w5.heap.size wr).alloc Hbw.out.size _).trans (Below.grownOwn (own_below Hown.out (kept_alloc _ _)) hg6 (by simp; have := Hbw.out.size; omega) (Nat.le_refl _)))
        have Hb6 := Lib.hid (Hbw.out.trans hb6)
        have Hown6 := Lib.hid (show w6.ownsRow w5.heap.size 75 4 (.slice a6 (k + 1) c6) (k + 1) ((((sortK l).take (k + 1)).map (usedIt q now)).flatMap encIt) by
          rw [List.take_succ_eq_append_getElem hkl, List.map_append, List.flatMap_append, hx]
          exact hown6)
        clear hown6 hg6 hb6 t1 t2 t3 t4 hc hx hsr hos hOb
        go_wp2_with fail
        go_roundw
        case rel => exact ⟨k + 1, by omega, by go_num, Hb6.out, Hown6.out⟩
        case measure => simp [intOf]; omega
      · have hkI : ¬ (k : Int) < (nl : Int) := by omega
        obtain ⟨o0, o1, o2⟩ := cell3 hOb
        have hke : k = (sortK l).length := by rw [Hsl.out]; omega
        have hkl : k = nl := by omega
        subst hkl
        have hUd : wr.ownsRow w5.heap.size 75 4 (.slice a11 k c11) ((sortK l).map (usedIt q now)).length (((sortK l).map (usedIt q now)).flatMap encIt) := by
          have h1 := Hown.out
          rw [List.length_map, ← hke]
          rw [show (sortK l).take k = sortK l by rw [hke, List.take_length]] at h1
          exact h1
        have hit : (useM m q l).items = mergeL RIt.pl (useBetter now) m.items ((sortK l).map (usedIt q now)) := by
          show mergeL RIt.pl (useBetter (nowR m q)) m.items ((sortK l).map (usedIt q (nowR m q))) = _
          rw [Hnow.out]
        obtain ⟨hL, -, -, hoW, -⟩ := HK5.out wr Hbw.out
        have hMr := mergeIt_use wr (w3.heap.size + 1) now _ _ (.slice b2 n2 c2) (.slice a11 k c11) m.items ((sortK l).map (usedIt q now)) (Rows.of_owns hoW.items) (Rows.of_owns hUd) (by rw [Hn2.out]; exact hl2) (by rw [List.length_map, ← hke]; exact hl) (fun x hx y hy _ W hW => useB_any W _ now ((hW.cell (p := ⟨w3.heap.size + 1, 0, none⟩) (cellLt hnc)).trans hnc) x y ⟨Hnb.out.1, by have := Hnb.out.2; omega⟩ (by
          have h1 := (known_seq (Hf.out.iknown x hx)).2.2
          have h2 := (seen_get Hf.out x.pl.2.toNat).2
          omega))
        rw [← hit] at hMr
        obtain ⟨nr, hnr⟩ : ∃ nr, (useM m q l).items.length = nr := ⟨_, rfl⟩
        rw [hnr] at hMr
        have HMr := Lib.hid hMr
        have Hnr := Lib.hid hnr
        clear hMr hit hnr hUd hos hoW hL hOb Hown hke
        go_wp2_with fail
        refine HMr.out.mono ?_
        rintro e w6 ⟨r6, rfl, ho6, hb6⟩
        obtain ⟨a6, c6, rfl⟩ := own_shape ho6
        have hL6 : Below w5.heap.size w5 w6 := Hbw.out.trans (hb6.mono Hbw.out.size)
        obtain ⟨hL, hOb, -, hoW, -⟩ := HK5.out w6 hL6
        obtain ⟨o0, o1, o2⟩ := cell3 hOb
        have fo1 := hOb.free 1
        obtain ⟨w7, hw7⟩ : ∃ w7, w7 = w6.setCell ⟨w3.heap.size, 1, none⟩ (.slice a6 nr c6) := ⟨_, rfl⟩
        have hO7 : Blk w7 w3.heap.size [.slice (some ⟨g, 0, none⟩) n1 c1, .slice a6 nr c6, .slice b3 n3 c3] 31 := by rw [hw7]; exact hOb.set 1 _
        have hL7 : Below w2.heap.size w2 w7 := by rw [hw7]; exact hL.setCell (by show w2.heap.size ≤ w3.heap.size; exact Hz23.out) _
        have hwr5 := Hbw.out.size
        have hz5 := Hz5.out
        have hz2 := Hz2.out
        have ho7 : OwnIn w7 w.heap.size (.slice (some ⟨g, 0, none⟩) n1 c1) (.slice a6 nr c6) (.slice b3 n3 c3) (useM m q l) := by
          rw [hw7]
          refine ⟨own_base (own_setCell hoW.seen hOb (by decide) _) (by omega), ?_, own_base (own_setCell hoW.gone hOb (by decide) _) (by omega)⟩
          rw [Hnr.out]
          exact own_base (own_setCell ho6 hOb (by decide) _) (by omega)
        obtain ⟨hbnd, hki, hkg⟩ := use_bnd Hf.out Ha.out
        have hLm := limited_any w7 (HT.out w7 hL7).1 (HT.out w7 hL7).2 _ (.agg #[.slice (some ⟨g, 0, none⟩) n1 c1, .slice a6 nr c6, .slice b3 n3 c3]) (useM m q l) ⟨_, _, _, rfl, ho7.map hbnd⟩ (fun x hx => by have := hki x hx; omega) (fun x hx => by have := hkg x hx; omega)
        obtain ⟨ok, hok⟩ : ∃ ok, validR (useM m q l) = ok := ⟨_, rfl⟩
        rw [hok] at hLm
        have hu : useR m q l = if ok = true then (useM m q l, 0) else (.empty, 7) := by
          unfold useR fullR
          rw [Hok.out, Hal.out, hok]
          cases ok <;> rfl
        have HLm := Lib.hid hLm; have Ho7 := Lib.hid ho7; have HL7 := Lib.hid hL7; have Hu := Lib.hid hu; have Hbnd := Lib.hid hbnd
        have Hw7 := Lib.hid hw7
        obtain ⟨o0', o1', o2'⟩ := cell3 hO7
        clear HMr ho6 hb6 hL6 hL hOb hoW hw7 hO7 hL7 hwr5 hz5 hz2 ho7 hbnd hki hkg hLm hok hu hnc
        go_wp2_with fail
        rw [← Hw7.out]
        refine HLm.out.mono ?_
        rintro e w8 ⟨rfl, hb8⟩
        have hL8 : Below w2.heap.size w2 w8 := HL7.out.trans (hb8.mono HL7.out.size)
        have kr := (HR.out w8 hL8).2
        have hbel := (HR.out w8 hL8).1
        have Ho8 := Lib.hid (Ho7.out.below hb8)
        clear HLm hb8 hL8
        cases ok with
        | false =>
          have Hu0 := Lib.hid (show useR m q l = (.empty, 7) from Hu.out.trans (if_neg Bool.false_ne_true))
          obtain ⟨wf, hwf, hblk, hbf⟩ := fin3 kr hbel (Nat.le_succ _) (.slice none 0 0) (.slice none 0 0) (.slice none 0 0)
          obtain ⟨y0, y1, y2⟩ := cell3 kr
          have z0 := kr.free 0
          have z1 := kr.free 1
          have z2 := kr.free 2
          have Q := Lib.hid (cell3 hblk)
          have Hbf := Lib.hid hbf; have Hwf := Lib.hid hwf
          clear hwf hblk hbf
          go_wp2_with fail
          rw [← Hwf.out]
          obtain ⟨q0, q1, q2⟩ := Q.out
          exact bodyPost_ret (v := .tuple #[nilV, .int .i64 7]) (by simp [results, Tryz.results26, go_sem, q0, q1, q2, nilV]) rfl ⟨⟨_, by rw [Hu0.out], by rw [Hu0.out]; exact own_nil _ _, by rw [Hu0.out]; exact bnd_empty⟩, Hbf.out⟩
        | true =>
          have Hu0 := Lib.hid (show useR m q l = (useM m q l, 0) from Hu.out.trans (if_pos rfl))
          obtain ⟨wf, hwf, hblk, hbf⟩ := fin3 kr hbel (Nat.le_succ _) (.slice (some ⟨g, 0, none⟩) n1 c1) (.slice a6 nr c6) (.slice b3 n3 c3)
          obtain ⟨y0, y1, y2⟩ := cell3 kr
          have z0 := kr.free 0
          have z1 := kr.free 1
          have z2 := kr.free 2
          have Q := Lib.hid (cell3 hblk)
          have Hof := Lib.hid (show OwnIn wf w.heap.size (.slice (some ⟨g, 0, none⟩) n1 c1) (.slice a6 nr c6) (.slice b3 n3 c3) (useM m q l) by
            rw [hwf]
            exact ((Ho8.out.setCell kr _).setCell (kr.set 0 _) _).setCell ((kr.set 0 _).set 1 _) _)
          have Hbf := Lib.hid hbf; have Hwf := Lib.hid hwf
          clear hwf hblk hbf
          go_wp2_with fail
          rw [← Hwf.out]
          obtain ⟨q0, q1, q2⟩ := Q.out
          exact bodyPost_ret (v := .tuple #[.agg #[.slice (some ⟨g, 0, none⟩) n1 c1, .slice a6 nr c6, .slice b3 n3 c3], .int .i64 0]) (by simp [results, Tryz.results26, go_sem, q0, q1, q2]) rfl ⟨⟨_, by rw [Hu0.out], by rw [Hu0.out]; exact ⟨_, _, _, rfl, Hof.out⟩, by rw [Hu0.out]; exact Hbnd.out⟩, Hbf.out⟩
end Go.Proofs.YtbjkkmabafaogaaGreatDoor
