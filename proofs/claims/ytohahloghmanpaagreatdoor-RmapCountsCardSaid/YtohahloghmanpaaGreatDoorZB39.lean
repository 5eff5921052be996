/-
  RCntP
-/
import Derived.Test.YtohahloghmanpaaGreatDoorZB38
import Derived.Test.YtohahloghmanpaaGreatDoorZB30
import Derived.Maps.RangeWalk
namespace Go.Proofs.YtohahloghmanpaaGreatDoor
open Go.RowKit Go.Lib Go.Maps Go.WideMaps
set_option linter.unusedVariables false
set_option maxRecDepth 20000
attribute [local go_sem ↓] seal_append
attribute [local go_sem] opC upC

theorem keyOf_str_inv {P : Program} {k : TypeId} (hk : P.underlying k = some .string) {key : Value} {kl : Lit} (h : keyOf P k key = some kl) : ∃ s : RKey, key = .string ⟨s.toArray⟩ ∧ kl = .string s ∧ s.length ≤ maxLen := by
  cases key with
  | string b =>
    obtain ⟨⟨l⟩⟩ := b
    rw [keyOf_string hk] at h
    simp [mapKey, hk] at h
    obtain ⟨h1, h2⟩ := h
    exact ⟨l, rfl, h2.symm, h1⟩
  | _ => simp [keyOf, hk, mapKey] at h
theorem wpList_next_si {P : Program} (w : World) {ops : Array Oper} {rest : List Oper} {o : Oper} {a : Act} {Q : Exit → Act → World → Prop}
    (hg : o.guard = none) (it : Operand) (hop : o.op = Op.next it false) (k e : TypeId) (K : Keyed P k) (hk : P.underlying k = some .string) (he : P.underlying e = some (.int .i64))
    (b r n : Nat) (D : DataW Unit) (left : Lit → Bool) (cnt : Nat) (hit : a.eval it = .pointer (some ⟨r, 0, none⟩)) (h : w.ranges P k (plainElem P e) b r n D left cnt)
    (hDone : cnt = 0 → (∀ kl, left kl = false) → wpList P ops Q rest (a.put o.dst (.tuple #[.bool false])) w)
    (hMore : ∀ (x : RKey) (c : Int) (w' : World) (cnt' : Nat), x.length ≤ maxLen → left (.string x) = true → (∀ zd, D.atKey (.string x) zd = .lit (.int .i64 c)) → w'.ranges P k (plainElem P e) b r n D (fun z => left z && !z.sameKey (.string x)) cnt' → cnt' < cnt →
      w.grownBy w' (some r) → w'.heap.size = w.heap.size → (Instr.entry (.pointer (some ⟨r, 0, none⟩))).run P w' = .ok (.tuple #[.string ⟨x.toArray⟩, .int .i64 c]) w' → wpList P ops Q rest (a.put o.dst (.tuple #[.bool true, .string ⟨x.toArray⟩, .int .i64 c])) w') :
    wpList P ops Q (o :: rest) a w :=
  wpList_next_ranges w hg it hop k K (plainElem P e) (fun x : RKey => Value.string ⟨x.toArray⟩) (Value.int .i64) (fun key kl hkey => by obtain ⟨x, rfl, _⟩ := keyOf_str_inv hk hkey; exact ⟨x, rfl⟩) (fun v y hv => by obtain ⟨c, rfl, _⟩ := plainElem_int_inv he hv; exact ⟨c, rfl⟩)
    b r n D left cnt hit h hDone (fun x c kl y w' cnt' hkey hlk hv hat hrg hlt hgr hsz hen => by
      obtain ⟨x', ex, rfl, hwx⟩ := keyOf_str_inv hk hkey
      obtain rfl : x = x' := by simpa using ex
      obtain ⟨c', ec, rfl, hwc⟩ := plainElem_int_inv he hv
      cases ec
      exact hMore x c w' cnt' hwx hlk hat hrg hlt hgr hsz hen)
theorem maps_size {P : Program} {k : TypeId} {R : Value → Option (DataW Unit × List MemPlace)} {b n : Nat} {D : DataW Unit} {w : World} (h : w.ownsMap P k R b n D) : Maps.size D ≤ n := by
  obtain ⟨es, clock, hb, F, hs, rfl⟩ := h
  simpa [Maps.size, length_sorted] using hs
theorem own_iter {w w' : World} {base r : Nat} {e : TypeId} {k n : Nat} {v : Value} {xs : List Value} (h : w.ownsRow base e k v n xs) (hg : w.grownBy w' (some r)) (hr : r < base) : w'.ownsRow base e k v n xs := by
  refine ⟨h.1, ?_⟩
  rcases h.2 with h0 | ⟨g, cap, cur, hv, hb, hh, hrest⟩
  · exact .inl h0
  · exact .inr ⟨g, cap, cur, hv, hb, (hg.block g (lt_of_block hh) (by simp; omega)).trans hh, hrest⟩
structure CntL (m : RMap) (D : DataW Unit) (left : Lit → Bool) (l : List RCn) : Prop where
  nodup : (l.map Prod.fst).Nodup
  mem : ∀ k n, (k, n) ∈ l ↔ (Maps.has D (.string k) = true ∧ left (.string k) = false) ∧ n = valueM m k ∧ 0 < n
theorem CntL.start (m : RMap) (D : DataW Unit) : CntL m D (Maps.has D) [] := ⟨List.nodup_nil, fun k n => ⟨nofun, fun h => by obtain ⟨⟨h1, h2⟩, -⟩ := h; rw [h1] at h2; cases h2⟩⟩
theorem same_str (x y : RKey) : (Lit.string y).sameKey (.string x) = decide (y = x) := by
  by_cases h : y = x
  · subst h; simp [Lit.sameKey]
  · simp [Lit.sameKey, h]
theorem struck {left : Lit → Bool} {x k : RKey} : (left (.string k) && !(Lit.string k).sameKey (.string x)) = false ↔ left (.string k) = false ∨ k = x := by
  rw [same_str]
  cases left (.string k) <;> simp
theorem CntL.skip {m : RMap} {D : DataW Unit} {left : Lit → Bool} {l : List RCn} (h : CntL m D left l) {x : RKey} (hx : ¬ 0 < valueM m x) : CntL m D (fun z => left z && !z.sameKey (.string x)) l := by
  refine ⟨h.nodup, fun k n => ?_⟩
  rw [h.mem, struck]
  constructor
  · rintro ⟨⟨h1, h2⟩, h3⟩
    exact ⟨⟨h1, .inl h2⟩, h3⟩
  · rintro ⟨⟨h1, h2 | rfl⟩, h3, h4⟩
    · exact ⟨⟨h1, h2⟩, h3, h4⟩
    · exact absurd (h3 ▸ h4) hx
theorem CntL.add {m : RMap} {D : DataW Unit} {left : Lit → Bool} {l : List RCn} (h : CntL m D left l) {x : RKey} (hl : left (.string x) = true) (hh : Maps.has D (.string x) = true) (hx : 0 < valueM m x) : CntL m D (fun z => left z && !z.sameKey (.string x)) (l ++ [(x, valueM m x)]) := by
  have hno : x ∉ l.map Prod.fst := fun hm => by
    obtain ⟨⟨k, n⟩, hkn, e⟩ := List.mem_map.1 hm
    have := (h.mem k n).1 hkn
    dsimp only at e
    rw [e, hl] at this
    exact absurd this.1.2 (by simp)
  refine ⟨?_, fun k n => ?_⟩
  · rw [List.map_append]
    refine List.nodup_append.2 ⟨h.nodup, by simp, fun a ha b hb => ?_⟩
    have hb' : b = x := by simpa using hb
    rw [hb']
    exact fun e => hno (e ▸ ha)
  · rw [List.mem_append, List.mem_singleton, h.mem, struck]
    constructor
    · rintro (⟨⟨h1, h2⟩, h3⟩ | h)
      · exact ⟨⟨h1, .inl h2⟩, h3⟩
      · injection h with h1 h2
        subst h1 h2
        exact ⟨⟨hh, .inr rfl⟩, rfl, hx⟩
    · rintro ⟨⟨h1, h2 | rfl⟩, h3, h4⟩
      · exact .inl ⟨⟨h1, h2⟩, h3, h4⟩
      · right; rw [h3]
theorem CntL.done {m : RMap} (f : Formed m) {D : DataW Unit} (hD : SumD m m.items.length D) {left : Lit → Bool} {l s : List RCn} (h : CntL m D left l) (h0 : ∀ kl, left kl = false) (hp : s.Perm l) (hs : s.Pairwise fun a b => ¬ b.1 < a.1) : s = countsM m := by
  refine counts_of f.items h.nodup (fun k n => (h.mem k n).trans (and_congr ⟨fun h1 => ?_, fun h1 => ⟨?_, h0 _⟩⟩ Iff.rfl)) hp hs
  · have := h1.1
    rw [hD.has_, List.take_length, List.any_eq_true] at this
    obtain ⟨y, hy, e⟩ := this
    exact ⟨y, hy, by simpa using e⟩
  · obtain ⟨y, hy, e⟩ := h1
    rw [hD.has_, List.take_length, List.any_eq_true]
    exact ⟨y, hy, by simpa using e⟩
theorem value_in {m : RMap} {k : RKey} (h : 0 < valueM m k) : ∃ x ∈ m.items, x.key = k := by
  rw [← vsum_all] at h
  unfold vsum at h
  cases e : m.items.filter fun x => decide (x.key = k) with
  | nil => rw [e] at h; simp at h
  | cons y l =>
    have hy : y ∈ m.items.filter fun x => decide (x.key = k) := by rw [e]; exact List.mem_cons_self
    obtain ⟨h1, h2⟩ := List.mem_filter.1 hy
    exact ⟨y, h1, by simpa using h2⟩
theorem own_lt {w : World} {base : Nat} {e : TypeId} {k n : Nat} {v : Value} {xs : List Value} (h : w.ownsRow base e k v n xs) {b : Nat} (hb : v.ownBlock = some b) : base ≤ b := (h.lt b hb).1
set_option maxRecDepth 100000 in
set_option maxHeartbeats 4000000 in
theorem pcounts_any (w : World) (hT : Tabs w) (h3 : 3 ≤ w.heap.size) (F : Blks) (v : Value) (m : RMap) (h : MapV F w v m) (hki : ∀ x ∈ m.items, x.key.length ≤ 1000000) (hkg : ∀ x ∈ m.gone, x.key.length ≤ 1000000) :
    Calls Tryz.prog 6 #[v] w (CntPost w (countsR m)) := by
  replace h := h.mono (G := fun b => b < w.heap.size) fun b _ hlt => hlt
  obtain ⟨ok, hok⟩ : ∃ ok, validR m = ok := ⟨_, rfl⟩
  obtain ⟨s1, s2, s3, rfl, h⟩ := h
  obtain ⟨a1, p1, rfl, -⟩ := h.seen.shape
  obtain ⟨a2, p2, rfl, -⟩ := h.items.shape
  obtain ⟨a3, p3, rfl, -⟩ := h.gone.shape
  have l1 := h.seen.len
  have l2 := h.items.len
  have l3 := h.gone.len
  unfold maxLen at l1 l2 l3
  obtain ⟨n1, hn1⟩ : ∃ n, m.seen.length = n := ⟨_, rfl⟩
  obtain ⟨n2, hn2⟩ : ∃ n, m.items.length = n := ⟨_, rfl⟩
  obtain ⟨n3, hn3⟩ : ∃ n, m.gone.length = n := ⟨_, rfl⟩
  rw [hn1, hn2, hn3] at h
  rw [hn1] at l1 ⊢
  rw [hn2] at l2 ⊢
  rw [hn3] at l3 ⊢
  obtain ⟨wx, hwx⟩ : ∃ wx, wx = w.alloc (.cells #[.slice a1 n1 p1, .slice a2 n2 p2, .slice a3 n3 p3] 31) := ⟨_, rfl⟩
  have hbx : Below w.heap.size w wx := by rw [hwx]; exact kept_alloc _ _
  have hzx : wx.heap.size = w.heap.size + 1 := by rw [hwx]; simp
  have hx := h.keep (w' := wx) fun b _ hlt => hbx.block b hlt
  have hnx : Blk wx w.heap.size [.slice a1 n1 p1, .slice a2 n2 p2, .slice a3 n3 p3] 31 := by rw [hwx]; exact Blk.new _ _ _
  have Hx := Lib.hid hx; have Hn1 := Lib.hid hn1; have Hn2 := Lib.hid hn2; have Hn3 := Lib.hid hn3
  have Hwx := Lib.hid hwx; have Hbx := Lib.hid hbx; have Hzx := Lib.hid hzx
  have c0 := hnx.cell 0
  have c1 := hnx.cell 1
  have c2 := hnx.cell 2
  simp at c0 c1 c2
  have Hnx := Lib.hid hnx
  clear hx hn1 hn2 hn3 hwx hbx hnx hzx
  have HC := Lib.hid (check_any wx (tabs_below hT h3 Hbx.out) (by rw [Hzx.out]; omega) _ (.agg #[.slice a1 n1 p1, .slice a2 n2 p2, .slice a3 n3 p3]) m ⟨_, _, _, rfl, Hx.out⟩ hki hkg)
  rw [hok] at HC
  have Hok := Lib.hid hok
  clear h hok hki hkg hT
  go_enter Tryz.func6, Tryz.ntmps6
  go_wp2_with fail
  rw [← Hwx.out]
  refine HC.out.mono ?_
  rintro e w2 ⟨rfl, hb2⟩
  have Hb2 := Lib.hid hb2
  clear HC c0 c1 c2
  have hnx2 := Hnx.out.keep (hb2.block _ Hnx.out.lt)
  obtain ⟨d0, d1, d2⟩ := cell3 hnx2
  cases ok with
  | false =>
    clear hnx2 hb2 d0 d1 d2
    go_wp2_with fail
    go_ret
    exact ⟨⟨_, rfl, by unfold countsR; rw [Hok.out]; exact Rows.nil _ _ _⟩, Hbx.out.trans (Hb2.out.mono Hbx.out.size)⟩
  | true =>
    have hf := valid_formed Hok.out
    have Hf := Lib.hid hf
    have hl := (valid_lens Hok.out).2.1
    have Hl := Lib.hid hl
    have HS := Lib.hid (sums_any w2 _ (.agg #[.slice a1 n1 p1, .slice a2 n2 p2, .slice a3 n3 p3]) m ⟨_, _, _, rfl, Hx.out.keep (w' := w2) fun q _ hlt => hb2.block q hlt⟩ hf (by omega))
    have hB2 : Below w.heap.size w w2 := Hbx.out.trans (hb2.mono Hbx.out.size)
    have HB2 := Lib.hid hB2
    clear hf hl hnx2 hb2 hB2
    go_wp2_with fail
    refine HS.out.mono ?_
    rintro e w3 ⟨⟨B, D, rfl, hBs, hown, hD⟩, hb3⟩
    have hsz := maps_size hown
    have HD := Lib.hid hD; have Hsz := Lib.hid hsz
    have HB3 := Lib.hid (HB2.out.trans (hb3.mono HB2.out.size))
    have hBl := hown.lt
    have HBl := Lib.hid hBl
    clear HS hD hsz hb3 d0 d1 d2 hBl hBs
    go_wp2_with (at_range; refine wpList_range_own _ rfl _ 51 rfl 9 3 lawS Tryz.underlying51 _ B m.items.length D rfl hown ?_; intro w0 hrg0 hg0 hs0)
    go_frame
    obtain ⟨r, hr⟩ : ∃ r, w3.heap.size = r := ⟨_, rfl⟩
    have HB0 := Lib.hid (show Below w.heap.size w w0 from HB3.out.grown hg0 HB3.out.size nofun)
    have Hwr := Lib.hid (show w.heap.size ≤ r by rw [← hr]; exact HB3.out.size)
    have HBr := Lib.hid (show B < r by rw [← hr]; exact HBl.out)
    rw [hr] at hrg0 hs0 ⊢
    clear hown hg0 HBl hr
    have Hrg0 := Lib.hid hrg0
    clear hrg0 hs0
    go_loopw [3] (fun o wr => ∃ (l : List RCn) (ao : Option Addr) (co : Nat) (left : Lit → Bool) (cnt : Nat), o = .slice ao l.length co ∧ wr.ownsRow (r + 1) 39 2 (.slice ao l.length co) l.length (l.flatMap encCn) ∧ wr.ranges Tryz.prog 9 (plainElem Tryz.prog 3) B r m.items.length D left cnt ∧ CntL m D left l ∧ l.length + cnt ≤ Maps.size D ∧ Below w.heap.size w wr) (fun _ wr => wr.rangeLeft B r)
    case atStart => exact ⟨[], none, 0, _, _, rfl, World.ownsRow_nil _ _ _ _, Hrg0.out, CntL.start m D, by simp, HB0.out⟩
    case round =>
      obtain ⟨l, ao, co, left, cnt, rfl, hown, hrg, hC, hsz, hbw⟩ := hrel
      have Hown := Lib.hid hown; have HC := Lib.hid hC; have Hbw := Lib.hid hbw; have Hrg := Lib.hid hrg; have Hlz := Lib.hid (show l.length + cnt ≤ 4096 by have := Hsz.out; have := Hl.out; omega); have Hsz2 := Lib.hid hsz
      clear hown hC hsz hbw
      go_wp2_with (at_next; refine wpList_next_si _ rfl _ rfl 9 3 lawS Tryz.underlying9 Tryz.underlying3 B r _ _ _ _ rfl hrg ?_ ?_)
      · intro hc0 hl0
        have HS := Lib.hid (sortFunc_any wr (r + 1) (.slice ao l.length co) l Hown.out (by have := Hrg.out.lt; omega) (by have := Hlz.out; omega))
        have Hl0 := Lib.hid hl0
        obtain ⟨nl, hnl⟩ : ∃ nl, l.length = nl := ⟨_, rfl⟩
        have Hnl := Lib.hid hnl
        rw [hnl] at HS ⊢
        clear hrg hc0 hl0 hnl
        go_wp2_with fail
        refine HS.out.mono ?_
        rintro e w4 ⟨rfl, sl, hp, hs, hown4, hb4⟩
        have hse := CntL.done Hf.out HD.out HC.out Hl0.out hp hs
        have hlen : sl.length = l.length := hp.length_eq
        have Hfin := Lib.hid (show Rows (fun q => w.heap.size ≤ q) w4 2 (.slice ao nl co) (countsR m).length ((countsR m).flatMap encCn) by
          have e : countsR m = countsM m := by unfold countsR; rw [Hok.out]; rfl
          rw [e, ← hse, hlen]
          exact (Rows.of_owns hown4).mono fun q hq _ => by have := hq.1; have := Hwr.out; omega)
        have Hb4 := Lib.hid (show Below w.heap.size w w4 from Hbw.out.trans (hb4.mono (by have := Hwr.out; omega)))
        clear HS hp hs hown4 hb4 hse hlen
        go_wp2_with fail
        go_ret
        exact ⟨⟨_, rfl, Hfin.out⟩, Hb4.out⟩
      · intro x c w1 cnt1 hx hlx hat hrg1 hlt hg1 hs1 hen
        have hcv : c = valueM m x := by
          have h1 := hat (i64L 0)
          rw [HD.out.at_, List.take_length, vsum_all] at h1
          injection h1 with h1
          injection h1 with _ h1
          exact h1.symm
        have hcb := valueM_le Hf.out Hl.out x
        rw [← hcv] at hcb
        have hr1 : r < w1.heap.size := by rw [hs1]; exact Hrg.out.lt
        have hb1 : Below w.heap.size w w1 := Hbw.out.grown hg1 Hbw.out.size (fun j hj => by cases hj; exact Hwr.out)
        have hown1 := own_iter Hown.out hg1 (Nat.lt_succ_self r)
        by_cases h0 : 0 < c
        · have h0I : (0 : Int) < c := h0
          obtain ⟨i0, t1, t2, t3, t4⟩ := info_parts infoCn
          obtain ⟨va, w5, hra, hown5, hg5⟩ := run_append_one (P := Tryz.prog) w1 (r + 1) 33 39 Tryz.underlying33 t1 t2 t3 t4 rfl (by decide) (.slice ao l.length co) l.length _ hown1 #[.string ⟨x.toArray⟩, .int .i64 c] rfl (by simp [Value.oneCell']) (by have := Hlz.out; unfold maxLen; omega) (by have := Hlz.out; omega) hr1
          obtain ⟨a5, c5, rfl⟩ := own_shape hown5
          have hb5 : Below w.heap.size w w5 := (hb1.alloc hb1.size _).trans (Below.grownOwn (hown1.alloc _) hg5 (by have := hb1.size; simp; omega) (by have := Hwr.out; omega))
          have hrg5 := (hrg1.alloc (.cells #[.string ⟨x.toArray⟩, .int .i64 c] 39)).kept hg5 (fun e => by have := own_lt hown1 e.symm; have := HBr.out; omega) (fun e => by have := own_lt hown1 e.symm; omega)
          have hh : Maps.has D (.string x) = true := by
            obtain ⟨y, hy, e⟩ := value_in (m := m) (k := x) (by rw [← hcv]; exact h0)
            rw [HD.out.has_, List.take_length, List.any_eq_true]
            exact ⟨y, hy, by simpa using e⟩
          have hC5 := HC.out.add hlx hh (by rw [← hcv]; exact h0)
          rw [← hcv] at hC5
          have Hown5 := Lib.hid (show w5.ownsRow (r + 1) 39 2 (.slice a5 (l ++ [(x, c)]).length c5) (l ++ [(x, c)]).length ((l ++ [(x, c)]).flatMap encCn) by simpa [encCn] using hown5)
          have Hb5 := Lib.hid hb5; have Hrg5 := Lib.hid hrg5; have HC5 := Lib.hid hC5; have Hlt := Lib.hid hlt
          obtain ⟨nl, hnl⟩ : ∃ nl, l.length = nl := ⟨_, rfl⟩
          have Hnl := Lib.hid hnl
          rw [hnl] at hra ⊢
          clear hnl hrg hown5 hg5 hb5 hrg5 hh hC5 t1 t2 t3 t4 hown1 hb1 hat hcv hcb hx hlx hrg1 hlt hg1 hs1 hr1 h0
          go_wp2_with fail
          go_roundw
          case rel => exact ⟨l ++ [(x, c)], a5, c5, _, cnt1, by simp [Hnl.out], Hown5.out, Hrg5.out, HC5.out, by have := Hsz2.out; have := Hlt.out; simp; omega, Hb5.out⟩
          case measure => rw [Hrg5.out.left_eq, Hrg.out.left_eq]; exact Hlt.out
        · have h0I : ¬ (0 : Int) < c := h0
          have hC5 := HC.out.skip (x := x) (by rw [← hcv]; exact h0)
          have Hb1 := Lib.hid hb1; have Hrg1 := Lib.hid hrg1; have HC5 := Lib.hid hC5; have Hlt := Lib.hid hlt; have Hown1 := Lib.hid hown1
          obtain ⟨nl, hnl⟩ : ∃ nl, l.length = nl := ⟨_, rfl⟩
          have Hnl := Lib.hid hnl
          rw [hnl]
          clear hnl hrg hC5 hown1 hb1 hat hcv hcb hx hlx hrg1 hlt hg1 hs1 hr1 h0
          go_wp2_with fail
          go_roundw
          case rel => exact ⟨l, ao, co, _, cnt1, by simp [Hnl.out], Hown1.out, Hrg1.out, HC5.out, by have := Hsz2.out; have := Hlt.out; omega, Hb1.out⟩
          case measure => rw [Hrg1.out.left_eq, Hrg.out.left_eq]; exact Hlt.out
end Go.Proofs.YtohahloghmanpaaGreatDoor
