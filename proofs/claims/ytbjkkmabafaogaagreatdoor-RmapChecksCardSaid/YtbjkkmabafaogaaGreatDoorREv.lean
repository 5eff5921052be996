/- event, limited. -/
import Derived.Test.YtbjkkmabafaogaaGreatDoorRCheck
import Derived.Test.YtbjkkmabafaogaaGreatDoorRClone
import Derived.Test.YtbjkkmabafaogaaGreatDoorRSort
import Derived.Test.YtbjkkmabafaogaaGreatDoorShelfD
import Derived.Laws.ByValue
namespace Go.Proofs.YtbjkkmabafaogaaGreatDoor
open Go.RowKit Go.Sort
set_option linter.unusedVariables false
set_option maxRecDepth 20000
attribute [local go_sem ↓] seal_append

set_option maxHeartbeats 1000000 in
theorem cloneS_any (w : World) (F : Blks) (v : Value) (l : List RKey) (hv : Rows F w 1 v l.length (l.map eS)) (hlen : l.length ≤ 1000000) :
    Calls Tryz.prog 100 #[v] w fun e w' => ∃ r, e = .returned r ∧ w'.ownsRow w.heap.size 9 1 r l.length (l.map eS) ∧ Below w.heap.size w w' := by
  have hW : Rows F (w.alloc (.cells #[] 9)) 1 v l.length (l.map eS) := hv.keep fun b _ hb => Below.heap_alloc _ _ _ hb
  obtain ⟨i0, q1, q2, q3, q4⟩ := info_parts infoS
  obtain ⟨v', w', hr, hown, hgb⟩ := run_append_rows (P := Tryz.prog) (w.alloc (.cells #[] 9)) w.heap.size 39 9 Tryz.underlying39 q1 q2 q3 q4 rfl (by decide) (.slice (some ⟨w.heap.size, 0, none⟩) 0 0) 0 []
    ⟨rfl, .inr ⟨w.heap.size, 0, #[], rfl, Nat.le_refl _, by unfold World.alloc; simp, Nat.le_refl _, by unfold maxLen; omega, rfl, rfl⟩⟩ F v l.length (l.map eS) hW (one_eS l) (by unfold maxLen; omega) (by omega) (by simp)
  rw [Nat.zero_add, List.nil_append] at hown
  obtain ⟨n, hn⟩ : ∃ n, l.length = n := ⟨_, rfl⟩
  obtain ⟨a, cap, rfl, hc, hm, hz⟩ := hv.shape
  rw [hn] at hown hr hc ⊢
  obtain ⟨a', c', rfl⟩ := own_shape hown
  have Hown := Lib.hid hown; have Hgb := Lib.hid hgb; have Hn := Lib.hid hn
  clear hown hgb hn hW hv q1 q2 q3 q4
  cases a with
  | none =>
    obtain rfl := hz rfl
    obtain rfl : n = 0 := by omega
    obtain rfl : l = [] := List.length_eq_zero_iff.1 Hn.out
    have hn := fun (W : World) => Lib.run_eql_slice_nil (P := Tryz.prog) W 39 9 none 0 0 0 0 Tryz.underlying39
    go_enter Tryz.func100, Tryz.ntmps100
    go_wp2_with fail
    go_ret
    exact ⟨_, rfl, World.ownsRow_nil _ _ _ _, Below.refl _ _⟩
  | some ad =>
    have hn := fun (W : World) => Lib.run_eql_slice_nil (P := Tryz.prog) W 39 9 (some ad) n cap 0 0 Tryz.underlying39
    go_enter Tryz.func100, Tryz.ntmps100
    go_wp2_with fail
    go_ret
    exact ⟨_, rfl, Hown.out, (kept_alloc _ _).grown Hgb.out (by simp) (fun k hk => by simp [Value.ownBlock] at hk; omega)⟩

theorem compact_len_all (zs : List RKey) (h : zs.Pairwise fun a b => a ≠ b) : (Lib.compact zs).length = zs.length := by
  rw [Lib.compact_all zs fun j hj => ?_]
  rcases Nat.eq_zero_or_pos j with rfl | h0
  · exact Lib.keeps_lt_one _ 0 (by omega)
  · refine Lib.keeps_pos fun e => ?_
    have h1 := List.pairwise_iff_getElem.1 h (j - 1) j (by omega) hj (by omega)
    rw [getElem!_pos zs.toArray j (by simpa using hj), getElem!_pos zs.toArray (j - 1) (by simp; omega)] at e
    exact h1 (by simpa using e.symm)
theorem compact_len_lt (zs : List RKey) (j : Nat) (hj : j + 1 < zs.length) (h : zs[j] = zs[j + 1]) : (Lib.compact zs).length < zs.length := by
  unfold Lib.compact Lib.compactUpTo
  rw [List.length_map]
  have hk : Lib.keeps zs.toArray (j + 1) = false := Lib.keeps_neg (by omega) (by
    rw [getElem!_pos zs.toArray (j + 1) (by simpa using hj), getElem!_pos zs.toArray (j + 1 - 1) (by simp; omega)]
    simpa using h.symm)
  have h1 := List.length_filter_lt_length_iff_exists (l := List.range zs.length) (p := Lib.keeps zs.toArray)
  simp only [List.length_range] at h1
  exact h1.2 ⟨j + 1, List.mem_range.2 hj, by simp [hk]⟩
/-- a sorted list without a repetition -/
theorem sorted_dup : ∀ zs : List RKey, (zs.Pairwise fun a b => a ≤ b) → ¬ zs.Nodup → ∃ (j : Nat) (h : j + 1 < zs.length), zs[j] = zs[j + 1]
  | [], _, h => absurd List.nodup_nil h
  | [a], _, h => absurd (by simp) h
  | a :: b :: l, hs, hn => by
    by_cases hab : a = b
    · exact ⟨0, by simp, by simpa using hab⟩
    · have ps := List.pairwise_cons.1 hs
      by_cases hr : (b :: l).Nodup
      · refine absurd (List.nodup_cons.2 ⟨fun hm => ?_, hr⟩) hn
        rcases List.mem_cons.1 hm with h | h
        · exact hab h
        · have h1 := ps.1 b List.mem_cons_self
          have h2 := (List.pairwise_cons.1 ps.2).1 a h
          exact hab (List.le_antisymm h1 h2)
      · obtain ⟨j, hj, h⟩ := sorted_dup (b :: l) ps.2 hr
        exact ⟨j + 1, by simpa using hj, by simpa using h⟩
theorem compact_nodup (l : List RKey) : (Lib.compact (sortK l)).length = l.length ↔ l.Nodup := by
  have hp := sortK_perm l
  constructor
  · intro h
    refine Classical.byContradiction fun hn => ?_
    obtain ⟨j, hj, e⟩ := sorted_dup (sortK l) (sortK_sorted l) (fun hd => hn (hp.nodup_iff.1 hd))
    have := compact_len_lt _ j hj e
    rw [hp.length_eq] at this
    omega
  · intro h
    rw [compact_len_all _ (hp.nodup_iff.2 h), hp.length_eq]
theorem compact_le (zs : List RKey) : (Lib.compact zs).length ≤ zs.length := by
  unfold Lib.compact Lib.compactUpTo
  rw [List.length_map]
  have := List.length_filter_le (Lib.keeps zs.toArray) (List.range zs.length)
  rwa [List.length_range] at this

set_option maxHeartbeats 1000000 in
theorem compact_any (w : World) (base : Nat) (v : Value) (zs : List RKey) (hv : w.ownsRow base 9 1 v zs.length (zs.map eS)) (hl : zs.length ≤ 1000000) (hb : w.heap.size ≤ base + w.heap.size) (lo : Nat) (hlo : lo ≤ base) (hlo2 : lo ≤ w.heap.size) :
    Calls Tryz.prog 99 #[v] w fun e w' => (∃ a c, e = .returned (.slice a (Lib.compact zs).length c)) ∧ Below lo w w' := by
  rcases hv.2 with ⟨rfl, hz⟩ | ⟨gb, cap, cur, rfl, hbase, hgb, r1, r2, r3, r4⟩
  · obtain rfl : zs = [] := List.length_eq_zero_iff.1 hz
    refine (Any.slices_Compact_string_empty Tryz.laysCompact none 0 w).mono ?_
    rintro e w' ⟨rfl, rfl⟩
    exact ⟨⟨none, 0, rfl⟩, Below.refl _ _⟩
  · have hH : Holds Go.Proofs.encStr w gb 0 zs.toArray := holds_of_block hgb (by rw [Nat.mul_one] at r4; exact r4)
    refine (Any.slices_Compact_string Tryz.laysCompact gb 0 cap zs w hH (by omega) r1).mono ?_
    rintro e w' ⟨rfl, q, rfl⟩
    refine ⟨⟨_, _, rfl⟩, ?_⟩
    have hg := grownBy_sorted (w := w) (g := gb) (n := q) (os := #[]) (Lib.compact zs ++ List.replicate (zs.length - (Lib.compact zs).length) []).toArray
    rw [grow_empty] at hg
    exact (Below.refl lo w).grown hg hlo2 (fun j hj => by cases hj; omega)

/-! is there a key that is none -/
set_option maxHeartbeats 1000000 in
theorem notKey_any (w : World) (hT : Tabs w) (h3 : 3 ≤ w.heap.size) (k : RKey) (hk : k.length ≤ 4611686018427387903) :
    Calls Tryz.prog 102 #[.string ⟨k.toArray⟩] w fun e w' => e = .returned (.bool (!keyOk k)) ∧ Below w.heap.size w w' := by
  have V := Lib.hid (valid_any w hT h3 k hk)
  obtain ⟨kk, hkk⟩ : ∃ kk, keyOk k = kk := ⟨_, rfl⟩
  rw [hkk] at V ⊢
  clear hkk
  go_enter Tryz.func102, Tryz.ntmps102
  go_wp2_with fail
  refine V.out.mono ?_
  rintro e w' ⟨rfl, hb⟩
  go_wp2_with fail
  go_ret
  exact ⟨rfl, hb⟩
set_option maxHeartbeats 2000000 in
theorem indexBad_any (w : World) (hT : Tabs w) (h3 : 3 ≤ w.heap.size) (F : Blks) (v : Value) (l : List RKey) (hv : Rows F w 1 v l.length (l.map eS)) (hl : l.length ≤ 1000000) (hk : ∀ k ∈ l, k.length ≤ 4611686018427387903) :
    Calls Tryz.prog 127 #[v, .func (.func 102) #[] #[]] w fun e w' => (∃ i : Int, e = .returned (.int .i64 i) ∧ (0 ≤ i ↔ l.all keyOk = false) ∧ -1 ≤ i) ∧ Below w.heap.size w w' := by
  obtain ⟨n, hn⟩ : ∃ n, l.length = n := ⟨_, rfl⟩
  obtain ⟨a, cap, rfl, -⟩ := hv.shape
  have Hv := Lib.hid hv
  rw [hn] at hl ⊢
  have Hn := Lib.hid hn; have Hk := Lib.hid hk; have HT := Lib.hid hT
  have H0 := Lib.hid (show Below w.heap.size w w from Below.refl _ _)
  clear hv hn hk hT
  go_enter Tryz.func127, Tryz.ntmps127
  go_wp2_with fail
  go_loopw [8] (fun i wr => ∃ k : Nat, k ≤ n ∧ i = .int .i64 (k : Int) ∧ Below w.heap.size w wr ∧ ∀ j (hj : j < l.length), j < k → keyOk l[j] = true) (fun i _ => n - (intOf i).toNat)
  case atStart => exact ⟨0, by omega, rfl, H0.out, fun j _ hj => by omega⟩
  case round =>
    obtain ⟨k, hk, rfl, hbw, hall⟩ := hrel
    have Hbw := Lib.hid hbw; have Hall := Lib.hid hall
    clear hbw hall
    by_cases hkn : k < n
    · have hkI : (k : Int) < (n : Int) := by omega
      have hkl : k < l.length := by rw [Hn.out]; exact hkn
      have hm := Hv.out.keep (w' := wr) fun b _ hlt => Hbw.out.block b hlt
      obtain ⟨b, off, rfl, -, -, hc⟩ := str_cell hm (by omega)
      have e0 := hc k hkl
      obtain ⟨x, hx⟩ : ∃ x, l[k] = x := ⟨_, rfl⟩
      rw [hx] at e0
      have V := Lib.hid (notKey_any wr (tabs_below HT.out h3 Hbw.out) (Nat.le_trans h3 Hbw.out.size) x (Hk.out x (by rw [← hx]; exact List.getElem_mem hkl)))
      have Hx := Lib.hid hx
      obtain ⟨kk, hkk⟩ : ∃ kk, keyOk x = kk := ⟨_, rfl⟩
      rw [hkk] at V
      have Hkk := Lib.hid hkk
      clear hc hx hm hkk
      go_wp2_with fail
      refine V.out.mono ?_
      rintro e w1 ⟨rfl, hb1⟩
      have Hb1 := Lib.hid (Hbw.out.trans (hb1.mono Hbw.out.size))
      clear V hb1 e0
      cases kk with
      | true =>
        go_wp2_with fail
        go_roundw
        case rel => exact ⟨k + 1, by omega, by go_num, Hb1.out, fun j hj hjk => by
          rcases Nat.lt_succ_iff_lt_or_eq.1 hjk with h | h
          · exact Hall.out j hj h
          · subst h; rw [Hx.out]; exact Hkk.out⟩
        case measure => simp [intOf]; omega
      | false =>
        go_wp2_with fail
        go_ret
        refine ⟨⟨_, rfl, ⟨fun _ => ?_, fun _ => by omega⟩, by omega⟩, Hb1.out⟩
        rw [List.all_eq_false]
        exact ⟨l[k], List.getElem_mem hkl, by rw [Hx.out, Hkk.out]; simp⟩
    · have hkI : ¬ (k : Int) < (n : Int) := by omega
      have hall : l.all keyOk = true := by
        rw [List.all_eq_true]
        intro x hx
        obtain ⟨j, hj, rfl⟩ := List.mem_iff_getElem.1 hx
        exact Hall.out j hj (by rw [Hn.out] at hj; omega)
      have Hal := Lib.hid hall
      clear hall
      go_wp2_with fail
      go_ret
      exact ⟨⟨-1, rfl, ⟨fun h => by omega, fun h => by
        obtain ⟨x, hx, hkx⟩ := h
        rw [List.all_eq_true.1 Hal.out x hx] at hkx
        cases hkx⟩, by omega⟩, Hbw.out⟩
set_option maxHeartbeats 1000000 in
theorem containsBad_any (w : World) (hT : Tabs w) (h3 : 3 ≤ w.heap.size) (F : Blks) (v : Value) (l : List RKey) (hv : Rows F w 1 v l.length (l.map eS)) (hl : l.length ≤ 1000000) (hk : ∀ k ∈ l, k.length ≤ 4611686018427387903) :
    Calls Tryz.prog 101 #[v, .func (.func 102) #[] #[]] w fun e w' => e = .returned (.bool (!l.all keyOk)) ∧ Below w.heap.size w w' := by
  have HI := Lib.hid (indexBad_any w hT h3 F v l hv hl hk)
  obtain ⟨a, cap, rfl, -⟩ := hv.shape
  obtain ⟨r, hr⟩ : ∃ r, l.all keyOk = r := ⟨_, rfl⟩
  rw [hr]
  obtain ⟨n, hn⟩ : ∃ n, l.length = n := ⟨_, rfl⟩
  rw [hn] at HI ⊢
  have Hr := Lib.hid hr
  clear hv hk hr hT hn
  go_enter Tryz.func101, Tryz.ntmps101
  go_wp2_with fail
  refine HI.out.mono ?_
  rintro e w1 ⟨⟨i, rfl, hi, -⟩, hb1⟩
  rw [Hr.out] at hi
  clear HI
  cases r with
  | true =>
    have hI : ¬ 0 ≤ i := fun h => by have := hi.1 h; cases this
    clear hi
    go_wp2_with fail
    go_ret
    exact ⟨ret_bool (by simpa using hI), hb1⟩
  | false =>
    have hI : 0 ≤ i := hi.2 rfl
    clear hi
    go_wp2_with fail
    go_ret
    exact ⟨ret_bool (by simp), hb1⟩

set_option maxRecDepth 100000 in
set_option maxHeartbeats 1500000 in
theorem limited_any (w : World) (hT : Tabs w) (h3 : 3 ≤ w.heap.size) (F : Blks) (v : Value) (m : RMap) (h : MapV F w v m) (hki : ∀ x ∈ m.items, x.key.length ≤ 1000000) (hkg : ∀ x ∈ m.gone, x.key.length ≤ 1000000) :
    Calls Tryz.prog 59 #[v] w fun e w' => e = .returned (.tuple #[if validR m then v else .agg #[.slice none 0 0, .slice none 0 0, .slice none 0 0], .int .i64 (if validR m then 0 else 7)]) ∧ Below w.heap.size w w' := by
  replace h := h.mono (G := fun b => b < w.heap.size) fun b _ hlt => hlt
  obtain ⟨s1, s2, s3, rfl, h⟩ := h
  obtain ⟨a1, p1, rfl, -⟩ := h.seen.shape
  obtain ⟨a2, p2, rfl, -⟩ := h.items.shape
  obtain ⟨a3, p3, rfl, -⟩ := h.gone.shape
  have l1 := h.seen.len
  have l2 := h.items.len
  have l3 := h.gone.len
  unfold maxLen at l1 l2 l3
  obtain ⟨n1, hn1⟩ : ∃ n, m.seen.length = n := ⟨_, rfl⟩
  obtain ⟨n2, hn2⟩ : ∃ n, m.items.length = n := ⟨_, rfl⟩
  obtain ⟨n3, hn3⟩ : ∃ n, m.gone.length = n := ⟨_, rfl⟩
  rw [hn1, hn2, hn3] at h
  rw [hn1] at l1 ⊢
  rw [hn2] at l2 ⊢
  rw [hn3] at l3 ⊢
  obtain ⟨wx, hwx⟩ : ∃ wx, wx = w.alloc (.cells #[.slice a1 n1 p1, .slice a2 n2 p2, .slice a3 n3 p3] 31) := ⟨_, rfl⟩
  have hbx : Below w.heap.size w wx := by rw [hwx]; exact kept_alloc _ _
  have hzx : wx.heap.size = w.heap.size + 1 := by rw [hwx]; simp
  have hx := h.keep (w' := wx) fun b _ hlt => hbx.block b hlt
  have hnx : Blk wx w.heap.size [.slice a1 n1 p1, .slice a2 n2 p2, .slice a3 n3 p3] 31 := by rw [hwx]; exact Blk.new _ _ _
  have Hx := Lib.hid hx; have Hn1 := Lib.hid hn1; have Hn2 := Lib.hid hn2; have Hn3 := Lib.hid hn3
  have Hwx := Lib.hid hwx; have Hbx := Lib.hid hbx; have Hzx := Lib.hid hzx
  have c0 := hnx.cell 0
  have c1 := hnx.cell 1
  have c2 := hnx.cell 2
  simp at c0 c1 c2
  have Hnx := Lib.hid hnx
  clear hx hn1 hn2 hn3 hwx hbx hnx hzx
  clear h
  obtain ⟨w2, hw2⟩ : ∃ w2, w2 = wx.alloc (.cells #[.slice none 0 0, .slice none 0 0, .slice none 0 0] 31) := ⟨_, rfl⟩
  have hb2 : Below w.heap.size w w2 := by rw [hw2]; exact Hbx.out.alloc Hbx.out.size _
  have hz2 : w2.heap.size = w.heap.size + 2 := by rw [hw2]; simp [Hzx.out]
  have k1 : Blk w2 w.heap.size [.slice a1 n1 p1, .slice a2 n2 p2, .slice a3 n3 p3] 31 := by rw [hw2]; exact Hnx.out.alloc _
  have k2 : Blk w2 (w.heap.size + 1) [.slice none 0 0, .slice none 0 0, .slice none 0 0] 31 := by
    have := Blk.new wx #[.slice none 0 0, .slice none 0 0, .slice none 0 0] 31
    rw [hw2, ← Hzx.out]; exact this
  have hm2 := Hx.out.keep (w' := w2) fun b _ hlt => by rw [hw2]; exact Below.heap_alloc _ _ _ hlt
  have HC := Lib.hid (check_any w2 (tabs_below hT h3 hb2) (by omega) _ (.agg #[.slice a1 n1 p1, .slice a2 n2 p2, .slice a3 n3 p3]) m ⟨_, _, _, rfl, hm2⟩ hki hkg)
  obtain ⟨ok, hok⟩ : ∃ ok, validR m = ok := ⟨_, rfl⟩
  rw [hok] at HC ⊢
  have Hw2 := Lib.hid hw2; have Hb2 := Lib.hid hb2; have K1 := Lib.hid k1; have K2 := Lib.hid k2; have Hz2 := Lib.hid hz2
  clear hw2 hb2 k1 k2 hm2 hz2 Hx Hnx hok hT hki hkg c0 c1 c2
  go_enter Tryz.func59, Tryz.ntmps59
  go_wp2_with fail
  rw [← Hwx.out, ← Hw2.out]
  refine HC.out.mono ?_
  rintro e w3 ⟨rfl, hb3⟩
  have kk := K1.out.keep (hb3.block _ K1.out.lt)
  have kr := K2.out.keep (hb3.block _ K2.out.lt)
  have d0 := kk.cell 0
  have d1 := kk.cell 1
  have d2 := kk.cell 2
  simp at d0 d1 d2
  have y0 := kr.cell 0
  have y1 := kr.cell 1
  have y2 := kr.cell 2
  have z0 := kr.free 0
  have z1 := kr.free 1
  have z2 := kr.free 2
  simp at y0 y1 y2
  have hb3' : Below w.heap.size w w3 := Hb2.out.trans (hb3.mono Hb2.out.size)
  have hfin : ∀ s1 s2 s3 : Value, ∃ wf, wf = ((w3.setCell ⟨w.heap.size + 1, 0, none⟩ s1).setCell ⟨w.heap.size + 1, 1, none⟩ s2).setCell ⟨w.heap.size + 1, 2, none⟩ s3 ∧ Blk wf (w.heap.size + 1) [s1, s2, s3] 31 ∧ Below w.heap.size w wf := fun s1 s2 s3 =>
    ⟨_, rfl, set3 _ kr rfl, ((hb3'.setCell (p := ⟨w.heap.size + 1, 0, none⟩) (Nat.le_succ _) _).setCell (p := ⟨w.heap.size + 1, 1, none⟩) (Nat.le_succ _) _).setCell (p := ⟨w.heap.size + 1, 2, none⟩) (Nat.le_succ _) _⟩
  cases ok with
  | true =>
    obtain ⟨wf, hwf, hblk, hbf⟩ := hfin (.slice a1 n1 p1) (.slice a2 n2 p2) (.slice a3 n3 p3)
    have Q0 := Lib.hid (hblk.cell 0); have Q1 := Lib.hid (hblk.cell 1); have Q2 := Lib.hid (hblk.cell 2)
    have Hbf := Lib.hid hbf; have Hwf := Lib.hid hwf
    clear hfin hwf hblk hbf kk kr HC hb3 hb3'
    go_wp2_with fail
    rw [← Hwf.out]
    have q0 := Q0.out
    have q1 := Q1.out
    have q2 := Q2.out
    simp at q0 q1 q2
    refine bodyPost_ret (v := .tuple #[.agg #[.slice a1 n1 p1, .slice a2 n2 p2, .slice a3 n3 p3], .int .i64 0]) (by simp [results, Tryz.results59, go_sem, q0, q1, q2]) rfl ⟨rfl, Hbf.out⟩
  | false =>
    obtain ⟨wf, hwf, hblk, hbf⟩ := hfin (.slice none 0 0) (.slice none 0 0) (.slice none 0 0)
    have Q0 := Lib.hid (hblk.cell 0); have Q1 := Lib.hid (hblk.cell 1); have Q2 := Lib.hid (hblk.cell 2)
    have Hbf := Lib.hid hbf; have Hwf := Lib.hid hwf
    clear hfin hwf hblk hbf kk kr HC hb3 hb3'
    go_wp2_with fail
    rw [← Hwf.out]
    have q0 := Q0.out
    have q1 := Q1.out
    have q2 := Q2.out
    simp at q0 q1 q2
    refine bodyPost_ret (v := .tuple #[.agg #[.slice none 0 0, .slice none 0 0, .slice none 0 0], .int .i64 7]) (by simp [results, Tryz.results59, go_sem, q0, q1, q2]) rfl ⟨rfl, Hbf.out⟩
end Go.Proofs.YtbjkkmabafaogaaGreatDoor
