/-
  RSort
-/
import Derived.Test.YtohahloghmanpaaGreatDoorZB24
import Derived.RangeFuncNested
import Derived.RangeFuncBound
import Derived.RangeFuncLeaves
import Derived.OwnWalkIn
import Derived.TacticsInMore
import Derived.LoopNIn
import Derived.LoopIn
import Derived.Test.YtohahloghmanpaaGreatDoorZB06
import Derived.Test.YtohahloghmanpaaGreatDoorZB08
import Derived.Test.YtohahloghmanpaaGreatDoorZB13
import Derived.Sort.OwnSorted
namespace Go.Proofs.YtohahloghmanpaaGreatDoor
open Go.RowKit Go.Sort Go.Shelf
set_option linter.unusedVariables false
set_option maxRecDepth 20000
attribute [local go_sem ↓] seal_append
attribute [local go_sem] Oper.semAt_some

abbrev eS (k : RKey) : Value := Go.Proofs.encStr k
theorem infoS : (Tryz.prog.info? 9).map (fun i => (i.zero, i.size, i.bytes)) = some (some (.string ⟨#[]⟩), 1, 16) := by kernel_rfl
structure Kb (n0 : Nat) (A C : World) : Prop where
  size : A.heap.size ≤ C.heap.size
  block : ∀ b, b < n0 → C.heap[b]? = A.heap[b]?
theorem Kb.trans {n0 : Nat} {A C D : World} (h : Kb n0 A C) (k : Kb n0 C D) : Kb n0 A D := ⟨Nat.le_trans h.size k.size, fun b hb => (k.block b hb).trans (h.block b hb)⟩
theorem Kb.put {n0 : Nat} (W : World) (l : Nat) (o : Obj) (hl : n0 ≤ l) : Kb n0 W (W.putObj l o) := ⟨by simp, fun k hk => World.putObj_heap_other (by omega)⟩
theorem Kb.of_below {n0 : Nat} {A C : World} (h : Below n0 A C) : Kb n0 A C := ⟨h.size, fun b hb => h.block b hb⟩

set_option maxHeartbeats 2000000 in
theorem values_seq (w : World) (F : Blks) (v : Value) (l : List RKey) (bx B : Nat) (hv : Rows F w 1 v l.length (l.map eS)) (hF : ∀ b, F b → b < B) (hB : B ≤ w.heap.size) (hbx : Blk w bx [v] 62) (hl : l.length ≤ 1000000) :
    SeqG Tryz.prog 88 #[.pointer (some ⟨bx, 0, none⟩)] (fun x : RKey => #[eS x]) (Kb B) (fun pre x _ => l[pre.length]? = some x) (fun xs => xs = l) (fun _ => True) w := by
  intro lo J Jx W hW hJ hJx hY h0
  have hvW := hv.keep (w' := W) fun b hb hlt => hW.block b hlt
  have hbW := hbx.keep (hW.block _ hbx.lt)
  have cb := hbW.cell 0
  simp at cb
  obtain ⟨n, hn⟩ : ∃ n, l.length = n := ⟨_, rfl⟩
  obtain ⟨a, cap, rfl, hcp, hcm, -⟩ := hv.shape
  have Hh := Lib.hid hvW
  rw [hn] at cb hl
  have Hn := Lib.hid hn
  have Hws := Lib.hid hW.size
  clear hvW hbW hv hn
  refine callsIn_of_wp Tryz.func88 rfl trivial ?_ rfl
  simp only [Tryz.ntmps88, List.size_toArray, List.length_cons, List.length_nil, Nat.reduceAdd, Nat.reduceSub, Array.replicate_succ, Array.replicate_zero, List.push_toArray, List.append_toArray, List.nil_append, List.cons_append]
  gi_wp2_with fail
  clear cb
  gi_loopw [7] (fun i wr => ∃ m : Nat, m ≤ n ∧ i = .int .i64 (m : Int) ∧ J (l.take m) wr ∧ Kb B W wr) (fun i _ => n - (intOf i).toNat)
  case atStart => exact ⟨0, by omega, rfl, by simpa using h0, ⟨Nat.le_refl _, fun _ _ => rfl⟩⟩
  case round =>
    obtain ⟨m, hm1, rfl, hJr, hkb⟩ := hrel
    have Hkb := Lib.hid hkb
    clear hkb
    by_cases hlt : m < n
    · have hltI : (m : Int) < (n : Int) := by omega
      have hml : m < l.length := by rw [Hn.out]; exact hlt
      have hvr := Hh.out.keep (w' := wr) fun b hb _ => Hkb.out.block b (hF b hb)
      obtain ⟨b, off, rfl, -, -, hc⟩ := str_cell hvr (by rw [Hn.out]; omega)
      have e0 := hc m hml
      obtain ⟨x, hx⟩ : ∃ x, l[m] = x := ⟨_, rfl⟩
      rw [hx] at e0
      have htl : (l.take m).length = m := by rw [List.length_take]; omega
      obtain ⟨fn, tmps, assign, body, hy, hR⟩ := hY (l.take m) x wr hJr (by rw [htl, List.getElem?_eq_getElem hml, hx])
      unfold eS Go.Proofs.encStr at hy
      have HR := Lib.hid hR
      have Hx := Lib.hid hx
      clear hR hc hvr hx htl
      gi_wp2_with fail
      refine HR.out.mono ?_
      rintro e W3 (⟨rfl, hJ3, hk3⟩ | ⟨rfl, hJx3⟩)
      · have hJ3' : J (l.take (m + 1)) W3 := by rw [List.take_succ_eq_append_getElem hml, Hx.out]; exact hJ3
        have Hk3 := Lib.hid (Hkb.out.trans hk3)
        clear hJr hJ3 hk3 e0 HR
        gi_wp2_with fail
        go_roundw
        case rel => exact ⟨m + 1, by omega, by go_num, hJ3', Hk3.out⟩
        case measure => simp [intOf]; omega
      · clear e0
        gi_wp2_with fail
        refine bodyPost_ret (results_none rfl _ _ _) rfl ?_
        exact ⟨⟨_, rfl⟩, .inr ⟨_, trivial, hJx3⟩⟩
    · have hltI : ¬ (m : Int) < (n : Int) := by omega
      have hJl : J l wr := by
        have := hJr
        rw [List.take_of_length_le (by rw [Hn.out]; omega)] at this
        exact this
      gi_wp2_with fail
      go_end0
      exact ⟨⟨_, rfl⟩, .inl hJl⟩

def ApI (w : World) (n : Nat) (pre : List RKey) (W : World) : Prop :=
  ∃ v, Blk W w.heap.size [v] 62 ∧ W.ownsRow w.heap.size 9 1 v pre.length (pre.map eS) ∧ Below w.heap.size w W ∧ w.heap.size + 1 ≤ W.heap.size ∧ pre.length ≤ n
theorem apI_own {w : World} {n : Nat} (B0 : Nat) (hB : w.heap.size ≤ B0) : OwnFrom B0 (ApI w n) := by
  rintro pre W W' row ⟨v, h1, h2, h3, h4, h5⟩ hg hr
  have hr' : ∀ r, row = some r → ∃ o : Obj, W.heap[r]? = some o ∧ o.isCells = false := fun r e => (hr r e).2
  refine ⟨v, h1.keep (grownBy_keeps_cells hg hr' h1 rfl), h2.kept hg ?_, h3.grown hg (by omega) (fun q hq => Nat.le_trans hB (hr q hq).1), Nat.le_trans h4 hg.size, h5⟩
  cases hb : v.ownBlock with
  | none => exact .inl rfl
  | some b =>
    refine .inr fun he => ?_
    obtain ⟨cs, hc⟩ := own_block h2 hb
    obtain ⟨o, ho, hoc⟩ := hr' b he.symm
    rw [hc] at ho
    injection ho with ho
    subst ho
    cases hoc

set_option maxHeartbeats 4000000 in
set_option maxRecDepth 100000 in
theorem appendSeq_any (w : World) (F : Blks) (v : Value) (l : List RKey) (bx : Nat) (hv : Rows F w 1 v l.length (l.map eS)) (hF : ∀ b, F b → b < w.heap.size) (hbx : Blk w bx [v] 62) (hl : l.length ≤ 1000000) :
    Calls Tryz.prog 98 #[.slice none 0 0, .func (.func 88) #[] #[.pointer (some ⟨bx, 0, none⟩)]] w fun e w' =>
      ∃ r, e = .returned r ∧ w'.ownsRow w.heap.size 9 1 r l.length (l.map eS) ∧ Below w.heap.size w w' := by
  refine (callsIn_wide (n := 2)).1 ?_
  refine callsIn_of_wp_marks Tryz.func98 rfl trivial ?_ rfl
  simp only [Tryz.ntmps98, List.size_toArray, List.length_cons, List.length_nil, Nat.reduceAdd, Nat.reduceSub, Array.replicate_succ, Array.replicate_zero, List.push_toArray, List.append_toArray, List.nil_append, List.cons_append]
  obtain ⟨w1, hw1⟩ : ∃ w1, w1 = w.alloc (.cells #[.slice none 0 0] 62) := ⟨_, rfl⟩
  have hk1 : Below w.heap.size w w1 := by rw [hw1]; exact kept_alloc _ _
  have hz1 : w1.heap.size = w.heap.size + 1 := by rw [hw1]; simp
  have hB1 : Blk w1 w.heap.size [.slice none 0 0] 62 := by rw [hw1]; exact Blk.new _ _ _
  have hlt0 := hbx.lt
  have hv1 := hv.keep (w' := w1) fun b _ hlt => hk1.block b hlt
  have hbx1 := hbx.keep (hk1.block _ hbx.lt)
  gi_wp2_with fail
  rw [← hw1]
  have Hw1 := Lib.hid hw1; clear hw1
  refine range_known (n := 0) rfl (enters_of Tryz.func88 (by kernel_rfl) rfl)
    (values_seq w1 F v l bx w.heap.size hv1 hF (by omega) hbx1 hl)
    (fun _ => rfl) (fun pre x W lo o o' hlo ho hc hG => hG)
    (fun {A Bw C} h1 h2 => h1.trans h2) (fun W lo o o' hlo ho hc => Kb.put W lo o' (by omega))
    (ApI w l.length) (fun _ _ => False) (apI_own _ (by omega)) (fun _ _ _ _ h => h.elim)
    ⟨_, hB1, World.ownsRow_nil _ _ _ _, hk1, by omega, by simp⟩
    (fun x => { tmps := #[.slice none 0 0, .func (.func 88) #[] #[.pointer (some ⟨bx, 0, none⟩)], .pointer (some ⟨w.heap.size, 0, none⟩), undef, .slice none 0 0, eS x, .func (.func 88) #[] #[.pointer (some ⟨bx, 0, none⟩)], eS x, undef, undef, undef, undef, undef], defers := [] }) ?assign ?body ?done ?stop
  case assign =>
    intro lo x W Kx hKx
    gi_wp2
    exact hKx
  case body =>
    rintro lo pre x W ⟨v', hbW, hoW, hb, hz, hpn⟩ hx
    have hlt : pre.length < l.length := (List.getElem?_eq_some_iff.1 hx).1
    obtain ⟨i0, q1, q2, q3, q4⟩ := info_parts infoS
    obtain ⟨v5, w5, hr, hown5, hg5⟩ := run_append_one (P := Tryz.prog) W w.heap.size 62 9 Tryz.underlying62 q1 q2 q3 q4 rfl (by decide) v' pre.length _ hoW #[eS x] rfl (by simp [Value.oneCell']) (by unfold maxLen; omega) (by omega) (by omega)
    obtain ⟨a5, c5', rfl⟩ := own_shape hown5
    have hbA : Blk (W.alloc (.cells #[eS x] 9)) w.heap.size [v'] 62 := hbW.alloc _
    have hoA := own_below hoW (kept_alloc W (.cells #[eS x] 9))
    have hb5 := hbA.grownNe hoA (by decide) hg5
    have c5 := hb5.cell 0
    have f5 := hb5.free 0
    have cW := hbW.cell 0
    simp at c5 cW
    obtain ⟨w6, hw6⟩ : ∃ w6, w6 = w5.setCell ⟨w.heap.size, 0, none⟩ (.slice a5 (pre.length + 1) c5') := ⟨_, rfl⟩
    have hko : KeepsOthers W w6 := by
      have h1 : KeepsOthers W w5 := (KeepsOthers.alloc W _).trans (KeepsOthers.of_grownBy hg5 (fun j o hj ho => by
        obtain ⟨cs, hc⟩ := own_block hoA hj
        rw [hc] at ho
        cases ho
        rfl))
      rw [hw6]
      exact h1.trans (KeepsOthers.setCell _ _ _)
    have hkb : Below w.heap.size W w6 := by
      rw [hw6]
      exact ((Below.refl w.heap.size W).alloc (by omega) _).trans (Below.grownOwn hoA hg5 (by simp; omega) (Nat.le_refl _)) |>.setCell (Nat.le_refl _) _
    have hkb' : Kb w.heap.size W w6 := Kb.of_below hkb
    have hI6 : ApI w l.length (pre ++ [x]) w6 := by
      refine ⟨.slice a5 (pre.length + 1) c5', ?_, ?_, hb.trans hkb, Nat.le_trans hz hkb.size, by simp; omega⟩
      · rw [hw6]; simpa using hb5.set 0 _
      · rw [hw6]
        have := own_setCell (i := 0) hown5 hb5 (by decide) (.slice a5 (pre.length + 1) c5')
        simpa using this
    have HI6 := Lib.hid hI6; have Hko := Lib.hid hko; have Hkb := Lib.hid hkb'; have Hw6 := Lib.hid hw6
    clear hI6 hko hkb hkb' hw6 hb5 hbA hoA hown5 hg5 hbW hoW q1 q2 q3 q4
    simp only [eS, Go.Proofs.encStr] at hr ⊢
    gi_wp2_with fail
    rw [← Hw6.out]
    exact ⟨Hko.out, Hkb.out, HI6.out⟩
  case done =>
    rintro D xs W hD rfl ⟨v', hbW, hoW, hb, hz, hpn⟩ hdef
    have cW := hbW.cell 0
    simp at cW
    have hgp := grownBy_putObj' W D (.deferred none)
    have hoF := hoW.kept hgp (by
      cases hb : v'.ownBlock with
      | none => exact .inl rfl
      | some b =>
        refine .inr fun he => ?_
        obtain ⟨cs, hc⟩ := own_block hoW hb
        obtain rfl : b = D := by simpa using he
        rw [hc] at hdef
        cases hdef)
    have hbF : Below w.heap.size w (W.putObj D (.deferred none)) := hb.grown hgp (by omega) (fun q hq => by cases hq; omega)
    have HoF := Lib.hid hoF; have HbF := Lib.hid hbF; have Hdef := Lib.hid hdef
    clear hoF hbF hdef hgp hbW hoW hb
    gi_wp2_with fail
    refine ⟨by simp, .inl ⟨_, _, rfl, run_takeDeferred Hdef.out, ?_⟩⟩
    refine ⟨v', by simp [results, Tryz.f98, go_sem], _, rfl, HoF.out, HbF.out⟩
  case stop =>
    rintro D pre W hD - hE
    exact hE.elim

set_option maxHeartbeats 1000000 in
theorem collect_any (w : World) (F : Blks) (v : Value) (l : List RKey) (bx : Nat) (hv : Rows F w 1 v l.length (l.map eS)) (hF : ∀ b, F b → b < w.heap.size) (hbx : Blk w bx [v] 62) (hl : l.length ≤ 1000000) :
    Calls Tryz.prog 86 #[.func (.func 88) #[] #[.pointer (some ⟨bx, 0, none⟩)]] w fun e w' =>
      ∃ r, e = .returned r ∧ w'.ownsRow w.heap.size 9 1 r l.length (l.map eS) ∧ Below w.heap.size w w' := by
  have HA := Lib.hid (appendSeq_any w F v l bx hv hF hbx hl)
  clear hv hbx
  go_enter Tryz.func86, Tryz.ntmps86
  go_wp2_with fail
  refine HA.out.mono ?_
  rintro e w1 ⟨r, rfl, ho, hb⟩
  obtain ⟨n, hn⟩ : ∃ n, l.length = n := ⟨_, rfl⟩
  rw [hn] at ho
  obtain ⟨a, c, rfl⟩ := own_shape ho
  have Hn := Lib.hid hn
  clear hn
  have Ho := Lib.hid ho; have Hb := Lib.hid hb
  clear ho hb HA
  go_wp2_with fail
  go_ret
  exact ⟨_, rfl, by rw [Hn.out]; exact Ho.out, Hb.out⟩

set_option maxHeartbeats 1000000 in
theorem sorted_any (w : World) (F : Blks) (v : Value) (l : List RKey) (bx : Nat) (hv : Rows F w 1 v l.length (l.map eS)) (hF : ∀ b, F b → b < w.heap.size) (hbx : Blk w bx [v] 62) (hl : l.length ≤ 1000000) :
    Calls Tryz.prog 68 #[.func (.func 88) #[] #[.pointer (some ⟨bx, 0, none⟩)]] w fun e w' =>
      ∃ r, e = .returned r ∧ w'.ownsRow w.heap.size 9 1 r (sortK l).length ((sortK l).map eS) ∧ Below w.heap.size w w' := by
  have HA := Lib.hid (collect_any w F v l bx hv hF hbx hl)
  have hsl : (sortK l).length = l.length := (sortK_perm l).length_eq
  clear hv hbx
  obtain ⟨n, hn⟩ : ∃ n, l.length = n := ⟨_, rfl⟩
  rw [hsl, hn]
  have Hn := Lib.hid hn
  clear hsl hn
  go_enter Tryz.func68, Tryz.ntmps68
  go_wp2_with fail
  refine HA.out.mono ?_
  rintro e w1 ⟨r, rfl, ho, hb⟩
  rw [Hn.out] at ho
  rcases ho.2 with ⟨rfl, hz⟩ | ⟨gb, cap, cur, rfl, hbase, hgb, r1, r2, r3, r4⟩
  · obtain rfl : l = [] := List.length_eq_zero_iff.1 (by rw [Hn.out]; exact hz)
    have HS := Lib.hid (Tryz.slices_Sort_string_none none 0 w1)
    subst hz
    have Ho := Lib.hid ho; have Hb := Lib.hid hb
    clear ho hb HA
    go_wp2_with fail
    refine HS.out.mono ?_
    rintro e w2 ⟨rfl, rfl⟩
    go_wp2_with fail
    go_ret
    exact ⟨_, rfl, by simpa [sortK] using Ho.out, Hb.out⟩
  · have hH : Holds Go.Proofs.encStr w1 gb 0 l.toArray := holds_of_block hgb (by rw [Nat.mul_one] at r4; rw [← Hn.out] at r4; simpa using r4)
    have hgl : gb < w1.heap.size := (Array.getElem?_eq_some_iff.1 hgb).1
    have cS := Tryz.slices_Sort_string gb 0 cap l w1 hH hgl (by omega)
    rw [Hn.out] at cS
    have HS := Lib.hid cS
    have hsz : (w1.heap.size : Nat) = w1.heap.size := rfl
    have Hfin := Lib.hid (show ∀ nn os, World.ownsRow (grow (putRow Go.Proofs.encStr (Sort.ahead w1 nn) gb 0 (l.mergeSort fun x y => decide (x ≤ y)).toArray) os) w.heap.size 9 1 (.slice (some ⟨gb, 0, none⟩) n cap) n ((sortK l).map eS) ∧ Below w.heap.size w (grow (putRow Go.Proofs.encStr (Sort.ahead w1 nn) gb 0 (l.mergeSort fun x y => decide (x ≤ y)).toArray) os) from fun nn os => by
      have hN := Hn.out
      subst hN
      exact ⟨ownsRow_sorted (by simp) hbase hgb r1 r2 r3, hb.grown (grownBy_sorted _) hb.size (fun j hj => by cases hj; exact hbase)⟩)
    clear ho hb HA cS hH hgb r4 r3 r1 r2 hbase hgl hsz
    go_wp2_with fail
    refine HS.out.mono ?_
    rintro e w2 ⟨rfl, nn, os, rfl⟩
    obtain ⟨h1, h2⟩ := Hfin.out nn os
    have H1 := Lib.hid h1; have H2 := Lib.hid h2
    clear h1 h2 Hfin HS
    generalize (grow (putRow Go.Proofs.encStr (Sort.ahead w1 nn) gb 0 (l.mergeSort fun x y => decide (x ≤ y)).toArray) os) = w3 at *
    go_wp2_with fail
    go_ret
    exact ⟨_, rfl, H1.out, H2.out⟩
end Go.Proofs.YtohahloghmanpaaGreatDoor
