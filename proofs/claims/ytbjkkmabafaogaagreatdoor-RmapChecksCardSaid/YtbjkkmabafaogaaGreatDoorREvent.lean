/- Events on maps: formed maps stay formed, knowledge grows, values. No program. -/
import Derived.Test.YtbjkkmabafaogaaGreatDoorRJoin
import Derived.Test.YtbjkkmabafaogaaGreatDoorRMath3
namespace Go.Proofs.YtbjkkmabafaogaaGreatDoor
set_option linter.unusedVariables false
set_option maxRecDepth 20000

structure Allowed (d : Int) (l : List RKey) : Prop where
  lo : 0 ≤ d
  hi : d < 8
  nodup : l.Nodup
  keys : ∀ k ∈ l, keyOk k = true
theorem allowed_iff (d : Int) (l : List RKey) : allowedR d l = true ↔ Allowed d l := by
  unfold allowedR
  simp only [Bool.and_eq_true, decide_eq_true_eq, List.all_eq_true]
  exact ⟨fun ⟨⟨⟨h1, h2⟩, h3⟩, h4⟩ => ⟨h1, h2, h3, h4⟩, fun h => ⟨⟨⟨h.lo, h.hi⟩, h.nodup⟩, h.keys⟩⟩

theorem up_get (m : RMap) (d : Int) (h0 : d.toNat < m.seen.length) (i : Nat) : (seenUp m d).getD i 0 = if i = d.toNat then m.seen.getD i 0 + 1 else m.seen.getD i 0 := by
  unfold seenUp
  simp only [List.getD_eq_getElem?_getD, List.getElem?_set]
  by_cases h : d.toNat = i
  · subst h
    simp [h0]
  · rw [if_neg h, if_neg (fun e => h e.symm)]
theorem up_len (m : RMap) (d : Int) : (seenUp m d).length = m.seen.length := by unfold seenUp; simp
theorem up_le (m : RMap) (d : Int) (h0 : d.toNat < m.seen.length) (i : Nat) : m.seen.getD i 0 ≤ (seenUp m d).getD i 0 := by
  rw [up_get m d h0]; split <;> omega
theorem known_up {m : RMap} {d : Int} (h0 : d.toNat < m.seen.length) {items : List RIt} {gone : List RGo} {p : RPl} {s : Int} (h : knownR m p s = true) : knownR ⟨seenUp m d, items, gone⟩ p s = true :=
  known_mono h (up_len m d) fun i => up_le m d h0 i
theorem up_bound {m : RMap} {d : Int} (h : Formed m) (hd : Allowed d []) (hn : nowR m d ≤ 1099511627776) : ∀ n ∈ seenUp m d, 0 ≤ n ∧ n ≤ 1099511627776 := by
  intro n hmem
  obtain ⟨i, hi, rfl⟩ := List.mem_iff_getElem.1 hmem
  have hd0 : d.toNat < m.seen.length := by rw [h.len]; have := hd.lo; have := hd.hi; omega
  have h1 := up_get m d hd0 i
  rw [List.getD_eq_getElem?_getD, List.getElem?_eq_getElem hi] at h1
  simp only [Option.getD_some] at h1
  have h2 := seen_get h i
  unfold nowR at hn
  rw [h1]
  split
  · rename_i e; subst e; omega
  · exact h2
theorem dev_lt {m : RMap} {d : Int} (h : Formed m) (h1 : 0 ≤ d) (h2 : d < 8) : d.toNat < m.seen.length := by rw [h.len]; omega

/-! an event that uses keys -/
theorem refItem_pl (m : RMap) (d : Int) (k : RKey) : (refItem m d k).pl = (k, d) := by unfold refItem; split <;> rfl
theorem refItem_seq (m : RMap) (d : Int) (k : RKey) : (refItem m d k).seq = nowR m d := by unfold refItem; split <;> rfl
theorem use_look (m : RMap) (d : Int) (l : List RKey) (h : Asc RIt.pl m.items) (hl : l.Nodup) (p : RPl) : look RIt.pl (useM m d l).items p = if p.2 = d ∧ p.1 ∈ l then some (refItem m d p.1) else look RIt.pl m.items p := by
  rw [← refUse_eq m d l h hl]
  show look RIt.pl ((l.map (refItem m d)).foldl (putL RIt.pl) m.items) p = _
  rw [look_puts _ _ h ?_, look_map_key (fun k => refItem_pl m d k)]
  · by_cases hp : p.2 = d ∧ p.1 ∈ l
    · rw [if_pos hp, if_pos hp]
    · rw [if_neg hp, if_neg hp]
  · rw [List.pairwise_map]
    exact hl.imp fun {a b} hne e => hne (by rw [refItem_pl, refItem_pl] at e; exact (Prod.mk.inj e).1)
theorem use_asc (m : RMap) (d : Int) (l : List RKey) (h : Asc RIt.pl m.items) (hl : l.Nodup) : Asc RIt.pl (useM m d l).items := by
  rw [← refUse_eq m d l h hl]
  exact asc_puts _ _ h
theorem use_mem {m : RMap} {d : Int} {l : List RKey} (h : Asc RIt.pl m.items) (hl : l.Nodup) {x : RIt} (hx : x ∈ (useM m d l).items) : (∃ k ∈ l, x = refItem m d k) ∨ x ∈ m.items := by
  have h1 := look_of_mem (use_asc m d l h hl) hx
  rw [use_look m d l h hl] at h1
  by_cases hp : x.pl.2 = d ∧ x.pl.1 ∈ l
  · rw [if_pos hp] at h1
    exact .inl ⟨_, hp.2, (Option.some.inj h1).symm⟩
  · rw [if_neg hp] at h1
    exact .inr (look_mem h1)
theorem refItem_val {m : RMap} {d : Int} (h : Formed m) (hd0 : 0 ≤ d) (hd : d < 8) (k : RKey) : 65536 ≤ (refItem m d k).val ∧ (refItem m d k).val ≤ 16777216 := by
  unfold refItem
  cases e : look RIt.pl m.items (k, d) with
  | none => exact ⟨Int.le_refl _, (by decide : (65536 : Int) ≤ 16777216)⟩
  | some o =>
    have hm := look_mem e
    have hp := look_pl e
    obtain ⟨v0, v1⟩ := h.val o hm
    have hk := (known_seq (h.iknown o hm)).2.2.2
    rw [hp] at hk
    show 65536 ≤ decUse o.val (nowR m d - o.seq) ∧ decUse o.val (nowR m d - o.seq) ≤ 16777216
    have hn : 1 ≤ nowR m d - o.seq := by unfold nowR; dsimp only at hk; omega
    unfold decUse
    rw [DM.bnd_id o.val (by omega) (by omega)]
    have a0 := DM.aft_nonneg (nowR m d - o.seq).toNat o.val (by omega)
    have a1 := DM.aft_more 1 (nowR m d - o.seq).toNat o.val (by omega) (by omega)
    have a2 : DM.aft 1 o.val = DM.stp o.val := by
      rw [show (1 : Nat) = 0 + 1 from rfl, DM.aft_succ_pos _ _ (by omega)]; rfl
    have a3 : DM.stp o.val ≤ 16711680 := by unfold DM.stp; omega
    omega
theorem use_formed {m : RMap} {d : Int} {l : List RKey} (h : Formed m) (ha : Allowed d l) (hn : nowR m d ≤ 1099511627776) : Formed (useM m d l) := by
  have hd := dev_lt h ha.lo ha.hi
  have hm := fun {x} => use_mem (m := m) (d := d) (l := l) (x := x) h.items ha.nodup
  have hsn := seen_get h d.toNat
  refine ⟨(up_len m d).trans h.len, up_bound h ⟨ha.lo, ha.hi, .nil, nofun⟩ hn, use_asc m d l h.items ha.nodup, h.gone, fun g hg => known_up hd (h.gknown g hg), fun x hx => ?_, fun x hx => ?_, fun x hx => ?_⟩
  · rcases hm hx with ⟨k, hk, rfl⟩ | hx
    · unfold knownR
      simp only [Bool.and_eq_true, decide_eq_true_eq, refItem_pl, refItem_seq]
      refine ⟨ha.keys k hk, ha.lo, ?_, ?_, ?_⟩
      · show d < ((seenUp m d).length : Int)
        rw [up_len, h.len]; exact ha.hi
      · unfold nowR; omega
      · show nowR m d ≤ (seenUp m d).getD d.toNat 0
        rw [up_get m d hd, if_pos rfl]
        exact Int.le_refl _
    · exact known_up hd (h.iknown x hx)
  · rcases hm hx with ⟨k, hk, rfl⟩ | hx
    · have := refItem_val h ha.lo ha.hi k; omega
    · exact h.val x hx
  · rcases hm hx with ⟨k, hk, rfl⟩ | hx
    · rw [refItem_pl, refItem_seq]
      show m.buried (k, d) < nowR m d
      rw [buried_eq]
      cases e : look RGo.pl m.gone (k, d) with
      | none => show 0 < nowR m d; unfold nowR; omega
      | some g =>
        have h1 := (known_seq (h.gknown g (look_mem e))).2.2.2
        rw [look_pl e] at h1
        show g.seq < nowR m d
        unfold nowR; dsimp only at h1; omega
    · exact h.above x hx
theorem both_look_l {α : Type} {better : α → α → α} (o u : Option α) (h : ∀ x, u = some x → ∃ y, o = some y ∧ better y x = y) : both better o u = o := by
  cases u with
  | none => cases o <;> rfl
  | some x =>
    obtain ⟨y, rfl, h2⟩ := h x rfl
    simp [both, h2]
/-- an event that uses keys adds knowledge -/
theorem use_le {m : RMap} {d : Int} {l : List RKey} (h : Formed m) (ha : Allowed d l) (hn : nowR m d ≤ 1099511627776) : mergeM (useM m d l) m = useM m d l := by
  have hu := use_formed h ha hn
  have hd := dev_lt h ha.lo ha.hi
  refine map_ext (merge_formed _ _ hu h) hu (fun i => ?_) (fun p => ?_) (fun p => ?_)
  · rw [merge_seen _ _ hu h]
    have : m.seen.getD i 0 ≤ (useM m d l).seen.getD i 0 := up_le m d hd i
    omega
  · have hb : (useM m d l).buried p = m.buried p := rfl
    rw [merge_items _ _ hu h, both_look_l, above_item hu p (by rw [hb]; omega)]
    intro x hx
    rw [use_look m d l h.items ha.nodup]
    by_cases hp : p.2 = d ∧ p.1 ∈ l
    · rw [if_pos hp]
      refine ⟨_, rfl, ?_⟩
      have h1 := (known_seq (h.iknown x (look_mem hx))).2.2.2
      rw [look_pl hx, hp.1] at h1
      unfold laterR
      rw [refItem_seq, if_neg]
      unfold nowR; omega
    · rw [if_neg hp]
      exact ⟨x, hx, by unfold laterR; simp⟩
  · rw [merge_gone _ _ hu h]
    exact both_self (fun x => by unfold deeperR; simp) _

/-! an event that forgets keys -/
theorem forget_items (m : RMap) (d : Int) (l : List RKey) (h : Formed m) (p : RPl) : look RIt.pl (forgetM m d l).items p = (look RIt.pl m.items p).filter fun x => decide (x.key ∉ l) := look_filter h.items _ p
theorem forget_gone (m : RMap) (d : Int) (l : List RKey) (h : Formed m) (p : RPl) :
    look RGo.pl (forgetM m d l).gone p = match (look RIt.pl m.items p).filter (fun x => decide (x.key ∈ l)) with | some x => some (goneOf x) | none => look RGo.pl m.gone p := by
  have hf := asc_filter h.items (fun x => decide (x.key ∈ l))
  show look RGo.pl (mergeL RGo.pl deeperR m.gone ((m.items.filter fun x => decide (x.key ∈ l)).map goneOf)) p = _
  rw [look_merge deeperR_pl h.gone (asc_goneOf hf), look_goneOf, look_filter h.items]
  cases hi : look RIt.pl m.items p with
  | none => cases look RGo.pl m.gone p <;> rfl
  | some x =>
    by_cases hx : x.key ∈ l
    · simp only [Option.filter, decide_eq_true hx, if_true, Option.map_some]
      cases hgp : look RGo.pl m.gone p with
      | none => rfl
      | some g =>
        have h1 := h.above x (look_mem hi)
        rw [buried_eq, look_pl hi, hgp] at h1
        show some (deeperR g (goneOf x)) = some (goneOf x)
        unfold deeperR
        rw [if_pos (show g.seq < (goneOf x).seq from h1)]
    · simp only [Option.filter, decide_eq_false hx]
      cases look RGo.pl m.gone p <;> rfl
theorem forget_gmem {m : RMap} {d : Int} {l : List RKey} (h : Formed m) {g : RGo} (hg : g ∈ (forgetM m d l).gone) : (∃ x ∈ m.items, x.key ∈ l ∧ g = goneOf x) ∨ g ∈ m.gone := by
  have hf := asc_filter h.items (fun x => decide (x.key ∈ l))
  rcases mem_merge deeperR_pl deeperR_or h.gone (asc_goneOf hf) hg with h1 | h1
  · exact .inr h1
  · obtain ⟨x, hx, rfl⟩ := List.mem_map.1 h1
    obtain ⟨h2, h3⟩ := List.mem_filter.1 hx
    exact .inl ⟨x, h2, by simpa using h3, rfl⟩
theorem forget_formed {m : RMap} {d : Int} {l : List RKey} (h : Formed m) (ha : Allowed d l) (hn : nowR m d ≤ 1099511627776) : Formed (forgetM m d l) := by
  have hd := dev_lt h ha.lo ha.hi
  have hf := asc_filter h.items (fun x => decide (x.key ∈ l))
  have hm : ∀ x ∈ (forgetM m d l).items, x ∈ m.items ∧ x.key ∉ l := fun x hx => by
    obtain ⟨h1, h2⟩ := List.mem_filter.1 (show x ∈ m.items.filter fun x => decide (x.key ∉ l) from hx)
    exact ⟨h1, by simpa using h2⟩
  refine ⟨(up_len m d).trans h.len, up_bound h ⟨ha.lo, ha.hi, .nil, nofun⟩ hn, asc_filter h.items _, asc_merge deeperR_pl h.gone (asc_goneOf hf), fun g hg => ?_, fun x hx => known_up hd (h.iknown x (hm x hx).1), fun x hx => h.val x (hm x hx).1, fun x hx => ?_⟩
  · rcases forget_gmem h hg with ⟨x, hx, _, rfl⟩ | hg
    · exact known_up hd (h.iknown x hx)
    · exact known_up hd (h.gknown g hg)
  · obtain ⟨h1, h2⟩ := hm x hx
    rw [buried_eq, forget_gone m d l h]
    have h3 := h.above x h1
    rw [buried_eq] at h3
    have h4 : (look RIt.pl m.items x.pl).filter (fun x => decide (x.key ∈ l)) = none := by
      rw [look_of_mem h.items h1]
      simp [Option.filter, h2]
    rw [h4]
    exact h3
/-- an event that forgets keys adds knowledge -/
theorem forget_le {m : RMap} {d : Int} {l : List RKey} (h : Formed m) (ha : Allowed d l) (hn : nowR m d ≤ 1099511627776) : mergeM m (forgetM m d l) = forgetM m d l := by
  have hu := forget_formed h ha hn
  have hd := dev_lt h ha.lo ha.hi
  have hg : ∀ p, look RGo.pl (mergeM m (forgetM m d l)).gone p = look RGo.pl (forgetM m d l).gone p := fun p => by
    rw [merge_gone _ _ h hu, forget_gone m d l h]
    cases hi : look RIt.pl m.items p with
    | none => exact both_self (fun x => by unfold deeperR; simp) _
    | some x =>
      by_cases hx : x.key ∈ l
      · simp only [Option.filter, decide_eq_true hx, if_true]
        cases hgp : look RGo.pl m.gone p with
        | none => rfl
        | some g =>
          have h1 := h.above x (look_mem hi)
          rw [buried_eq, look_pl hi, hgp] at h1
          show some (deeperR g (goneOf x)) = some (goneOf x)
          unfold deeperR
          rw [if_pos (show g.seq < (goneOf x).seq from h1)]
      · simp only [Option.filter, decide_eq_false hx]
        exact both_self (fun x => by unfold deeperR; simp) _
  refine map_ext (merge_formed _ _ h hu) hu (fun i => ?_) (fun p => ?_) hg
  · rw [merge_seen _ _ h hu]
    have : m.seen.getD i 0 ≤ (forgetM m d l).seen.getD i 0 := up_le m d hd i
    omega
  · have hb : max (m.buried p) ((forgetM m d l).buried p) = (forgetM m d l).buried p := by
      rw [← merge_buried _ _ h hu, buried_eq, buried_eq, hg]
    rw [merge_items _ _ h hu, hb, forget_items m d l h]
    cases hi : look RIt.pl m.items p with
    | none => rfl
    | some x =>
      by_cases hx : x.key ∈ l
      · have e1 : (some x : Option RIt).filter (fun x => decide (x.key ∉ l)) = none := by simp [Option.filter, hx]
        rw [e1]
        show above _ (some x) = none
        rw [above_some, if_neg]
        rw [buried_eq, forget_gone m d l h, hi]
        simp only [Option.filter, decide_eq_true hx, if_true]
        show ¬ x.seq < x.seq
        omega
      · have e1 : (some x : Option RIt).filter (fun x => decide (x.key ∉ l)) = some x := by simp [Option.filter, hx]
        rw [e1]
        show above _ (some (laterR x x)) = some x
        have e2 : laterR x x = x := by unfold laterR; simp
        have h1 := h.above x (look_mem hi)
        rw [buried_eq, look_pl hi] at h1
        rw [e2, above_some, if_pos]
        rw [buried_eq, forget_gone m d l h, hi]
        simp only [Option.filter, decide_eq_false hx]
        exact h1

/-! values -/
theorem valIt_nonneg (m : RMap) (x : RIt) : 0 ≤ valIt m x := DM.aft_nonneg _ _ (DM.bnd_nonneg _)
theorem sum_nonneg : ∀ l : List Int, (∀ x ∈ l, 0 ≤ x) → 0 ≤ l.sum
  | [], _ => Int.le_refl _
  | x :: l, h => by
    have h1 := h x List.mem_cons_self
    have h2 := sum_nonneg l fun y hy => h y (List.mem_cons_of_mem _ hy)
    rw [List.sum_cons]; omega
theorem sum_ge : ∀ (l : List Int) (x : Int), (∀ y ∈ l, 0 ≤ y) → x ∈ l → x ≤ l.sum
  | [], x, _, h => by cases h
  | y :: l, x, h, hx => by
    have h1 := h y List.mem_cons_self
    rw [List.sum_cons]
    rcases List.mem_cons.1 hx with rfl | hx
    · have h2 := sum_nonneg l fun y hy => h y (List.mem_cons_of_mem _ hy)
      omega
    · have h2 := sum_ge l x (fun y hy => h y (List.mem_cons_of_mem _ hy)) hx
      omega
theorem value_none {m : RMap} {k : RKey} (h : ∀ x ∈ m.items, x.key ≠ k) : valueM m k = 0 := by
  unfold valueM
  have : (m.items.filter fun x => decide (x.key = k)) = [] := by
    rw [List.filter_eq_nil_iff]
    intro x hx
    simpa using h x hx
  rw [this]; rfl
theorem value_ge {m : RMap} {x : RIt} (hx : x ∈ m.items) : valIt m x ≤ valueM m x.key := by
  unfold valueM
  refine sum_ge _ _ (fun y hy => ?_) (List.mem_map.2 ⟨x, List.mem_filter.2 ⟨hx, by simp⟩, rfl⟩)
  obtain ⟨z, -, rfl⟩ := List.mem_map.1 hy
  exact valIt_nonneg m z
theorem forget_value {m : RMap} {d : Int} {l : List RKey} {k : RKey} (hk : k ∈ l) : valueM (forgetM m d l) k = 0 := by
  refine value_none fun x hx e => ?_
  obtain ⟨h1, h2⟩ := List.mem_filter.1 (show x ∈ m.items.filter fun x => decide (x.key ∉ l) from hx)
  simp at h2
  exact h2 (e ▸ hk)
/-- an item whose event is its device's last one counts whole -/
theorem valIt_last {m : RMap} {x : RIt} (hv : 1 ≤ x.val ∧ x.val ≤ 16777216) (hs : m.seen.getD x.dev.toNat 0 = x.seq) : valIt m x = x.val := by
  unfold valIt decAft
  rw [hs, Int.sub_self, DM.bnd_id _ (by omega) (by omega)]
  rfl
theorem use_value {m : RMap} {d : Int} {l : List RKey} (h : Formed m) (ha : Allowed d l) {k : RKey} (hk : k ∈ l) : 65536 ≤ valueM (useM m d l) k := by
  have hd := dev_lt h ha.lo ha.hi
  have hmem : refItem m d k ∈ (useM m d l).items := by
    refine look_mem (p := (k, d)) (pl := RIt.pl) ?_
    rw [use_look m d l h.items ha.nodup, if_pos ⟨rfl, hk⟩]
  have hv := refItem_val h ha.lo ha.hi k
  have hkd := Prod.mk.inj (refItem_pl m d k)
  have h1 := value_ge hmem
  rw [hkd.1] at h1
  rw [valIt_last ⟨by omega, hv.2⟩] at h1
  · omega
  · rw [hkd.2, refItem_seq]
    show (seenUp m d).getD d.toNat 0 = _
    rw [up_get m d hd, if_pos rfl]
    rfl
end Go.Proofs.YtbjkkmabafaogaaGreatDoor
