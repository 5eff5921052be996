/- Merging maps: formed maps stay formed; merging is idempotent, commutative and associative. No program. -/
import Derived.Test.YtbjkkmabafaogaaGreatDoorRMath2
namespace Go.Proofs.YtbjkkmabafaogaaGreatDoor
set_option linter.unusedVariables false
set_option maxRecDepth 20000

/-! elements of a merged list -/
section
variable {α : Type} {pl : α → RPl}
theorem look_some_iff {l : List α} (h : Asc pl l) {p : RPl} {x : α} : look pl l p = some x ↔ x ∈ l ∧ pl x = p :=
  ⟨fun e => ⟨look_mem e, look_pl e⟩, fun ⟨h1, h2⟩ => h2 ▸ look_of_mem h h1⟩
theorem mem_merge {better : α → α → α} (hb : ∀ x y, pl x = pl y → pl (better x y) = pl x) (hc : ∀ x y, better x y = x ∨ better x y = y) {a b : List α} (ha : Asc pl a) (hb' : Asc pl b) {z : α} (hz : z ∈ mergeL pl better a b) : z ∈ a ∨ z ∈ b := by
  have h1 := look_of_mem (asc_merge hb ha hb') hz
  rw [look_merge hb ha hb'] at h1
  cases ea : look pl a (pl z) with
  | none =>
    rw [ea] at h1
    exact .inr (look_mem (show look pl b (pl z) = some z from h1))
  | some x =>
    rw [ea] at h1
    cases eb : look pl b (pl z) with
    | none =>
      rw [eb] at h1
      obtain rfl : x = z := by simpa [both] using h1
      exact .inl (look_mem ea)
    | some y =>
      rw [eb] at h1
      have h2 : better x y = z := by simpa [both] using h1
      rcases hc x y with h | h
      · rw [h] at h2; subst h2; exact .inl (look_mem ea)
      · rw [h] at h2; subst h2; exact .inr (look_mem eb)
end
theorem laterR_or (a b : RIt) : laterR a b = a ∨ laterR a b = b := by unfold laterR; split <;> simp
theorem deeperR_or (a b : RGo) : deeperR a b = a ∨ deeperR a b = b := by unfold deeperR; split <;> simp

/-! what is forgotten in a merged map -/
def optSeq : Option RGo → Int
  | some g => g.seq
  | none => 0
theorem buried_eq (m : RMap) (p : RPl) : m.buried p = optSeq (look RGo.pl m.gone p) := by unfold RMap.buried optSeq; rfl
theorem buried_nonneg {m : RMap} (h : Formed m) (p : RPl) : 0 ≤ m.buried p := by
  rw [buried_eq]
  cases e : look RGo.pl m.gone p with
  | none => exact Int.le_refl _
  | some g => have := look_gone_pos h e; show 0 ≤ g.seq; omega
theorem merge_gone (a b : RMap) (ha : Formed a) (hb : Formed b) (p : RPl) : look RGo.pl (mergeM a b).gone p = both deeperR (look RGo.pl a.gone p) (look RGo.pl b.gone p) :=
  look_merge deeperR_pl ha.gone hb.gone p
theorem merge_buried (a b : RMap) (ha : Formed a) (hb : Formed b) (p : RPl) : (mergeM a b).buried p = max (a.buried p) (b.buried p) := by
  have h1 := buried_nonneg ha p
  have h2 := buried_nonneg hb p
  rw [buried_eq] at h1 h2
  rw [buried_eq, buried_eq, buried_eq, merge_gone a b ha hb]
  cases ea : look RGo.pl a.gone p with
  | none =>
    rw [ea] at h1
    cases eb : look RGo.pl b.gone p with
    | none => simp [both, optSeq]
    | some y => rw [eb] at h2; simp only [both, optSeq] at h2 ⊢; omega
  | some x =>
    rw [ea] at h1
    cases eb : look RGo.pl b.gone p with
    | none => simp only [both, optSeq] at h1 ⊢; omega
    | some y =>
      simp only [both, optSeq, deeperR]
      split <;> omega
/-- the items above an event -/
def above (n : Int) (o : Option RIt) : Option RIt := o.filter fun x => decide (n < x.seq)
theorem above_none (n : Int) : above n none = none := rfl
theorem above_some (n : Int) (x : RIt) : above n (some x) = if n < x.seq then some x else none := by unfold above Option.filter; simp
theorem mergeM_buried (a b : RMap) (p : RPl) : (mergeM a b).buried p = RMap.buried ⟨List.zipWith max a.seen b.seen, [], mergeL RGo.pl deeperR a.gone b.gone⟩ p := rfl
theorem merge_items (a b : RMap) (ha : Formed a) (hb : Formed b) (p : RPl) :
    look RIt.pl (mergeM a b).items p = above (max (a.buried p) (b.buried p)) (both laterR (look RIt.pl a.items p) (look RIt.pl b.items p)) := by
  show look RIt.pl ((mergeL RIt.pl laterR a.items b.items).filter fun x => decide ((mergeM a b).buried x.pl < x.seq)) p = _
  rw [look_filter (asc_merge laterR_pl ha.items hb.items), look_merge laterR_pl ha.items hb.items]
  cases e : both laterR (look RIt.pl a.items p) (look RIt.pl b.items p) with
  | none => rfl
  | some x =>
    have hp : x.pl = p := by
      have := look_merge laterR_pl ha.items hb.items p
      rw [e] at this
      exact look_pl this
    rw [above_some]
    simp only [Option.filter, hp, merge_buried a b ha hb]
    simp

/-! formed maps stay formed -/
theorem known_mono {m m' : RMap} {p : RPl} {s : Int} (h : knownR m p s = true) (hl : m'.seen.length = m.seen.length) (hs : ∀ i, m.seen.getD i 0 ≤ m'.seen.getD i 0) : knownR m' p s = true := by
  have hk := known_key h
  obtain ⟨h1, h2, h3, h4⟩ := known_seq h
  unfold knownR
  simp only [Bool.and_eq_true, decide_eq_true_eq]
  exact ⟨hk, h1, by rw [hl]; exact h2, h3, Int.le_trans h4 (hs _)⟩
theorem zip_max_get (a b : List Int) (h : a.length = b.length) (i : Nat) : (List.zipWith max a b).getD i 0 = max (a.getD i 0) (b.getD i 0) := by
  simp only [List.getD_eq_getElem?_getD, List.getElem?_zipWith]
  by_cases hi : i < a.length
  · rw [List.getElem?_eq_getElem hi, List.getElem?_eq_getElem (h ▸ hi)]; rfl
  · rw [List.getElem?_eq_none (by omega), List.getElem?_eq_none (by omega)]; rfl
theorem seen_ext {a b : List Int} (h : a.length = b.length) (hg : ∀ i, a.getD i 0 = b.getD i 0) : a = b := by
  refine List.ext_getElem h fun i h1 h2 => ?_
  have := hg i
  simp only [List.getD_eq_getElem?_getD, List.getElem?_eq_getElem h1, List.getElem?_eq_getElem h2] at this
  exact this
theorem merge_seen_len (a b : RMap) (ha : Formed a) (hb : Formed b) : (mergeM a b).seen.length = 8 := by
  show (List.zipWith max a.seen b.seen).length = 8
  rw [zip_max_len _ _ (ha.len.trans hb.len.symm), ha.len]
theorem merge_seen (a b : RMap) (ha : Formed a) (hb : Formed b) (i : Nat) : (mergeM a b).seen.getD i 0 = max (a.seen.getD i 0) (b.seen.getD i 0) := zip_max_get _ _ (ha.len.trans hb.len.symm) i
theorem seen_get {m : RMap} (h : Formed m) (i : Nat) : 0 ≤ m.seen.getD i 0 ∧ m.seen.getD i 0 ≤ 1099511627776 := by
  by_cases hi : i < m.seen.length
  · rw [List.getD_eq_getElem?_getD, List.getElem?_eq_getElem hi]
    exact h.seen _ (List.getElem_mem hi)
  · rw [List.getD_eq_getElem?_getD, List.getElem?_eq_none (by omega)]
    exact ⟨Int.le_refl _, by decide⟩
theorem merge_formed (a b : RMap) (ha : Formed a) (hb : Formed b) : Formed (mergeM a b) := by
  have hl := merge_seen_len a b ha hb
  have ka : ∀ {p s}, knownR a p s = true → knownR (mergeM a b) p s = true := fun h => known_mono h (hl.trans ha.len.symm) fun i => by rw [merge_seen a b ha hb]; omega
  have kb : ∀ {p s}, knownR b p s = true → knownR (mergeM a b) p s = true := fun h => known_mono h (hl.trans hb.len.symm) fun i => by rw [merge_seen a b ha hb]; omega
  have gm : ∀ g ∈ (mergeM a b).gone, g ∈ a.gone ∨ g ∈ b.gone := fun g hg => mem_merge deeperR_pl deeperR_or ha.gone hb.gone hg
  have im : ∀ x ∈ (mergeM a b).items, (x ∈ a.items ∨ x ∈ b.items) ∧ (mergeM a b).buried x.pl < x.seq := fun x hx => by
    obtain ⟨h1, h2⟩ := List.mem_filter.1 (show x ∈ (mergeL RIt.pl laterR a.items b.items).filter fun x => decide ((mergeM a b).buried x.pl < x.seq) from hx)
    exact ⟨mem_merge laterR_pl laterR_or ha.items hb.items h1, by simpa using h2⟩
  refine ⟨hl, fun n hn => ?_, asc_filter (asc_merge laterR_pl ha.items hb.items) _, asc_merge deeperR_pl ha.gone hb.gone, fun g hg => ?_, fun x hx => ?_, fun x hx => ?_, fun x hx => (im x hx).2⟩
  · obtain ⟨i, hi, rfl⟩ := List.mem_iff_getElem.1 hn
    have h1 := merge_seen a b ha hb i
    rw [List.getD_eq_getElem?_getD, List.getElem?_eq_getElem hi] at h1
    have h2 := seen_get ha i
    have h3 := seen_get hb i
    simp only [Option.getD_some] at h1
    rw [h1]; omega
  · exact (gm g hg).elim (fun h => ka (ha.gknown g h)) (fun h => kb (hb.gknown g h))
  · exact (im x hx).1.elim (fun h => ka (ha.iknown x h)) (fun h => kb (hb.iknown x h))
  · exact (im x hx).1.elim (ha.val x) (hb.val x)

/-! two formed maps are equal if they have the same at all places -/
theorem map_ext {a b : RMap} (ha : Formed a) (hb : Formed b) (hs : ∀ i, a.seen.getD i 0 = b.seen.getD i 0) (hi : ∀ p, look RIt.pl a.items p = look RIt.pl b.items p) (hg : ∀ p, look RGo.pl a.gone p = look RGo.pl b.gone p) : a = b := by
  have h1 := seen_ext (ha.len.trans hb.len.symm) hs
  have h2 := asc_ext ha.items hb.items hi
  have h3 := asc_ext ha.gone hb.gone hg
  cases a; cases b
  simp_all

theorem deeper_comm (x y : RGo) (h : x.pl = y.pl) : deeperR x y = deeperR y x := by
  obtain ⟨k, d, s⟩ := x
  obtain ⟨k', d', s'⟩ := y
  obtain ⟨rfl, rfl⟩ := Prod.mk.inj (show (k, d) = (k', d') from h)
  unfold deeperR
  dsimp only
  by_cases h1 : s < s'
  · rw [if_pos h1, if_neg (by omega)]
  · by_cases h2 : s' < s
    · rw [if_neg h1, if_pos h2]
    · obtain rfl : s = s' := by omega
      simp
theorem later_comm (x y : RIt) (h : x.pl = y.pl) : laterR x y = laterR y x := by
  obtain ⟨k, d, s, v⟩ := x
  obtain ⟨k', d', s', v'⟩ := y
  obtain ⟨rfl, rfl⟩ := Prod.mk.inj (show (k, d) = (k', d') from h)
  unfold laterR
  dsimp only
  by_cases h1 : s < s' ∨ s = s' ∧ v < v'
  · rw [if_pos h1, if_neg (by omega)]
  · by_cases h2 : s' < s ∨ s' = s ∧ v' < v
    · rw [if_neg h1, if_pos h2]
    · obtain rfl : s = s' := by omega
      obtain rfl : v = v' := by omega
      simp
theorem both_comm {α : Type} {pl : α → RPl} {better : α → α → α} (hc : ∀ x y, pl x = pl y → better x y = better y x) {a b : List α} (p : RPl) : both better (look pl a p) (look pl b p) = both better (look pl b p) (look pl a p) := by
  cases ea : look pl a p with
  | none => cases look pl b p <;> rfl
  | some x =>
    cases eb : look pl b p with
    | none => rfl
    | some y => simp only [both]; rw [hc x y ((look_pl ea).trans (look_pl eb).symm)]
theorem merge_comm (a b : RMap) (ha : Formed a) (hb : Formed b) : mergeM a b = mergeM b a := by
  refine map_ext (merge_formed a b ha hb) (merge_formed b a hb ha) (fun i => ?_) (fun p => ?_) (fun p => ?_)
  · rw [merge_seen a b ha hb, merge_seen b a hb ha]; omega
  · rw [merge_items a b ha hb, merge_items b a hb ha, both_comm later_comm]
    congr 1; omega
  · rw [merge_gone a b ha hb, merge_gone b a hb ha, both_comm deeper_comm]

/-- one map is no less than another -/
def LeM (a b : RMap) : Prop := mergeM b a = b
theorem both_self {α : Type} {better : α → α → α} (hs : ∀ x, better x x = x) (o : Option α) : both better o o = o := by
  cases o with
  | none => rfl
  | some x => simp [both, hs]
theorem above_item {m : RMap} (h : Formed m) (p : RPl) {n : Int} (hn : n ≤ m.buried p) : above n (look RIt.pl m.items p) = look RIt.pl m.items p := by
  cases e : look RIt.pl m.items p with
  | none => rfl
  | some x =>
    have h1 := h.above x (look_mem e)
    rw [look_pl e] at h1
    rw [above_some, if_pos (by omega)]
theorem merge_self (a : RMap) (ha : Formed a) : mergeM a a = a := by
  refine map_ext (merge_formed a a ha ha) ha (fun i => ?_) (fun p => ?_) (fun p => ?_)
  · rw [merge_seen a a ha ha]; omega
  · rw [merge_items a a ha ha, both_self (fun x => by unfold laterR; simp), above_item ha p (by omega)]
  · rw [merge_gone a a ha ha, both_self (fun x => by unfold deeperR; simp)]

theorem deeper_assoc (x y z : RGo) : deeperR (deeperR x y) z = deeperR x (deeperR y z) := by
  unfold deeperR
  repeat' split
  all_goals first | rfl | (exfalso; omega) | skip
theorem later_assoc (x y z : RIt) : laterR (laterR x y) z = laterR x (laterR y z) := by
  unfold laterR
  repeat' split
  all_goals first | rfl | (exfalso; omega) | skip
theorem both_assoc {α : Type} {better : α → α → α} (ha : ∀ x y z, better (better x y) z = better x (better y z)) (o u v : Option α) : both better (both better o u) v = both better o (both better u v) := by
  cases o <;> cases u <;> cases v <;> simp [both, ha]
theorem later_seq (x y : RIt) : x.seq ≤ (laterR x y).seq ∧ y.seq ≤ (laterR x y).seq ∧ (laterR x y = x ∨ laterR x y = y) := by
  unfold laterR
  split <;> simp <;> omega
/-- what is not above n need not be looked at when what is not above N is dropped afterwards -/
theorem above_both_l (n N : Int) (h : n ≤ N) (o u : Option RIt) : above N (both laterR (above n o) u) = above N (both laterR o u) := by
  cases o with
  | none => rfl
  | some x =>
    rw [above_some]
    by_cases hx : n < x.seq
    · rw [if_pos hx]
    · rw [if_neg hx]
      cases u with
      | none => show none = above N (some x); rw [above_some, if_neg (by omega)]
      | some y =>
        show above N (some y) = above N (some (laterR x y))
        obtain ⟨h1, h2, h3⟩ := later_seq x y
        rw [above_some, above_some]
        rcases h3 with e | e
        · rw [e] at h2 ⊢
          rw [if_neg (by omega), if_neg (by omega)]
        · rw [e]
theorem above_both_r (n N : Int) (h : n ≤ N) (o u : Option RIt) : above N (both laterR o (above n u)) = above N (both laterR o u) := by
  cases u with
  | none => rfl
  | some x =>
    rw [above_some]
    by_cases hx : n < x.seq
    · rw [if_pos hx]
    · rw [if_neg hx]
      cases o with
      | none => show none = above N (some x); rw [above_some, if_neg (by omega)]
      | some y =>
        show above N (some y) = above N (some (laterR y x))
        obtain ⟨h1, h2, h3⟩ := later_seq y x
        rw [above_some, above_some]
        rcases h3 with e | e
        · rw [e]
        · rw [e] at h1 ⊢
          rw [if_neg (by omega), if_neg (by omega)]
theorem merge_assoc (a b c : RMap) (ha : Formed a) (hb : Formed b) (hc : Formed c) : mergeM (mergeM a b) c = mergeM a (mergeM b c) := by
  have hab := merge_formed a b ha hb
  have hbc := merge_formed b c hb hc
  refine map_ext (merge_formed _ c hab hc) (merge_formed a _ ha hbc) (fun i => ?_) (fun p => ?_) (fun p => ?_)
  · rw [merge_seen _ c hab hc, merge_seen a b ha hb, merge_seen a _ ha hbc, merge_seen b c hb hc]; omega
  · rw [merge_items _ c hab hc, merge_items a b ha hb, merge_items a _ ha hbc, merge_items b c hb hc, merge_buried a b ha hb, merge_buried b c hb hc, above_both_l _ _ (by omega), above_both_r _ _ (by omega), both_assoc later_assoc]
    congr 1; omega
  · rw [merge_gone _ c hab hc, merge_gone a b ha hb, merge_gone a _ ha hbc, merge_gone b c hb hc, both_assoc deeper_assoc]
end Go.Proofs.YtbjkkmabafaogaaGreatDoor
