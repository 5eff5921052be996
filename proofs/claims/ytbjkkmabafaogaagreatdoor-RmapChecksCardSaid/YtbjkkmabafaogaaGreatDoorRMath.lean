/- The plain mathematics of maps: places, ascending lists, merging, putting. No program. -/
import Derived.Lib.Hide
namespace Go.Proofs.YtbjkkmabafaogaaGreatDoor
set_option linter.unusedVariables false
set_option maxRecDepth 20000

abbrev RKey := List UInt8
abbrev RPl := RKey × Int

/-! the order of keys -/
theorem klt_irrefl (a : RKey) : ¬ a < a := List.lt_irrefl a
theorem klt_trans {a b c : RKey} (h : a < b) (k : b < c) : a < c := List.lt_trans h k
theorem klt_asymm {a b : RKey} (h : a < b) : ¬ b < a := fun k => klt_irrefl a (klt_trans h k)
theorem klt_tri {a b : RKey} (h : ¬ a < b) (k : ¬ b < a) : a = b := List.le_antisymm (List.not_lt.1 k) (List.not_lt.1 h)

/-! the order of places -/
def plt (a b : RPl) : Prop := a.1 < b.1 ∨ (a.1 = b.1 ∧ a.2 < b.2)
instance (a b : RPl) : Decidable (plt a b) := by unfold plt; exact inferInstance
theorem plt_irrefl (a : RPl) : ¬ plt a a := by
  rintro (h | h)
  · exact klt_irrefl _ h
  · omega
theorem plt_trans {a b c : RPl} (h : plt a b) (k : plt b c) : plt a c := by
  rcases h with h | ⟨h, h'⟩
  · rcases k with k | ⟨k, k'⟩
    · exact .inl (klt_trans h k)
    · exact .inl (k ▸ h)
  · rcases k with k | ⟨k, k'⟩
    · exact .inl (h ▸ k)
    · exact .inr ⟨h.trans k, by omega⟩
theorem plt_asymm {a b : RPl} (h : plt a b) : ¬ plt b a := fun k => plt_irrefl a (plt_trans h k)
theorem plt_ne {a b : RPl} (h : plt a b) : a ≠ b := fun e => plt_irrefl b (e ▸ h)
theorem plt_tri {a b : RPl} (h : ¬ plt a b) (k : ¬ plt b a) : a = b := by
  have h1 : ¬ a.1 < b.1 := fun x => h (.inl x)
  have h2 : ¬ b.1 < a.1 := fun x => k (.inl x)
  have e1 := klt_tri h1 h2
  have h3 : ¬ a.2 < b.2 := fun x => h (.inr ⟨e1, x⟩)
  have h4 : ¬ b.2 < a.2 := fun x => k (.inr ⟨e1.symm, x⟩)
  exact Prod.ext e1 (by omega)
/-- the number that compare returns -/
def pcmp (a b : RPl) : Int := if plt a b then -1 else if plt b a then 1 else 0

/-! lists whose places ascend -/
section
variable {α : Type} (pl : α → RPl)

def Asc (l : List α) : Prop := l.Pairwise fun a b => plt (pl a) (pl b)
/-- each element is before the next one -/
def Step (l : List α) : Prop := ∀ i (h : i + 1 < l.length), plt (pl l[i]) (pl l[i + 1])

theorem asc_of_step : ∀ l : List α, Step pl l → Asc pl l
  | [], _ => .nil
  | [a], _ => List.pairwise_singleton _ _
  | a :: b :: l, h => by
    have hr : Asc pl (b :: l) := asc_of_step (b :: l) fun i hi => by
      have := h (i + 1) (by simpa using hi)
      simpa using this
    have hab : plt (pl a) (pl b) := h 0 (by simp)
    refine List.Pairwise.cons (fun c hc => ?_) hr
    rcases List.mem_cons.1 hc with rfl | hc
    · exact hab
    · exact plt_trans hab ((List.pairwise_cons.1 hr).1 c hc)
theorem step_of_asc {l : List α} (h : Asc pl l) : Step pl l := fun i hi => List.pairwise_iff_getElem.1 h i (i + 1) (by omega) hi (by omega)
theorem asc_iff_step (l : List α) : Asc pl l ↔ Step pl l := ⟨step_of_asc pl, asc_of_step pl l⟩
instance (l : List α) : Decidable (Asc pl l) := by unfold Asc; exact inferInstance

/-- the element with a place -/
def look (l : List α) (p : RPl) : Option α := l.find? fun x => decide (pl x = p)
variable {pl}
theorem look_nil (p : RPl) : look pl ([] : List α) p = none := rfl
theorem look_cons (x : α) (l : List α) (p : RPl) : look pl (x :: l) p = if pl x = p then some x else look pl l p := by
  unfold look
  rw [List.find?_cons]
  by_cases h : pl x = p <;> simp [h]
theorem look_pl {l : List α} {p : RPl} {x : α} (h : look pl l p = some x) : pl x = p := by
  have := List.find?_some h
  simpa using this
theorem look_mem {l : List α} {p : RPl} {x : α} (h : look pl l p = some x) : x ∈ l := List.mem_of_find?_eq_some h
theorem look_none {l : List α} {p : RPl} : look pl l p = none ↔ ∀ x ∈ l, pl x ≠ p := by
  unfold look
  rw [List.find?_eq_none]
  simp
theorem look_of_mem {l : List α} (h : Asc pl l) {x : α} (hx : x ∈ l) : look pl l (pl x) = some x := by
  induction l with
  | nil => cases hx
  | cons a l ih =>
    rw [look_cons]
    have ha := List.pairwise_cons.1 h
    rcases List.mem_cons.1 hx with rfl | hx
    · simp
    · rw [if_neg (plt_ne (ha.1 x hx)), ih ha.2 hx]
/-- two ascending lists with the same elements at all places are the same -/
theorem asc_ext : ∀ {a b : List α}, Asc pl a → Asc pl b → (∀ p, look pl a p = look pl b p) → a = b
  | [], [], _, _, _ => rfl
  | [], y :: b, _, hb, h => by
    have := h (pl y)
    rw [look_nil, look_cons, if_pos rfl] at this
    cases this
  | x :: a, [], ha, _, h => by
    have := h (pl x)
    rw [look_nil, look_cons, if_pos rfl] at this
    cases this
  | x :: a, y :: b, ha, hb, h => by
    have pa := List.pairwise_cons.1 ha
    have pb := List.pairwise_cons.1 hb
    have hx : x = y := by
      have h1 := h (pl x)
      rw [look_cons, if_pos rfl] at h1
      have m1 := look_mem h1.symm
      have h2 := h (pl y)
      rw [look_cons (x := y), if_pos rfl] at h2
      have m2 := look_mem h2
      rcases List.mem_cons.1 m1 with e | m1
      · exact e
      · rcases List.mem_cons.1 m2 with e | m2
        · exact e.symm
        · exact absurd (pa.1 y m2) (plt_asymm (pb.1 x m1))
    subst hx
    congr 1
    refine asc_ext pa.2 pb.2 fun p => ?_
    have hp := h p
    rw [look_cons, look_cons] at hp
    by_cases e : pl x = p
    · have n1 : look pl a p = none := look_none.2 fun z hz e' => plt_ne (pa.1 z hz) (e.trans e'.symm)
      have n2 : look pl b p = none := look_none.2 fun z hz e' => plt_ne (pb.1 z hz) (e.trans e'.symm)
      rw [n1, n2]
    · rw [if_neg e, if_neg e] at hp
      exact hp
theorem asc_filter {l : List α} (h : Asc pl l) (f : α → Bool) : Asc pl (l.filter f) := List.Pairwise.filter f h
theorem look_filter {l : List α} (h : Asc pl l) (f : α → Bool) (p : RPl) : look pl (l.filter f) p = (look pl l p).filter f := by
  induction l with
  | nil => rfl
  | cons a l ih =>
    have ha := List.pairwise_cons.1 h
    rw [List.filter_cons, look_cons]
    by_cases hf : f a = true
    · rw [if_pos hf, look_cons, ih ha.2]
      by_cases e : pl a = p
      · simp [e, Option.filter, hf]
      · simp [e]
    · rw [if_neg hf, ih ha.2]
      by_cases e : pl a = p
      · have n1 : look pl l p = none := look_none.2 fun z hz e' => plt_ne (ha.1 z hz) (e.trans e'.symm)
        simp [e, n1, Option.filter, hf]
      · simp [e]

/-! two ascending lists as one -/
variable (pl) in
def mergeL (better : α → α → α) : List α → List α → List α
  | [], b => b
  | a, [] => a
  | x :: a, y :: b => if plt (pl x) (pl y) then x :: mergeL better a (y :: b) else if plt (pl y) (pl x) then y :: mergeL better (x :: a) b else better x y :: mergeL better a b
termination_by a b => a.length + b.length

theorem mergeL_nil_l (better : α → α → α) (b : List α) : mergeL pl better [] b = b := by rw [mergeL]
theorem mergeL_nil_r (better : α → α → α) (a : List α) : mergeL pl better a [] = a := by cases a <;> simp [mergeL]
theorem mergeL_lt (better : α → α → α) {x y : α} (a b : List α) (h : plt (pl x) (pl y)) : mergeL pl better (x :: a) (y :: b) = x :: mergeL pl better a (y :: b) := by rw [mergeL, if_pos h]
theorem mergeL_gt (better : α → α → α) {x y : α} (a b : List α) (h : plt (pl y) (pl x)) : mergeL pl better (x :: a) (y :: b) = y :: mergeL pl better (x :: a) b := by rw [mergeL, if_neg (plt_asymm h), if_pos h]
theorem mergeL_eq (better : α → α → α) {x y : α} (a b : List α) (h : pl x = pl y) : mergeL pl better (x :: a) (y :: b) = better x y :: mergeL pl better a b := by
  rw [mergeL, if_neg (by rw [h]; exact plt_irrefl _), if_neg (by rw [h]; exact plt_irrefl _)]

/-- what two lists have at a place -/
def both (better : α → α → α) : Option α → Option α → Option α
  | some x, some y => some (better x y)
  | some x, none => some x
  | none, r => r

theorem merge_spec (better : α → α → α) (hb : ∀ x y, pl x = pl y → pl (better x y) = pl x) (n : Nat) : ∀ a b : List α, a.length + b.length ≤ n → Asc pl a → Asc pl b →
    (∀ p, look pl (mergeL pl better a b) p = both better (look pl a p) (look pl b p)) ∧ Asc pl (mergeL pl better a b) ∧ ∀ q, (∀ x ∈ a, plt q (pl x)) → (∀ x ∈ b, plt q (pl x)) → ∀ x ∈ mergeL pl better a b, plt q (pl x) := by
  induction n with
  | zero =>
    intro a b h ha hb'
    obtain rfl : a = [] := List.length_eq_zero_iff.1 (by omega)
    obtain rfl : b = [] := List.length_eq_zero_iff.1 (by omega)
    rw [mergeL_nil_l]
    exact ⟨fun p => rfl, .nil, fun q _ _ x hx => by cases hx⟩
  | succ n ih =>
    intro a b h ha hb'
    match a, b with
    | [], b => rw [mergeL_nil_l]; exact ⟨fun p => by rw [look_nil]; rfl, hb', fun q _ h2 => h2⟩
    | x :: a, [] =>
      rw [mergeL_nil_r]
      refine ⟨fun p => ?_, ha, fun q h1 _ => h1⟩
      rw [look_nil]
      cases look pl (x :: a) p <;> rfl
    | x :: a, y :: b =>
      have pa := List.pairwise_cons.1 ha
      have pb := List.pairwise_cons.1 hb'
      simp only [List.length_cons] at h
      by_cases h1 : plt (pl x) (pl y)
      · rw [mergeL_lt _ _ _ h1]
        obtain ⟨i1, i2, i3⟩ := ih a (y :: b) (by simp; omega) pa.2 hb'
        have hx : ∀ z ∈ y :: b, plt (pl x) (pl z) := fun z hz => by
          rcases List.mem_cons.1 hz with rfl | hz
          · exact h1
          · exact plt_trans h1 (pb.1 z hz)
        refine ⟨fun p => ?_, List.Pairwise.cons (i3 _ pa.1 hx) i2, fun q q1 q2 z hz => ?_⟩
        · rw [look_cons, look_cons (l := a), i1]
          by_cases e : pl x = p
          · have n1 : look pl (y :: b) p = none := look_none.2 fun z hz e' => plt_ne (hx z hz) (e.trans e'.symm)
            simp [e, n1, both]
          · simp [e]
        · rcases List.mem_cons.1 hz with rfl | hz
          · exact q1 _ (List.mem_cons_self)
          · exact i3 q (fun u hu => q1 u (List.mem_cons_of_mem _ hu)) q2 z hz
      · by_cases h2 : plt (pl y) (pl x)
        · rw [mergeL_gt _ _ _ h2]
          obtain ⟨i1, i2, i3⟩ := ih (x :: a) b (by simp; omega) ha pb.2
          have hy : ∀ z ∈ x :: a, plt (pl y) (pl z) := fun z hz => by
            rcases List.mem_cons.1 hz with rfl | hz
            · exact h2
            · exact plt_trans h2 (pa.1 z hz)
          refine ⟨fun p => ?_, List.Pairwise.cons (i3 _ hy pb.1) i2, fun q q1 q2 z hz => ?_⟩
          · rw [look_cons, look_cons (l := b), i1]
            by_cases e : pl y = p
            · have n1 : look pl (x :: a) p = none := look_none.2 fun z hz e' => plt_ne (hy z hz) (e.trans e'.symm)
              simp [e, n1, both]
            · simp [e]
          · rcases List.mem_cons.1 hz with rfl | hz
            · exact q2 _ (List.mem_cons_self)
            · exact i3 q q1 (fun u hu => q2 u (List.mem_cons_of_mem _ hu)) z hz
        · have e := plt_tri h1 h2
          rw [mergeL_eq _ _ _ e]
          obtain ⟨i1, i2, i3⟩ := ih a b (by omega) pa.2 pb.2
          have hbe := hb x y e
          refine ⟨fun p => ?_, List.Pairwise.cons ?_ i2, fun q q1 q2 z hz => ?_⟩
          · rw [look_cons, look_cons (l := a), look_cons (l := b), i1, hbe, ← e]
            by_cases e' : pl x = p
            · simp [e', both]
            · simp [e']
          · rw [hbe]
            exact i3 _ pa.1 (by rw [e]; exact pb.1)
          · rcases List.mem_cons.1 hz with rfl | hz
            · rw [hbe]; exact q1 _ (List.mem_cons_self)
            · exact i3 q (fun u hu => q1 u (List.mem_cons_of_mem _ hu)) (fun u hu => q2 u (List.mem_cons_of_mem _ hu)) z hz
theorem look_merge {better : α → α → α} (hb : ∀ x y, pl x = pl y → pl (better x y) = pl x) {a b : List α} (ha : Asc pl a) (hb' : Asc pl b) (p : RPl) : look pl (mergeL pl better a b) p = both better (look pl a p) (look pl b p) :=
  (merge_spec better hb _ a b (Nat.le_refl _) ha hb').1 p
theorem asc_merge {better : α → α → α} (hb : ∀ x y, pl x = pl y → pl (better x y) = pl x) {a b : List α} (ha : Asc pl a) (hb' : Asc pl b) : Asc pl (mergeL pl better a b) :=
  (merge_spec better hb _ a b (Nat.le_refl _) ha hb').2.1
theorem merge_len (better : α → α → α) (n : Nat) : ∀ a b : List α, a.length + b.length ≤ n → (mergeL pl better a b).length ≤ a.length + b.length := by
  induction n with
  | zero =>
    intro a b h
    obtain rfl : a = [] := List.length_eq_zero_iff.1 (by omega)
    rw [mergeL_nil_l]; omega
  | succ n ih =>
    intro a b h
    match a, b with
    | [], b => rw [mergeL_nil_l]; simp
    | x :: a, [] => rw [mergeL_nil_r]; simp
    | x :: a, y :: b =>
      simp only [List.length_cons] at h ⊢
      by_cases h1 : plt (pl x) (pl y)
      · rw [mergeL_lt _ _ _ h1]
        have := ih a (y :: b) (by simp; omega)
        simp at this ⊢; omega
      · by_cases h2 : plt (pl y) (pl x)
        · rw [mergeL_gt _ _ _ h2]
          have := ih (x :: a) b (by simp; omega)
          simp at this ⊢; omega
        · rw [mergeL_eq _ _ _ (plt_tri h1 h2)]
          have := ih a b (by omega)
          simp; omega

/-! an element is put in its place -/
variable (pl) in
def putL (l : List α) (x : α) : List α := l.takeWhile (fun e => decide (plt (pl e) (pl x))) ++ x :: (l.dropWhile (fun e => decide (plt (pl e) (pl x)))).filter (fun e => decide (pl e ≠ pl x))

theorem put_cons_lt {x e : α} (l : List α) (h : plt (pl e) (pl x)) : putL pl (e :: l) x = e :: putL pl l x := by
  unfold putL
  rw [List.takeWhile_cons, List.dropWhile_cons]
  simp [h]
theorem put_cons_not {x e : α} (l : List α) (h : ¬ plt (pl e) (pl x)) : putL pl (e :: l) x = x :: (e :: l).filter (fun e => decide (pl e ≠ pl x)) := by
  unfold putL
  rw [List.takeWhile_cons, List.dropWhile_cons]
  simp [h]
theorem put_nil (x : α) : putL pl [] x = [x] := rfl
theorem put_spec (x : α) : ∀ l : List α, Asc pl l → (∀ p, look pl (putL pl l x) p = if pl x = p then some x else look pl l p) ∧ Asc pl (putL pl l x) ∧ ∀ q, plt q (pl x) → (∀ e ∈ l, plt q (pl e)) → ∀ e ∈ putL pl l x, plt q (pl e)
  | [], _ => by
    rw [put_nil]
    exact ⟨fun p => by rw [look_cons], List.pairwise_singleton _ _, fun q h _ e he => by rcases List.mem_cons.1 he with rfl | he; exact h; cases he⟩
  | e :: l, h => by
    have ph := List.pairwise_cons.1 h
    obtain ⟨i1, i2, i3⟩ := put_spec x l ph.2
    by_cases hlt : plt (pl e) (pl x)
    · rw [put_cons_lt _ hlt]
      refine ⟨fun p => ?_, List.Pairwise.cons (i3 _ hlt ph.1) i2, fun q q1 q2 z hz => ?_⟩
      · rw [look_cons, look_cons, i1]
        by_cases e1 : pl e = p
        · have : pl x ≠ p := fun e2 => plt_ne hlt (e1.trans e2.symm)
          simp [e1, this]
        · simp [e1]
      · rcases List.mem_cons.1 hz with rfl | hz
        · exact q2 _ List.mem_cons_self
        · exact i3 q q1 (fun u hu => q2 u (List.mem_cons_of_mem _ hu)) z hz
    · rw [put_cons_not _ hlt]
      have hmem : ∀ z ∈ (e :: l).filter (fun e => decide (pl e ≠ pl x)), plt (pl x) (pl z) := fun z hz => by
        obtain ⟨hz, hne⟩ := List.mem_filter.1 hz
        have hne' : pl z ≠ pl x := by simpa using hne
        rcases List.mem_cons.1 hz with rfl | hz
        · exact Classical.byContradiction fun hn => hne' (plt_tri hlt hn)
        · have hez := ph.1 z hz
          refine Classical.byContradiction fun hn => ?_
          by_cases hzx : plt (pl z) (pl x)
          · exact hlt (plt_trans hez hzx)
          · exact hne' (plt_tri hzx hn)
      refine ⟨fun p => ?_, List.Pairwise.cons hmem (asc_filter h _), fun q q1 q2 z hz => ?_⟩
      · rw [look_cons, look_filter h]
        by_cases e1 : pl x = p
        · simp [e1]
        · rw [if_neg e1, if_neg e1]
          cases hl : look pl (e :: l) p with
          | none => rfl
          | some z =>
            have := look_pl hl
            have hne : pl z ≠ pl x := fun e2 => e1 (e2.symm.trans this)
            simp [hne]
      · rcases List.mem_cons.1 hz with rfl | hz
        · exact q1
        · exact q2 z (List.mem_filter.1 hz).1
theorem look_put {l : List α} (h : Asc pl l) (x : α) (p : RPl) : look pl (putL pl l x) p = if pl x = p then some x else look pl l p := (put_spec x l h).1 p
theorem asc_put {l : List α} (h : Asc pl l) (x : α) : Asc pl (putL pl l x) := (put_spec x l h).2.1

/-- elements are put in, one after the other -/
theorem asc_puts (xs : List α) : ∀ l : List α, Asc pl l → Asc pl (xs.foldl (putL pl) l) := by
  induction xs with
  | nil => intro l h; exact h
  | cons x xs ih => intro l h; exact ih _ (asc_put h x)
theorem look_puts (xs : List α) : ∀ l : List α, Asc pl l → (xs.Pairwise fun a b => pl a ≠ pl b) → ∀ p, look pl (xs.foldl (putL pl) l) p = match look pl xs p with | some x => some x | none => look pl l p := by
  induction xs with
  | nil => intro l h _ p; rfl
  | cons x xs ih =>
    intro l h hx p
    have px := List.pairwise_cons.1 hx
    rw [List.foldl_cons, ih _ (asc_put h x) px.2, look_put h, look_cons]
    by_cases e : pl x = p
    · have n1 : look pl xs p = none := look_none.2 fun z hz e' => px.1 z hz (e.trans e'.symm)
      simp [e, n1]
    · simp [e]
end

/-! maps -/
structure RIt where
  key : RKey
  dev : Int
  seq : Int
  val : Int
structure RGo where
  key : RKey
  dev : Int
  seq : Int
structure RMap where
  seen : List Int
  items : List RIt
  gone : List RGo

def RIt.pl (x : RIt) : RPl := (x.key, x.dev)
def RGo.pl (x : RGo) : RPl := (x.key, x.dev)
def RMap.empty : RMap := ⟨[], [], []⟩
def RMap.new : RMap := ⟨List.replicate 8 0, [], []⟩

/-- up to which event nothing counts for a place -/
def RMap.buried (m : RMap) (p : RPl) : Int := match look RGo.pl m.gone p with | some g => g.seq | none => 0

def laterR (a b : RIt) : RIt := if a.seq < b.seq ∨ (a.seq = b.seq ∧ a.val < b.val) then b else a
def deeperR (a b : RGo) : RGo := if a.seq < b.seq then b else a
theorem laterR_pl (a b : RIt) (h : a.pl = b.pl) : (laterR a b).pl = a.pl := by unfold laterR; split; exact h.symm; rfl
theorem deeperR_pl (a b : RGo) (h : a.pl = b.pl) : (deeperR a b).pl = a.pl := by unfold deeperR; split; exact h.symm; rfl
end Go.Proofs.YtbjkkmabafaogaaGreatDoor
