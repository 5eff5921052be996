/-
  SMath
-/
import Derived.Test.YtelphnigdancpaaGreatDoorZA02
namespace Go.Proofs.YtelphnigdancpaaGreatDoor
set_option linter.unusedVariables false
set_option maxRecDepth 20000

def knowsR (l : List Int) : Bool := decide (l.length = 8) && l.all seenOk
def seqIn (s : List Int) (x : RIt) : Bool := decide (x.seq ≤ s.getD x.dev.toNat 0)
def sinceF (m : RMap) (s : List Int) : RMap := ⟨m.seen, m.items.filter fun x => !seqIn s x, m.gone⟩
def sinceR (m : RMap) (s : List Int) : RMap × Int := if validR m && knowsR s then (sinceF m s, 0) else (.empty, 5)
structure SMsg where
  frm : Int
  seen : List Int
  tell : RMap
def SMsg.empty : SMsg := ⟨0, [], .empty⟩
def devOk (d : Int) : Bool := decide (0 ≤ d ∧ d < 8)
def sendR (d : Int) (m : RMap) (s : List Int) : SMsg × Int := if devOk d then (if (sinceR m s).2 = 0 then (⟨d, s, (sinceR m s).1⟩, 0) else (.empty, (sinceR m s).2)) else (.empty, 1)
def svalid (x : SMsg) : Bool := devOk x.frm && knowsR x.seen && validR x.tell && x.tell.items.all fun i => !seqIn x.seen i
def aheadR (s t : List Int) : Bool := (List.range 8).any fun i => decide (t.getD i 0 < s.getD i 0)
def recvR (m : RMap) (x : SMsg) : RMap × Int := if validR m && svalid x then (if aheadR x.seen m.seen then (.empty, 8) else mergeR m x.tell) else (.empty, 5)
structure Knows (l : List Int) : Prop where
  len : l.length = 8
  num : ∀ n ∈ l, 0 ≤ n ∧ n ≤ 1099511627776
theorem knows_iff (l : List Int) : knowsR l = true ↔ Knows l := by
  unfold knowsR
  simp only [Bool.and_eq_true, decide_eq_true_eq, List.all_eq_true, seenOk]
  exact ⟨fun h => ⟨h.1, h.2⟩, fun h => ⟨h.1, h.2⟩⟩
theorem Formed.knows {m : RMap} (h : Formed m) : Knows m.seen := ⟨h.len, h.seen⟩

/-! what a message leaves out -/
theorem since_formed {m : RMap} (h : Formed m) (s : List Int) : Formed (sinceF m s) :=
  ⟨h.len, h.seen, asc_filter h.items _, h.gone, h.gknown, fun x hx => h.iknown x (List.mem_filter.1 hx).1, fun x hx => h.val x (List.mem_filter.1 hx).1, fun x hx => h.above x (List.mem_filter.1 hx).1⟩
theorem Good.since {K : List RKey} {N : Int} {m : RMap} (h : Good K N m) (s : List Int) : Good K N (sinceF m s) :=
  ⟨since_formed h.formed s, fun x hx => h.items x (List.mem_filter.1 hx).1, h.gone, h.seen⟩

def Cov (A B : RMap) : Prop := ∀ p x, look RIt.pl A.items p = some x → x.seq ≤ B.seen.getD p.2.toNat 0 → x.seq ≤ B.buried p ∨ ∃ y, look RIt.pl B.items p = some y ∧ (x.seq < y.seq ∨ y = x)
theorem cov_self (A : RMap) : Cov A A := fun p x hx _ => .inr ⟨x, hx, .inr rfl⟩
theorem laterR_self (x : RIt) : laterR x x = x := by unfold laterR; split <;> rfl
theorem laterR_left {x y : RIt} (h : x.seq < y.seq) : laterR y x = y := by unfold laterR; rw [if_neg]; omega
theorem look_pl2 {l : List RIt} {p : RPl} {x : RIt} (h : look RIt.pl l p = some x) : x.dev = p.2 := by rw [← look_pl h]; rfl
theorem merge_since {r m : RMap} {s : List Int} (hr : Formed r) (hm : Formed m) (hs : ∀ i, s.getD i 0 ≤ r.seen.getD i 0) (hc : Cov m r) : mergeM r (sinceF m s) = mergeM r m := by
  have hf := since_formed hm s
  refine map_ext (merge_formed _ _ hr hf) (merge_formed _ _ hr hm) (fun i => ?_) (fun p => ?_) fun p => ?_
  · rw [merge_seen _ _ hr hf, merge_seen _ _ hr hm]; rfl
  · rw [merge_items _ _ hr hf, merge_items _ _ hr hm]
    show above (max (r.buried p) (m.buried p)) (both laterR (look RIt.pl r.items p) (look RIt.pl (m.items.filter fun x => !seqIn s x) p)) = _
    rw [look_filter hm.items]
    cases hx : look RIt.pl m.items p with
    | none => rfl
    | some x =>
      cases hq : seqIn s x with
      | false => simp only [Option.filter, hq]; rfl
      | true =>
        have hd := look_pl2 hx
        have h1 : x.seq ≤ r.seen.getD p.2.toNat 0 := by
          unfold seqIn at hq
          have := hs x.dev.toNat
          have h2 := of_decide_eq_true hq
          rw [hd] at this h2
          omega
        have e : Option.filter (fun x => !seqIn s x) (some x) = none := by simp [Option.filter, hq]
        rw [e]
        rcases hc p x hx h1 with h | ⟨y, hy, h⟩
        · have := above_both_r x.seq (max (r.buried p) (m.buried p)) (by omega) (look RIt.pl r.items p) (some x)
          rw [above_some, if_neg (by omega)] at this
          exact this
        · rw [hy]
          have e2 : laterR y x = y := by
            rcases h with h | h
            · exact laterR_left h
            · rw [h]; exact laterR_self x
          show above _ (some y) = above _ (some (laterR y x))
          rw [e2]
  · rw [merge_gone _ _ hr hf, merge_gone _ _ hr hm]; rfl

theorem both_or {o u : Option RIt} {x : RIt} (h : both laterR o u = some x) : o = some x ∨ u = some x := by
  cases o with
  | none => cases u with
    | none => exact absurd h (by simp [both])
    | some b => exact .inr (by simpa [both] using h)
  | some a => cases u with
    | none => exact .inl (by simpa [both] using h)
    | some b =>
      have h' : laterR a b = x := by simpa [both] using h
      rcases laterR_or a b with e | e
      · exact .inl (by rw [← h', e])
      · exact .inr (by rw [← h', e])
theorem above_of {n : Int} {o : Option RIt} {x : RIt} (h : above n o = some x) : o = some x ∧ n < x.seq := by
  cases o with
  | none => exact absurd h (by simp [above_none])
  | some y =>
    rw [above_some] at h
    split at h
    · rename_i hl
      obtain rfl := Option.some.inj h
      exact ⟨rfl, hl⟩
    · exact absurd h (by simp)
theorem cov_merge_l {A B C : RMap} (hA : Formed A) (hB : Formed B) (h1 : Cov A C) (h2 : Cov B C) : Cov (mergeM A B) C := by
  intro p x hx hs
  rw [merge_items _ _ hA hB] at hx
  rcases both_or (above_of hx).1 with h | h
  · exact h1 p x h hs
  · exact h2 p x h hs
theorem cov_merge_aux {A B C : RMap} (hA : Formed A) (hB : Formed B) (h1 : Cov C A) (h2 : Cov B A) (p : RPl) (x : RIt) (hx : look RIt.pl C.items p = some x) (hs : x.seq ≤ A.seen.getD p.2.toNat 0) :
    x.seq ≤ (mergeM A B).buried p ∨ ∃ y, look RIt.pl (mergeM A B).items p = some y ∧ (x.seq < y.seq ∨ y = x) := by
  rw [merge_buried _ _ hA hB]
  by_cases hN : x.seq ≤ max (A.buried p) (B.buried p)
  · exact .inl hN
  rcases h1 p x hx hs with h | ⟨y, hy, h⟩
  · exact .inl (by omega)
  have hxy : x.seq ≤ y.seq := by
    rcases h with h | h
    · omega
    · rw [h]; exact Int.le_refl _
  right
  rw [merge_items _ _ hA hB, hy]
  cases hz : look RIt.pl B.items p with
  | none =>
    refine ⟨y, ?_, h⟩
    show above _ (some y) = some y
    rw [above_some, if_pos (by omega)]
  | some z =>
    have hl := later_seq y z
    refine ⟨laterR y z, ?_, ?_⟩
    · show above _ (some (laterR y z)) = _
      rw [above_some, if_pos (by omega)]
    · rcases h with h | rfl
      · exact .inl (by omega)
      · rcases hl.2.2 with e | e
        · exact .inr e
        · rw [e]
          by_cases hzx : y.seq < z.seq
          · exact .inl hzx
          · have hzs : z.seq ≤ A.seen.getD p.2.toNat 0 := by have := hl.1; rw [e] at this; omega
            rcases h2 p z hz hzs with k | ⟨y', hy', k⟩
            · exfalso; have := hl.1; rw [e] at this; omega
            · rw [hy] at hy'
              obtain rfl := Option.some.inj hy'
              rcases k with k | k
              · exfalso; have := hl.1; rw [e] at this; omega
              · exact .inr k.symm
theorem cov_merge_r {A B C : RMap} (hA : Formed A) (hB : Formed B) (h1 : Cov C A) (h2 : Cov C B) (h3 : Cov A B) (h4 : Cov B A) : Cov C (mergeM A B) := by
  intro p x hx hs
  rw [merge_seen _ _ hA hB] at hs
  by_cases h : x.seq ≤ A.seen.getD p.2.toNat 0
  · exact cov_merge_aux hA hB h1 h4 p x hx h
  · rw [merge_comm _ _ hA hB]
    exact cov_merge_aux hB hA h2 h3 p x hx (by omega)
theorem item_seen {m : RMap} (h : Formed m) {p : RPl} {x : RIt} (hx : look RIt.pl m.items p = some x) : x.seq ≤ m.seen.getD p.2.toNat 0 := by
  have := (known_seq (h.iknown x (look_mem hx))).2.2.2
  rw [look_pl hx] at this
  exact this
theorem seen_old {A C : RMap} {d : Int} {l : List RKey} (hA : Formed A) (hC : Formed C) (ha : Allowed d l) (hle : C.seen.getD d.toNat 0 ≤ A.seen.getD d.toNat 0) {p : RPl} {x : RIt} (hx : look RIt.pl C.items p = some x) (hs : x.seq ≤ (seenUp A d).getD p.2.toNat 0) : x.seq ≤ A.seen.getD p.2.toNat 0 := by
  rw [up_get A d (dev_lt hA ha.lo ha.hi)] at hs
  split at hs
  · rename_i e
    have := item_seen hC hx
    rw [e] at this ⊢
    omega
  · exact hs
theorem cov_use_r {A C : RMap} {d : Int} {l : List RKey} (hA : Formed A) (hC : Formed C) (ha : Allowed d l) (hle : C.seen.getD d.toNat 0 ≤ A.seen.getD d.toNat 0) (h : Cov C A) : Cov C (useM A d l) := by
  intro p x hx hs
  have h1 := seen_old hA hC ha hle hx hs
  rcases h p x hx h1 with k | ⟨y, hy, k⟩
  · exact .inl k
  · right
    rw [use_look A d l hA.items ha.nodup]
    split
    · rename_i e
      refine ⟨_, rfl, .inl ?_⟩
      rw [refItem_seq]
      unfold nowR
      rw [← e.1]
      omega
    · exact ⟨y, hy, k⟩
theorem cov_use_l {A C : RMap} {d : Int} {l : List RKey} (hA : Formed A) (ha : Allowed d l) (hle : C.seen.getD d.toNat 0 ≤ A.seen.getD d.toNat 0) (h : Cov A C) : Cov (useM A d l) C := by
  intro p x hx hs
  rw [use_look A d l hA.items ha.nodup] at hx
  split at hx
  · rename_i e
    obtain rfl := Option.some.inj hx
    rw [refItem_seq] at hs
    unfold nowR at hs
    rw [e.1] at hs
    omega
  · exact h p x hx hs
theorem forget_buried {A : RMap} {d : Int} {l : List RKey} (hA : Formed A) (p : RPl) : A.buried p ≤ (forgetM A d l).buried p := by
  rw [buried_eq, buried_eq, forget_gone A d l hA]
  cases hi : look RIt.pl A.items p with
  | none => exact Int.le_refl _
  | some x =>
    by_cases hx : x.key ∈ l
    · simp only [Option.filter, decide_eq_true hx, if_true]
      have := hA.above x (look_mem hi)
      rw [look_pl hi, buried_eq] at this
      exact Int.le_of_lt this
    · simp only [Option.filter, decide_eq_false hx]
      exact Int.le_refl _
theorem cov_forget_r {A C : RMap} {d : Int} {l : List RKey} (hA : Formed A) (hC : Formed C) (ha : Allowed d l) (hle : C.seen.getD d.toNat 0 ≤ A.seen.getD d.toNat 0) (h : Cov C A) : Cov C (forgetM A d l) := by
  intro p x hx hs
  have h1 := seen_old hA hC ha hle hx hs
  rcases h p x hx h1 with k | ⟨y, hy, k⟩
  · exact .inl (Int.le_trans k (forget_buried hA p))
  · by_cases hyl : y.key ∈ l
    · left
      have e : (forgetM A d l).buried p = y.seq := by
        rw [buried_eq, forget_gone A d l hA, hy]
        simp only [Option.filter, decide_eq_true hyl, if_true]
        rfl
      rw [e]
      rcases k with k | rfl
      · omega
      · exact Int.le_refl _
    · right
      refine ⟨y, ?_, k⟩
      rw [forget_items A d l hA, hy]
      simp [Option.filter, hyl]
theorem cov_forget_l {A C : RMap} {d : Int} {l : List RKey} (hA : Formed A) (h : Cov A C) : Cov (forgetM A d l) C := by
  intro p x hx hs
  rw [forget_items A d l hA] at hx
  cases hi : look RIt.pl A.items p with
  | none => rw [hi] at hx; exact absurd hx (by simp)
  | some y =>
    rw [hi] at hx
    by_cases hy : y.key ∈ l
    · simp [Option.filter, hy] at hx
    · simp only [Option.filter, decide_eq_true hy, if_true] at hx
      obtain rfl := Option.some.inj hx
      exact h p y hi hs

/-! devices that write to one another -/
structure SLet where
  dst : Nat
  frm : Nat
  seen : List Int
  full : RMap
structure SW where
  m : Nat → RMap
  heard : Nat → Nat → List Int
  lets : List SLet
def SLet.msg (l : SLet) : SMsg := ⟨(l.frm : Int), l.seen, sinceF l.full l.seen⟩
structure LetOk (K : List RKey) (N : Int) (m : Nat → RMap) (l : SLet) : Prop where
  dst : l.dst < 3
  frm : l.frm < 3
  good : Good K N l.full
  own : ∀ i, i < 3 → l.full.seen.getD i 0 ≤ (m i).seen.getD i 0
  knows : Knows l.seen
  old : ∀ i, l.seen.getD i 0 ≤ (m l.dst).seen.getD i 0
  src : ∀ i, l.full.seen.getD i 0 ≤ (m l.frm).seen.getD i 0
def Fam (E : List SLet) (s : SW) (X : RMap) : Prop := (∃ i, i < 3 ∧ X = s.m i) ∨ ∃ l, l ∈ s.lets ++ E ∧ X = l.full
structure SInv (K : List RKey) (N : Int) (E : List SLet) (s : SW) : Prop where
  three : Three K N s.m
  lets : ∀ l ∈ s.lets ++ E, LetOk K N s.m l
  heard : ∀ a b, a < 3 → b < 3 → Knows (s.heard a b) ∧ ∀ i, (s.heard a b).getD i 0 ≤ (s.m b).seen.getD i 0
  cov : ∀ X Y, Fam E s X → Fam E s Y → Cov X Y
theorem SInv.fam {K : List RKey} {N : Int} {E : List SLet} {s : SW} (h : SInv K N E s) {X : RMap} (hX : Fam E s X) : Good K N X ∧ ∀ i, i < 3 → X.seen.getD i 0 ≤ (s.m i).seen.getD i 0 := by
  rcases hX with ⟨i, hi, rfl⟩ | ⟨l, hl, rfl⟩
  · exact ⟨h.three.good i hi, fun k hk => h.three.own k i hk hi⟩
  · exact ⟨(h.lets l hl).good, (h.lets l hl).own⟩
theorem LetOk.put {K : List RKey} {N N' : Int} {m : Nat → RMap} {l : SLet} (h : LetOk K N m l) (hN : N ≤ N') {d : Nat} {x : RMap} (hup : ∀ i, (m d).seen.getD i 0 ≤ x.seen.getD i 0) : LetOk K N' (putM m d x) l := by
  have hp : ∀ i j, (m i).seen.getD j 0 ≤ (putM m d x i).seen.getD j 0 := fun i j => by
    unfold putM
    split
    · rename_i e; rw [e]; exact hup j
    · exact Int.le_refl _
  exact ⟨h.dst, h.frm, h.good.mono hN, fun i hi => Int.le_trans (h.own i hi) (hp i i), h.knows, fun i => Int.le_trans (h.old i) (hp _ i), fun i => Int.le_trans (h.src i) (hp _ i)⟩
theorem SInv.put {K : List RKey} {N N' : Int} {E : List SLet} {s : SW} (h : SInv K N E s) (hN : N ≤ N') {d : Nat} {x : RMap} (h3 : Three K N' (putM s.m d x)) (hup : ∀ i, (s.m d).seen.getD i 0 ≤ x.seen.getD i 0)
    (hc : ∀ Y, Fam E s Y → Cov x Y ∧ Cov Y x) : SInv K N' E ⟨putM s.m d x, s.heard, s.lets⟩ := by
  have hf : ∀ X, Fam E ⟨putM s.m d x, s.heard, s.lets⟩ X → X = x ∨ Fam E s X := fun X hX => by
    rcases hX with ⟨i, hi, e⟩ | hX
    · by_cases hid : i = d
      · left; rw [e]; show putM s.m d x i = x; unfold putM; rw [if_pos hid]
      · right; left; refine ⟨i, hi, ?_⟩; rw [e]; show putM s.m d x i = s.m i; unfold putM; rw [if_neg hid]
    · exact .inr (.inr hX)
  refine ⟨h3, fun l hl => (h.lets l hl).put hN hup, fun a b ha hb => ⟨(h.heard a b ha hb).1, fun i => Int.le_trans ((h.heard a b ha hb).2 i) ?_⟩, fun X Y hX hY => ?_⟩
  · show (s.m b).seen.getD i 0 ≤ (putM s.m d x b).seen.getD i 0
    unfold putM
    split
    · rename_i e; rw [e]; exact hup i
    · exact Int.le_refl _
  · rcases hf X hX with e1 | h1
    · rcases hf Y hY with e2 | h2
      · rw [e1, e2]; exact cov_self _
      · rw [e1]; exact (hc Y h2).1
    · rcases hf Y hY with e2 | h2
      · rw [e2]; exact (hc X h1).2
      · exact h.cov X Y h1 h2
theorem SInv.use {K : List RKey} {N : Int} {E : List SLet} {s : SW} (h : SInv K N E s) {d : Nat} (hd : d < 3) {l : List RKey} (ha : Allowed d l) (hl : ∀ k ∈ l, k ∈ K) (hN : N < 1099511627776) : SInv K (N + 1) E ⟨putM s.m d (useM (s.m d) d l), s.heard, s.lets⟩ := by
  have hf := (h.three.good d hd).formed
  refine h.put (by omega) (h.three.use hd ha hl hN) (fun i => ?_) fun Y hY => ?_
  · exact up_le (s.m d) d (dev_lt hf ha.lo ha.hi) i
  · have hg := h.fam hY
    have hm : Fam E s (s.m d) := .inl ⟨d, hd, rfl⟩
    have hle : Y.seen.getD (d : Int).toNat 0 ≤ (s.m d).seen.getD (d : Int).toNat 0 := hg.2 d hd
    exact ⟨cov_use_l hf ha hle (h.cov _ _ hm hY), cov_use_r hf hg.1.formed ha hle (h.cov _ _ hY hm)⟩
theorem SInv.forget {K : List RKey} {N : Int} {E : List SLet} {s : SW} (h : SInv K N E s) {d : Nat} (hd : d < 3) {l : List RKey} (ha : Allowed d l) (hN : N < 1099511627776) : SInv K (N + 1) E ⟨putM s.m d (forgetM (s.m d) d l), s.heard, s.lets⟩ := by
  have hf := (h.three.good d hd).formed
  refine h.put (by omega) (h.three.forget hd ha hN) (fun i => ?_) fun Y hY => ?_
  · exact up_le (s.m d) d (dev_lt hf ha.lo ha.hi) i
  · have hg := h.fam hY
    have hm : Fam E s (s.m d) := .inl ⟨d, hd, rfl⟩
    have hle : Y.seen.getD (d : Int).toNat 0 ≤ (s.m d).seen.getD (d : Int).toNat 0 := hg.2 d hd
    exact ⟨cov_forget_l hf (h.cov _ _ hm hY), cov_forget_r hf hg.1.formed ha hle (h.cov _ _ hY hm)⟩
def heardUp (heard : Nat → Nat → List Int) (a b : Nat) (l : List Int) : Nat → Nat → List Int := fun i k => if i = a ∧ k = b then List.zipWith max (heard a b) l else heard i k
def arriveS (s : SW) (l : SLet) : SW := ⟨putM s.m l.dst (mergeM (s.m l.dst) l.full), heardUp s.heard l.dst l.frm l.full.seen, s.lets⟩
def writeS (s : SW) (one two : Nat) : SW := ⟨s.m, s.heard, s.lets ++ [⟨two, one, s.heard one two, s.m one⟩]⟩
theorem zip_knows {a b : List Int} (ha : Knows a) (hb : Knows b) : Knows (List.zipWith max a b) := by
  refine ⟨by rw [zip_max_len a b (ha.len.trans hb.len.symm)]; exact ha.len, fun n hn => ?_⟩
  obtain ⟨i, hi, rfl⟩ := List.mem_iff_getElem.1 hn
  have h1 := zip_max_get a b (ha.len.trans hb.len.symm) i
  have hl := zip_max_len a b (ha.len.trans hb.len.symm)
  rw [List.getD_eq_getElem?_getD, List.getElem?_eq_getElem hi] at h1
  simp only [Option.getD_some] at h1
  have gb : ∀ l : List Int, Knows l → 0 ≤ l.getD i 0 ∧ l.getD i 0 ≤ 1099511627776 := fun l hl => by
    rw [List.getD_eq_getElem?_getD]
    cases e : l[i]? with
    | none => exact ⟨Int.le_refl _, by decide⟩
    | some v => exact hl.num v (List.mem_of_getElem? e)
  have := gb a ha
  have := gb b hb
  rw [h1]; omega
theorem SInv.arrive {K : List RKey} {N : Int} {E : List SLet} {s : SW} (h : SInv K N E s) {l : SLet} (hl : LetOk K N s.m l) (hF : Fam E s l.full) : SInv K N E (arriveS s l) := by
  have ht := h.three.good l.dst hl.dst
  have hm : Fam E s (s.m l.dst) := .inl ⟨_, hl.dst, rfl⟩
  have hsn := merge_seen _ _ ht.formed hl.good.formed
  have hp := h.put (Int.le_refl N) (d := l.dst) (x := mergeM (s.m l.dst) l.full)
    (h.three.put (Int.le_refl N) hl.dst (ht.merge hl.good) (fun i hi hne => by rw [hsn]; have := hl.own i hi; have := h.three.own i l.dst hi hl.dst; omega) (by rw [hsn]; omega))
    (fun i => by rw [hsn]; omega)
    (fun Y hY => ⟨cov_merge_l ht.formed hl.good.formed (h.cov _ _ hm hY) (h.cov _ _ hF hY), cov_merge_r ht.formed hl.good.formed (h.cov _ _ hY hm) (h.cov _ _ hY hF) (h.cov _ _ hm hF) (h.cov _ _ hF hm)⟩)
  refine ⟨hp.three, hp.lets, fun a b ha hb => ?_, hp.cov⟩
  have ho := hp.heard a b ha hb
  show Knows (heardUp s.heard l.dst l.frm l.full.seen a b) ∧ ∀ i, (heardUp s.heard l.dst l.frm l.full.seen a b).getD i 0 ≤ _
  unfold heardUp
  split
  · rename_i e
    obtain ⟨rfl, rfl⟩ := e
    refine ⟨zip_knows ho.1 hl.good.formed.knows, fun i => ?_⟩
    have e := zip_max_get (s.heard l.dst l.frm) l.full.seen (ho.1.len.trans hl.good.formed.len.symm) i
    have h1 := ho.2 i
    have h2 := (hl.put (Int.le_refl N) (d := l.dst) (x := mergeM (s.m l.dst) l.full) (fun i => by rw [hsn]; omega)).src i
    show (List.zipWith max (s.heard l.dst l.frm) l.full.seen).getD i 0 ≤ (putM s.m l.dst (mergeM (s.m l.dst) l.full) l.frm).seen.getD i 0
    rw [e]
    have h1' : (s.heard l.dst l.frm).getD i 0 ≤ (putM s.m l.dst (mergeM (s.m l.dst) l.full) l.frm).seen.getD i 0 := h1
    omega
  · exact ho
theorem write_ok {K : List RKey} {N : Int} {E : List SLet} {s : SW} (h : SInv K N E s) {one two : Nat} (h1 : one < 3) (h2 : two < 3) {sn : List Int} (hk : Knows sn) (hs : ∀ i, sn.getD i 0 ≤ (s.m two).seen.getD i 0) : LetOk K N s.m ⟨two, one, sn, s.m one⟩ :=
  ⟨h2, h1, h.three.good one h1, fun i hi => h.three.own i one hi h1, hk, hs, fun i => Int.le_refl _⟩
theorem SInv.write {K : List RKey} {N : Int} {E : List SLet} {s : SW} (h : SInv K N E s) {one two : Nat} (h1 : one < 3) (h2 : two < 3) : SInv K N E (writeS s one two) := by
  have ho := h.heard one two h1 h2
  have hl := write_ok h h1 h2 ho.1 ho.2
  have hf : ∀ X, Fam E (writeS s one two) X → Fam E s X := fun X hX => by
    rcases hX with hX | ⟨l, hl, rfl⟩
    · exact .inl hX
    · rcases List.mem_append.1 hl with hl | hl
      · rcases List.mem_append.1 (show l ∈ s.lets ++ [_] from hl) with hl | hl
        · exact .inr ⟨l, List.mem_append_left _ hl, rfl⟩
        · rw [List.mem_singleton.1 hl]; exact .inl ⟨one, h1, rfl⟩
      · exact .inr ⟨l, List.mem_append_right _ hl, rfl⟩
  refine ⟨h.three, fun l hl' => ?_, h.heard, fun X Y hX hY => h.cov X Y (hf X hX) (hf Y hY)⟩
  rcases List.mem_append.1 hl' with hl' | hl'
  · rcases List.mem_append.1 (show l ∈ s.lets ++ [_] from hl') with hl' | hl'
    · exact h.lets l (List.mem_append_left _ hl')
    · rw [List.mem_singleton.1 hl']; exact hl
  · exact h.lets l (List.mem_append_right _ hl')
theorem SInv.extra {K : List RKey} {N : Int} {E : List SLet} {s : SW} (h : SInv K N E s) {l : SLet} (hl : LetOk K N s.m l) (hF : Fam E s l.full) : SInv K N (l :: E) s := by
  have hf : ∀ X, Fam (l :: E) s X → Fam E s X := fun X hX => by
    rcases hX with hX | ⟨k, hk, rfl⟩
    · exact .inl hX
    · rcases List.mem_append.1 hk with hk | hk
      · exact .inr ⟨k, List.mem_append_left _ hk, rfl⟩
      · rcases List.mem_cons.1 hk with rfl | hk
        · exact hF
        · exact .inr ⟨k, List.mem_append_right _ hk, rfl⟩
  refine ⟨h.three, fun k hk => ?_, h.heard, fun X Y hX hY => h.cov X Y (hf X hX) (hf Y hY)⟩
  rcases List.mem_append.1 hk with hk | hk
  · exact h.lets k (List.mem_append_left _ hk)
  · rcases List.mem_cons.1 hk with rfl | hk
    · exact hl
    · exact h.lets k (List.mem_append_right _ hk)

/-! messages -/
theorem send_ok {K : List RKey} {N : Int} {m : Nat → RMap} {l : SLet} (h : LetOk K N m l) (hK : K.length ≤ 5) : sendR (l.frm : Int) l.full l.seen = (l.msg, 0) := by
  have h1 := h.frm
  have hd : devOk (l.frm : Int) = true := by unfold devOk; simp; omega
  have hs : sinceR l.full l.seen = (sinceF l.full l.seen, 0) := by unfold sinceR; rw [h.good.valid hK, (knows_iff _).2 h.knows]; rfl
  unfold sendR
  rw [hd, hs]
  rfl
theorem msg_valid {K : List RKey} {N : Int} {m : Nat → RMap} {l : SLet} (h : LetOk K N m l) (hK : K.length ≤ 5) : svalid l.msg = true := by
  have h1 := h.frm
  have hd : devOk (l.frm : Int) = true := by unfold devOk; simp; omega
  unfold svalid SLet.msg
  simp only [hd, (knows_iff _).2 h.knows, (h.good.since l.seen).valid hK, Bool.and_self, Bool.true_and, List.all_eq_true]
  exact fun x hx => (List.mem_filter.1 hx).2
theorem recv_ok {K : List RKey} {N : Int} {E : List SLet} {s : SW} (h : SInv K N E s) {l : SLet} (hl : LetOk K N s.m l) (hF : Fam E s l.full) (hK : K.length ≤ 5) : recvR (s.m l.dst) l.msg = (mergeM (s.m l.dst) l.full, 0) := by
  have ht := h.three.good l.dst hl.dst
  have ha : aheadR l.msg.seen (s.m l.dst).seen = false := by
    unfold aheadR
    rw [List.any_eq_false]
    intro i _
    have := hl.old i
    show ¬ decide ((s.m l.dst).seen.getD i 0 < l.seen.getD i 0) = true
    simp
    have e : (s.m l.dst).seen.getD i 0 = (s.m l.dst).seen[i]?.getD 0 := List.getD_eq_getElem?_getD ..
    have e2 : l.seen.getD i 0 = l.seen[i]?.getD 0 := List.getD_eq_getElem?_getD ..
    omega
  unfold recvR
  rw [ht.valid hK, msg_valid hl hK, ha]
  show mergeR (s.m l.dst) (sinceF l.full l.seen) = _
  rw [mergeR_ok ht (hl.good.since l.seen) hK, merge_since ht.formed hl.good.formed hl.old (h.cov _ _ hF (.inl ⟨_, hl.dst, rfl⟩))]

/-! each writes to each, twice -/
def tellS (s : SW) (i k : Nat) : SW := if i = k then s else arriveS s ⟨k, i, (s.m k).seen, s.m i⟩
theorem SInv.tell {K : List RKey} {N : Int} {E : List SLet} {s : SW} (h : SInv K N E s) {i k : Nat} (hi : i < 3) (hk : k < 3) : SInv K N E (tellS s i k) := by
  unfold tellS
  split
  · exact h
  · exact h.arrive (write_ok h hi hk (h.three.good k hk).formed.knows fun _ => Int.le_refl _) (.inl ⟨i, hi, rfl⟩)
def roundS (s : SW) (n : Nat) : SW := (List.range n).foldl (fun s i => tellS s (i / 3) (i % 3)) s
theorem roundS_succ (s : SW) (n : Nat) : roundS s (n + 1) = tellS (roundS s n) (n / 3) (n % 3) := by unfold roundS; rw [List.range_succ, List.foldl_append]; rfl
theorem SInv.round {K : List RKey} {N : Int} {E : List SLet} {s : SW} (h : SInv K N E s) : ∀ n : Nat, n ≤ 9 → SInv K N E (roundS s n)
  | 0, _ => h
  | n + 1, hn => by
    rw [roundS_succ]
    exact (h.round n (by omega)).tell (by omega) (by omega)
theorem tellS_m (s : SW) (i k j : Nat) (h : i ≠ k) : (tellS s i k).m j = if j = k then mergeM (s.m k) (s.m i) else s.m j := by
  unfold tellS
  rw [if_neg h]
  rfl
theorem tellS_self (s : SW) (i : Nat) : tellS s i i = s := by unfold tellS; rw [if_pos rfl]
theorem round_all {s : SW} (h : ∀ i, i < 3 → Formed (s.m i)) : ∀ i, i < 3 → (roundS s 9).m i = allM s.m := by
  have ha := h 0 (by omega); have hb := h 1 (by omega); have hc := h 2 (by omega)
  obtain ⟨o1, o2, o3, o4, o5⟩ := all_order ha hb hc
  obtain ⟨g1, g2, g3⟩ := all_ge ha hb hc
  have ab := merge_formed _ _ ha hb
  have hA := merge_formed _ _ ab hc
  have e : roundS s 9 = tellS (tellS (tellS (tellS (tellS (tellS (tellS (tellS (tellS s 0 0) 0 1) 0 2) 1 0) 1 1) 1 2) 2 0) 2 1) 2 2 := rfl
  rw [e]
  simp only [tellS_self]
  obtain ⟨s1, h1⟩ : ∃ q, q = tellS s 0 1 := ⟨_, rfl⟩
  obtain ⟨s2, h2⟩ : ∃ q, q = tellS s1 0 2 := ⟨_, rfl⟩
  obtain ⟨s3, h3⟩ : ∃ q, q = tellS s2 1 0 := ⟨_, rfl⟩
  obtain ⟨s4, h4⟩ : ∃ q, q = tellS s3 1 2 := ⟨_, rfl⟩
  obtain ⟨s5, h5⟩ : ∃ q, q = tellS s4 2 0 := ⟨_, rfl⟩
  obtain ⟨s6, h6⟩ : ∃ q, q = tellS s5 2 1 := ⟨_, rfl⟩
  rw [← h1, ← h2, ← h3, ← h4, ← h5, ← h6]
  have a1 : s1.m 0 = s.m 0 ∧ s1.m 1 = mergeM (s.m 0) (s.m 1) ∧ s1.m 2 = s.m 2 := by
    rw [h1]
    refine ⟨tellS_m _ _ _ _ (by decide), ?_, tellS_m _ _ _ _ (by decide)⟩
    rw [tellS_m _ _ _ _ (by decide), if_pos rfl]
    exact merge_comm _ _ hb ha
  have a2 : s2.m 0 = s.m 0 ∧ s2.m 1 = mergeM (s.m 0) (s.m 1) ∧ s2.m 2 = mergeM (s.m 2) (s.m 0) := by
    rw [h2]
    refine ⟨(tellS_m _ _ _ _ (by decide)).trans a1.1, (tellS_m _ _ _ _ (by decide)).trans a1.2.1, ?_⟩
    rw [tellS_m _ _ _ _ (by decide), if_pos rfl, a1.1, a1.2.2]
  have a3 : s3.m 0 = mergeM (s.m 0) (s.m 1) ∧ s3.m 1 = mergeM (s.m 0) (s.m 1) ∧ s3.m 2 = mergeM (s.m 2) (s.m 0) := by
    rw [h3]
    refine ⟨?_, (tellS_m _ _ _ _ (by decide)).trans a2.2.1, (tellS_m _ _ _ _ (by decide)).trans a2.2.2⟩
    rw [tellS_m _ _ _ _ (by decide), if_pos rfl, a2.1, a2.2.1, ← merge_assoc _ _ _ ha ha hb, merge_self _ ha]
  have hca := merge_formed _ _ hc ha
  have a4 : s4.m 0 = mergeM (s.m 0) (s.m 1) ∧ s4.m 1 = mergeM (s.m 0) (s.m 1) ∧ s4.m 2 = allM s.m := by
    rw [h4]
    refine ⟨(tellS_m _ _ _ _ (by decide)).trans a3.1, (tellS_m _ _ _ _ (by decide)).trans a3.2.1, ?_⟩
    rw [tellS_m _ _ _ _ (by decide), if_pos rfl, a3.2.1, a3.2.2, merge_assoc _ _ _ hc ha ab, ← merge_assoc _ _ _ ha ha hb, merge_self _ ha, merge_comm _ _ hc ab]
    rfl
  have hall : mergeM (mergeM (s.m 0) (s.m 1)) (allM s.m) = allM s.m := by
    show mergeM (mergeM (s.m 0) (s.m 1)) (mergeM (mergeM (s.m 0) (s.m 1)) (s.m 2)) = _
    rw [← merge_assoc _ _ _ ab ab hc, merge_self _ ab]
    rfl
  have a5 : s5.m 0 = allM s.m ∧ s5.m 1 = mergeM (s.m 0) (s.m 1) ∧ s5.m 2 = allM s.m := by
    rw [h5]
    refine ⟨?_, (tellS_m _ _ _ _ (by decide)).trans a4.2.1, (tellS_m _ _ _ _ (by decide)).trans a4.2.2⟩
    rw [tellS_m _ _ _ _ (by decide), if_pos rfl, a4.1, a4.2.2, hall]
  have a6 : s6.m 0 = allM s.m ∧ s6.m 1 = allM s.m ∧ s6.m 2 = allM s.m := by
    rw [h6]
    refine ⟨(tellS_m _ _ _ _ (by decide)).trans a5.1, ?_, (tellS_m _ _ _ _ (by decide)).trans a5.2.2⟩
    rw [tellS_m _ _ _ _ (by decide), if_pos rfl, a5.2.1, a5.2.2, hall]
  intro i hi
  have : i = 0 ∨ i = 1 ∨ i = 2 := by omega
  rcases this with rfl | rfl | rfl
  · exact a6.1
  · exact a6.2.1
  · exact a6.2.2
theorem all_formed {m : Nat → RMap} (h : ∀ i, i < 3 → Formed (m i)) : Formed (allM m) := merge_formed _ _ (merge_formed _ _ (h 0 (by omega)) (h 1 (by omega))) (h 2 (by omega))
theorem all_same {m : Nat → RMap} {x : RMap} (hx : Formed x) (h : ∀ i, i < 3 → m i = x) : allM m = x := by
  unfold allM
  rw [h 0 (by omega), h 1 (by omega), h 2 (by omega), merge_self x hx, merge_self x hx]
theorem rounds_all {s : SW} (h : ∀ i, i < 3 → Formed (s.m i)) : ∀ i, i < 3 → (roundS (roundS s 9) 9).m i = allM s.m := by
  have h1 := round_all h
  have hf : ∀ i, i < 3 → Formed ((roundS s 9).m i) := fun i hi => by rw [h1 i hi]; exact all_formed h
  intro i hi
  rw [round_all hf i hi]
  exact all_same (all_formed h) h1

/-! a map that has a message in it -/
theorem le_use {m F : RMap} {d : Int} {l : List RKey} (hm : Formed m) (hF : Formed F) (ha : Allowed d l) (hn : nowR m d ≤ 1099511627776) (h : mergeM m F = m) : mergeM (useM m d l) F = useM m d l := by
  have hu := use_formed hm ha hn
  have e := use_le hm ha hn
  rw [← e, merge_assoc _ _ _ hu hm hF, h]
theorem le_forget {m F : RMap} {d : Int} {l : List RKey} (hm : Formed m) (hF : Formed F) (ha : Allowed d l) (hn : nowR m d ≤ 1099511627776) (h : mergeM m F = m) : mergeM (forgetM m d l) F = forgetM m d l := by
  have hu := forget_formed hm ha hn
  have e : mergeM (forgetM m d l) m = forgetM m d l := by rw [merge_comm _ _ hu hm]; exact forget_le hm ha hn
  rw [← e, merge_assoc _ _ _ hu hm hF, h]
theorem le_merge {m F x : RMap} (hm : Formed m) (hF : Formed F) (hx : Formed x) (h : mergeM m F = m) : mergeM (mergeM m x) F = mergeM m x := by
  rw [merge_assoc _ _ _ hm hx hF, merge_comm _ _ hx hF, ← merge_assoc _ _ _ hm hF hx, h]
theorem le_now {m F : RMap} (hm : Formed m) (hF : Formed F) : mergeM (mergeM m F) F = mergeM m F := by
  rw [merge_assoc _ _ _ hm hF hF, merge_self _ hF]
end Go.Proofs.YtelphnigdancpaaGreatDoor
