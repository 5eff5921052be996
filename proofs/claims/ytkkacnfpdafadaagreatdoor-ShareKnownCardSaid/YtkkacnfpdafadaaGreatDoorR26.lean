/-
  SMath
-/
import Derived.Test.YtkkacnfpdafadaaGreatDoorR02
namespace Go.Proofs.YtkkacnfpdafadaaGreatDoor
set_option linter.unusedVariables false
set_option maxRecDepth 20000

def knowsR (l : List Int) : Bool := decide (l.length = 8) && l.all seenOk
def seqIn (s : List Int) (x : RIt) : Bool := decide (x.seq ≤ s.getD x.dev.toNat 0)
def sinceF (m : RMap) (s : List Int) : RMap := ⟨m.seen, m.items.filter fun x => !seqIn s x, m.gone⟩
def sinceR (m : RMap) (s : List Int) : RMap × Int := if validR m && knowsR s then (sinceF m s, 0) else (.empty, 5)
structure SMsg where
  frm : Int
  seen : List Int
  tell : RMap
def SMsg.empty : SMsg := ⟨0, [], .empty⟩
def devOk (d : Int) : Bool := decide (0 ≤ d ∧ d < 8)
def sendR (d : Int) (m : RMap) (s : List Int) : SMsg × Int := if devOk d then (if (sinceR m s).2 = 0 then (⟨d, s, (sinceR m s).1⟩, 0) else (.empty, (sinceR m s).2)) else (.empty, 1)
def svalid (x : SMsg) : Bool := devOk x.frm && knowsR x.seen && validR x.tell && x.tell.items.all fun i => !seqIn x.seen i
def aheadR (s t : List Int) : Bool := (List.range 8).any fun i => decide (t.getD i 0 < s.getD i 0)
def recvR (m : RMap) (x : SMsg) : RMap × Int := if validR m && svalid x then (if aheadR x.seen m.seen then (.empty, 8) else mergeR m x.tell) else (.empty, 5)
def codeS (x : SMsg) : List UInt8 := uvar x.frm.toNat ++ (x.seen.flatMap (fun n => uvar n.toNat) ++ codeR x.tell)
def sencR (x : SMsg) : List UInt8 × Int := if svalid x then (codeS x, 0) else ([], 5)

structure Knows (l : List Int) : Prop where
  len : l.length = 8
  num : ∀ n ∈ l, 0 ≤ n ∧ n ≤ 1099511627776
theorem knows_iff (l : List Int) : knowsR l = true ↔ Knows l := by
  unfold knowsR
  simp only [Bool.and_eq_true, decide_eq_true_eq, List.all_eq_true, seenOk]
  exact ⟨fun h => ⟨h.1, h.2⟩, fun h => ⟨h.1, h.2⟩⟩
theorem Formed.knows {m : RMap} (h : Formed m) : Knows m.seen := ⟨h.len, h.seen⟩

/-! what a message leaves out -/
def Cov (A B : RMap) : Prop := ∀ p x, look RIt.pl A.items p = some x → x.seq ≤ B.seen.getD p.2.toNat 0 → x.seq ≤ B.buried p ∨ ∃ y, look RIt.pl B.items p = some y ∧ (x.seq < y.seq ∨ y = x)
theorem cov_self (A : RMap) : Cov A A := fun p x hx _ => .inr ⟨x, hx, .inr rfl⟩
theorem both_or {o u : Option RIt} {x : RIt} (h : both laterR o u = some x) : o = some x ∨ u = some x := by
  cases o with
  | none => cases u with
    | none => exact absurd h (by simp [both])
    | some b => exact .inr (by simpa [both] using h)
  | some a => cases u with
    | none => exact .inl (by simpa [both] using h)
    | some b =>
      have h' : laterR a b = x := by simpa [both] using h
      rcases laterR_or a b with e | e
      · exact .inl (by rw [← h', e])
      · exact .inr (by rw [← h', e])
theorem above_of {n : Int} {o : Option RIt} {x : RIt} (h : above n o = some x) : o = some x ∧ n < x.seq := by
  cases o with
  | none => exact absurd h (by simp [above_none])
  | some y =>
    rw [above_some] at h
    split at h
    · rename_i hl
      obtain rfl := Option.some.inj h
      exact ⟨rfl, hl⟩
    · exact absurd h (by simp)
theorem cov_merge_l {A B C : RMap} (hA : Formed A) (hB : Formed B) (h1 : Cov A C) (h2 : Cov B C) : Cov (mergeM A B) C := by
  intro p x hx hs
  rw [merge_items _ _ hA hB] at hx
  rcases both_or (above_of hx).1 with h | h
  · exact h1 p x h hs
  · exact h2 p x h hs
theorem cov_merge_aux {A B C : RMap} (hA : Formed A) (hB : Formed B) (h1 : Cov C A) (h2 : Cov B A) (p : RPl) (x : RIt) (hx : look RIt.pl C.items p = some x) (hs : x.seq ≤ A.seen.getD p.2.toNat 0) :
    x.seq ≤ (mergeM A B).buried p ∨ ∃ y, look RIt.pl (mergeM A B).items p = some y ∧ (x.seq < y.seq ∨ y = x) := by
  rw [merge_buried _ _ hA hB]
  by_cases hN : x.seq ≤ max (A.buried p) (B.buried p)
  · exact .inl hN
  rcases h1 p x hx hs with h | ⟨y, hy, h⟩
  · exact .inl (by omega)
  have hxy : x.seq ≤ y.seq := by
    rcases h with h | h
    · omega
    · rw [h]; exact Int.le_refl _
  right
  rw [merge_items _ _ hA hB, hy]
  cases hz : look RIt.pl B.items p with
  | none =>
    refine ⟨y, ?_, h⟩
    show above _ (some y) = some y
    rw [above_some, if_pos (by omega)]
  | some z =>
    have hl := later_seq y z
    refine ⟨laterR y z, ?_, ?_⟩
    · show above _ (some (laterR y z)) = _
      rw [above_some, if_pos (by omega)]
    · rcases h with h | rfl
      · exact .inl (by omega)
      · rcases hl.2.2 with e | e
        · exact .inr e
        · rw [e]
          by_cases hzx : y.seq < z.seq
          · exact .inl hzx
          · have hzs : z.seq ≤ A.seen.getD p.2.toNat 0 := by have := hl.1; rw [e] at this; omega
            rcases h2 p z hz hzs with k | ⟨y', hy', k⟩
            · exfalso; have := hl.1; rw [e] at this; omega
            · rw [hy] at hy'
              obtain rfl := Option.some.inj hy'
              rcases k with k | k
              · exfalso; have := hl.1; rw [e] at this; omega
              · exact .inr k.symm
theorem cov_merge_r {A B C : RMap} (hA : Formed A) (hB : Formed B) (h1 : Cov C A) (h2 : Cov C B) (h3 : Cov A B) (h4 : Cov B A) : Cov C (mergeM A B) := by
  intro p x hx hs
  rw [merge_seen _ _ hA hB] at hs
  by_cases h : x.seq ≤ A.seen.getD p.2.toNat 0
  · exact cov_merge_aux hA hB h1 h4 p x hx h
  · rw [merge_comm _ _ hA hB]
    exact cov_merge_aux hB hA h2 h3 p x hx (by omega)
theorem item_seen {m : RMap} (h : Formed m) {p : RPl} {x : RIt} (hx : look RIt.pl m.items p = some x) : x.seq ≤ m.seen.getD p.2.toNat 0 := by
  have := (known_seq (h.iknown x (look_mem hx))).2.2.2
  rw [look_pl hx] at this
  exact this
theorem seen_old {A C : RMap} {d : Int} {l : List RKey} (hA : Formed A) (hC : Formed C) (ha : Allowed d l) (hle : C.seen.getD d.toNat 0 ≤ A.seen.getD d.toNat 0) {p : RPl} {x : RIt} (hx : look RIt.pl C.items p = some x) (hs : x.seq ≤ (seenUp A d).getD p.2.toNat 0) : x.seq ≤ A.seen.getD p.2.toNat 0 := by
  rw [up_get A d (dev_lt hA ha.lo ha.hi)] at hs
  split at hs
  · rename_i e
    have := item_seen hC hx
    rw [e] at this ⊢
    omega
  · exact hs
theorem cov_use_r {A C : RMap} {d : Int} {l : List RKey} (hA : Formed A) (hC : Formed C) (ha : Allowed d l) (hle : C.seen.getD d.toNat 0 ≤ A.seen.getD d.toNat 0) (h : Cov C A) : Cov C (useM A d l) := by
  intro p x hx hs
  have h1 := seen_old hA hC ha hle hx hs
  rcases h p x hx h1 with k | ⟨y, hy, k⟩
  · exact .inl k
  · right
    rw [use_look A d l hA.items ha.nodup]
    split
    · rename_i e
      refine ⟨_, rfl, .inl ?_⟩
      rw [refItem_seq]
      unfold nowR
      rw [← e.1]
      omega
    · exact ⟨y, hy, k⟩
theorem cov_use_l {A C : RMap} {d : Int} {l : List RKey} (hA : Formed A) (ha : Allowed d l) (hle : C.seen.getD d.toNat 0 ≤ A.seen.getD d.toNat 0) (h : Cov A C) : Cov (useM A d l) C := by
  intro p x hx hs
  rw [use_look A d l hA.items ha.nodup] at hx
  split at hx
  · rename_i e
    obtain rfl := Option.some.inj hx
    rw [refItem_seq] at hs
    unfold nowR at hs
    rw [e.1] at hs
    omega
  · exact h p x hx hs
/-! devices that write to one another -/
structure SLet where
  dst : Nat
  frm : Nat
  seen : List Int
  full : RMap
structure SW where
  m : Nat → RMap
  heard : Nat → Nat → List Int
  lets : List SLet
def SLet.msg (l : SLet) : SMsg := ⟨(l.frm : Int), l.seen, sinceF l.full l.seen⟩
structure LetOk (K : List RKey) (N : Int) (m : Nat → RMap) (l : SLet) : Prop where
  dst : l.dst < 3
  frm : l.frm < 3
  good : Good K N l.full
  own : ∀ i, i < 3 → l.full.seen.getD i 0 ≤ (m i).seen.getD i 0
  knows : Knows l.seen
  old : ∀ i, l.seen.getD i 0 ≤ (m l.dst).seen.getD i 0
  src : ∀ i, l.full.seen.getD i 0 ≤ (m l.frm).seen.getD i 0
def Fam (E : List SLet) (s : SW) (X : RMap) : Prop := (∃ i, i < 3 ∧ X = s.m i) ∨ ∃ l, l ∈ s.lets ++ E ∧ X = l.full
structure SInv (K : List RKey) (N : Int) (E : List SLet) (s : SW) : Prop where
  three : Three K N s.m
  lets : ∀ l ∈ s.lets ++ E, LetOk K N s.m l
  heard : ∀ a b, a < 3 → b < 3 → Knows (s.heard a b) ∧ ∀ i, (s.heard a b).getD i 0 ≤ (s.m b).seen.getD i 0
  cov : ∀ X Y, Fam E s X → Fam E s Y → Cov X Y
theorem SInv.fam {K : List RKey} {N : Int} {E : List SLet} {s : SW} (h : SInv K N E s) {X : RMap} (hX : Fam E s X) : Good K N X ∧ ∀ i, i < 3 → X.seen.getD i 0 ≤ (s.m i).seen.getD i 0 := by
  rcases hX with ⟨i, hi, rfl⟩ | ⟨l, hl, rfl⟩
  · exact ⟨h.three.good i hi, fun k hk => h.three.own k i hk hi⟩
  · exact ⟨(h.lets l hl).good, (h.lets l hl).own⟩
theorem LetOk.put {K : List RKey} {N N' : Int} {m : Nat → RMap} {l : SLet} (h : LetOk K N m l) (hN : N ≤ N') {d : Nat} {x : RMap} (hup : ∀ i, (m d).seen.getD i 0 ≤ x.seen.getD i 0) : LetOk K N' (putM m d x) l := by
  have hp : ∀ i j, (m i).seen.getD j 0 ≤ (putM m d x i).seen.getD j 0 := fun i j => by
    unfold putM
    split
    · rename_i e; rw [e]; exact hup j
    · exact Int.le_refl _
  exact ⟨h.dst, h.frm, h.good.mono hN, fun i hi => Int.le_trans (h.own i hi) (hp i i), h.knows, fun i => Int.le_trans (h.old i) (hp _ i), fun i => Int.le_trans (h.src i) (hp _ i)⟩
theorem SInv.put {K : List RKey} {N N' : Int} {E : List SLet} {s : SW} (h : SInv K N E s) (hN : N ≤ N') {d : Nat} {x : RMap} (h3 : Three K N' (putM s.m d x)) (hup : ∀ i, (s.m d).seen.getD i 0 ≤ x.seen.getD i 0)
    (hc : ∀ Y, Fam E s Y → Cov x Y ∧ Cov Y x) : SInv K N' E ⟨putM s.m d x, s.heard, s.lets⟩ := by
  have hf : ∀ X, Fam E ⟨putM s.m d x, s.heard, s.lets⟩ X → X = x ∨ Fam E s X := fun X hX => by
    rcases hX with ⟨i, hi, e⟩ | hX
    · by_cases hid : i = d
      · left; rw [e]; show putM s.m d x i = x; unfold putM; rw [if_pos hid]
      · right; left; refine ⟨i, hi, ?_⟩; rw [e]; show putM s.m d x i = s.m i; unfold putM; rw [if_neg hid]
    · exact .inr (.inr hX)
  refine ⟨h3, fun l hl => (h.lets l hl).put hN hup, fun a b ha hb => ⟨(h.heard a b ha hb).1, fun i => Int.le_trans ((h.heard a b ha hb).2 i) ?_⟩, fun X Y hX hY => ?_⟩
  · show (s.m b).seen.getD i 0 ≤ (putM s.m d x b).seen.getD i 0
    unfold putM
    split
    · rename_i e; rw [e]; exact hup i
    · exact Int.le_refl _
  · rcases hf X hX with e1 | h1
    · rcases hf Y hY with e2 | h2
      · rw [e1, e2]; exact cov_self _
      · rw [e1]; exact (hc Y h2).1
    · rcases hf Y hY with e2 | h2
      · rw [e2]; exact (hc X h1).2
      · exact h.cov X Y h1 h2
theorem SInv.use {K : List RKey} {N : Int} {E : List SLet} {s : SW} (h : SInv K N E s) {d : Nat} (hd : d < 3) {l : List RKey} (ha : Allowed d l) (hl : ∀ k ∈ l, k ∈ K) (hN : N < 1099511627776) : SInv K (N + 1) E ⟨putM s.m d (useM (s.m d) d l), s.heard, s.lets⟩ := by
  have hf := (h.three.good d hd).formed
  refine h.put (by omega) (h.three.use hd ha hl hN) (fun i => ?_) fun Y hY => ?_
  · exact up_le (s.m d) d (dev_lt hf ha.lo ha.hi) i
  · have hg := h.fam hY
    have hm : Fam E s (s.m d) := .inl ⟨d, hd, rfl⟩
    have hle : Y.seen.getD (d : Int).toNat 0 ≤ (s.m d).seen.getD (d : Int).toNat 0 := hg.2 d hd
    exact ⟨cov_use_l hf ha hle (h.cov _ _ hm hY), cov_use_r hf hg.1.formed ha hle (h.cov _ _ hY hm)⟩
def heardUp (heard : Nat → Nat → List Int) (a b : Nat) (l : List Int) : Nat → Nat → List Int := fun i k => if i = a ∧ k = b then List.zipWith max (heard a b) l else heard i k
def arriveS (s : SW) (l : SLet) : SW := ⟨putM s.m l.dst (mergeM (s.m l.dst) l.full), heardUp s.heard l.dst l.frm l.full.seen, s.lets⟩
theorem zip_knows {a b : List Int} (ha : Knows a) (hb : Knows b) : Knows (List.zipWith max a b) := by
  refine ⟨by rw [zip_max_len a b (ha.len.trans hb.len.symm)]; exact ha.len, fun n hn => ?_⟩
  obtain ⟨i, hi, rfl⟩ := List.mem_iff_getElem.1 hn
  have h1 := zip_max_get a b (ha.len.trans hb.len.symm) i
  have hl := zip_max_len a b (ha.len.trans hb.len.symm)
  rw [List.getD_eq_getElem?_getD, List.getElem?_eq_getElem hi] at h1
  simp only [Option.getD_some] at h1
  have gb : ∀ l : List Int, Knows l → 0 ≤ l.getD i 0 ∧ l.getD i 0 ≤ 1099511627776 := fun l hl => by
    rw [List.getD_eq_getElem?_getD]
    cases e : l[i]? with
    | none => exact ⟨Int.le_refl _, by decide⟩
    | some v => exact hl.num v (List.mem_of_getElem? e)
  have := gb a ha
  have := gb b hb
  rw [h1]; omega
theorem SInv.arrive {K : List RKey} {N : Int} {E : List SLet} {s : SW} (h : SInv K N E s) {l : SLet} (hl : LetOk K N s.m l) (hF : Fam E s l.full) : SInv K N E (arriveS s l) := by
  have ht := h.three.good l.dst hl.dst
  have hm : Fam E s (s.m l.dst) := .inl ⟨_, hl.dst, rfl⟩
  have hsn := merge_seen _ _ ht.formed hl.good.formed
  have hp := h.put (Int.le_refl N) (d := l.dst) (x := mergeM (s.m l.dst) l.full)
    (h.three.put (Int.le_refl N) hl.dst (ht.merge hl.good) (fun i hi hne => by rw [hsn]; have := hl.own i hi; have := h.three.own i l.dst hi hl.dst; omega) (by rw [hsn]; omega))
    (fun i => by rw [hsn]; omega)
    (fun Y hY => ⟨cov_merge_l ht.formed hl.good.formed (h.cov _ _ hm hY) (h.cov _ _ hF hY), cov_merge_r ht.formed hl.good.formed (h.cov _ _ hY hm) (h.cov _ _ hY hF) (h.cov _ _ hm hF) (h.cov _ _ hF hm)⟩)
  refine ⟨hp.three, hp.lets, fun a b ha hb => ?_, hp.cov⟩
  have ho := hp.heard a b ha hb
  show Knows (heardUp s.heard l.dst l.frm l.full.seen a b) ∧ ∀ i, (heardUp s.heard l.dst l.frm l.full.seen a b).getD i 0 ≤ _
  unfold heardUp
  split
  · rename_i e
    obtain ⟨rfl, rfl⟩ := e
    refine ⟨zip_knows ho.1 hl.good.formed.knows, fun i => ?_⟩
    have e := zip_max_get (s.heard l.dst l.frm) l.full.seen (ho.1.len.trans hl.good.formed.len.symm) i
    have h1 := ho.2 i
    have h2 := (hl.put (Int.le_refl N) (d := l.dst) (x := mergeM (s.m l.dst) l.full) (fun i => by rw [hsn]; omega)).src i
    show (List.zipWith max (s.heard l.dst l.frm) l.full.seen).getD i 0 ≤ (putM s.m l.dst (mergeM (s.m l.dst) l.full) l.frm).seen.getD i 0
    rw [e]
    have h1' : (s.heard l.dst l.frm).getD i 0 ≤ (putM s.m l.dst (mergeM (s.m l.dst) l.full) l.frm).seen.getD i 0 := h1
    omega
  · exact ho
theorem write_ok {K : List RKey} {N : Int} {E : List SLet} {s : SW} (h : SInv K N E s) {one two : Nat} (h1 : one < 3) (h2 : two < 3) {sn : List Int} (hk : Knows sn) (hs : ∀ i, sn.getD i 0 ≤ (s.m two).seen.getD i 0) : LetOk K N s.m ⟨two, one, sn, s.m one⟩ :=
  ⟨h2, h1, h.three.good one h1, fun i hi => h.three.own i one hi h1, hk, hs, fun i => Int.le_refl _⟩
/-! messages -/
/-! each writes to each, twice -/
def tellS (s : SW) (i k : Nat) : SW := if i = k then s else arriveS s ⟨k, i, (s.m k).seen, s.m i⟩
theorem SInv.tell {K : List RKey} {N : Int} {E : List SLet} {s : SW} (h : SInv K N E s) {i k : Nat} (hi : i < 3) (hk : k < 3) : SInv K N E (tellS s i k) := by
  unfold tellS
  split
  · exact h
  · exact h.arrive (write_ok h hi hk (h.three.good k hk).formed.knows fun _ => Int.le_refl _) (.inl ⟨i, hi, rfl⟩)
def roundS (s : SW) (n : Nat) : SW := (List.range n).foldl (fun s i => tellS s (i / 3) (i % 3)) s
theorem roundS_succ (s : SW) (n : Nat) : roundS s (n + 1) = tellS (roundS s n) (n / 3) (n % 3) := by unfold roundS; rw [List.range_succ, List.foldl_append]; rfl
theorem SInv.round {K : List RKey} {N : Int} {E : List SLet} {s : SW} (h : SInv K N E s) : ∀ n : Nat, n ≤ 9 → SInv K N E (roundS s n)
  | 0, _ => h
  | n + 1, hn => by
    rw [roundS_succ]
    exact (h.round n (by omega)).tell (by omega) (by omega)
/-! a map that has a message in it -/
end Go.Proofs.YtkkacnfpdafadaaGreatDoor
