/- Three devices' copies: small maps are valid; runs of acts never fail; all orders of merging agree. No program. -/
import Derived.Test.YtbjkkmabafaogaaGreatDoorREvent
namespace Go.Proofs.YtbjkkmabafaogaaGreatDoor
set_option linter.unusedVariables false
set_option maxRecDepth 20000

theorem length_le_of_subset {α : Type} [DecidableEq α] : ∀ (l P : List α), l.Nodup → (∀ x ∈ l, x ∈ P) → l.length ≤ P.length
  | [], P, _, _ => by simp
  | x :: l, P, hn, hs => by
    have hx := hs x List.mem_cons_self
    have hn' := List.nodup_cons.1 hn
    have h1 := length_le_of_subset l (P.erase x) hn'.2 fun y hy => (List.mem_erase_of_ne (fun e => hn'.1 (by rw [← e]; exact hy))).2 (hs y (List.mem_cons_of_mem _ hy))
    have h2 := List.length_erase_of_mem hx
    have h3 := List.length_pos_of_mem hx
    simp only [List.length_cons]
    omega
theorem asc_len {α : Type} {pl : α → RPl} {l : List α} (h : Asc pl l) (P : List RPl) (hs : ∀ x ∈ l, pl x ∈ P) : l.length ≤ P.length := by
  have h1 := length_le_of_subset (l.map pl) P (by
    unfold List.Nodup
    rw [List.pairwise_map]
    exact h.imp fun h => plt_ne h) (fun x hx => by
    obtain ⟨y, hy, rfl⟩ := List.mem_map.1 hx
    exact hs y hy)
  simpa using h1

/-- places of small maps -/
def places (K : List RKey) : List RPl := K.flatMap fun k => [(k, 0), (k, 1), (k, 2)]
theorem places_len (K : List RKey) : (places K).length = 3 * K.length := by
  unfold places
  induction K with
  | nil => rfl
  | cons k K ih => rw [List.flatMap_cons, List.length_append, ih]; simp; omega
theorem mem_places {K : List RKey} {p : RPl} : p ∈ places K ↔ p.1 ∈ K ∧ 0 ≤ p.2 ∧ p.2 < 3 := by
  unfold places
  rw [List.mem_flatMap]
  constructor
  · rintro ⟨k, hk, h⟩
    simp at h
    rcases h with rfl | rfl | rfl <;> exact ⟨hk, by simp⟩
  · rintro ⟨h1, h2, h3⟩
    refine ⟨p.1, h1, ?_⟩
    obtain ⟨k, d⟩ := p
    dsimp only at h2 h3 ⊢
    rcases (show d = 0 ∨ d = 1 ∨ d = 2 by omega) with rfl | rfl | rfl <;> simp
/-- a map of three devices whose keys are among a few -/
structure Good (K : List RKey) (N : Int) (m : RMap) : Prop where
  formed : Formed m
  items : ∀ x ∈ m.items, x.pl ∈ places K
  gone : ∀ x ∈ m.gone, x.pl ∈ places K
  seen : ∀ i, m.seen.getD i 0 ≤ N
theorem Good.mono {K : List RKey} {N N' : Int} {m : RMap} (h : Good K N m) (hn : N ≤ N') : Good K N' m := ⟨h.formed, h.items, h.gone, fun i => Int.le_trans (h.seen i) hn⟩
theorem Good.valid {K : List RKey} {N : Int} {m : RMap} (h : Good K N m) (hK : K.length ≤ 5) : validR m = true := by
  have h1 := asc_len h.formed.items _ h.items
  have h2 := asc_len h.formed.gone _ h.gone
  rw [places_len] at h1 h2
  have hc : (codeR m).length ≤ 60000 := by
    unfold codeR
    have h1 := flat_len_le (fun n : Int => uvar n.toNat) 10 m.seen fun n _ => uvar_len _
    have h2 := flat_len_le codeIt 440 m.items fun x hx => codeIt_len x (keyOk_len (known_key (h.formed.iknown x hx)))
    have h3 := flat_len_le codeGo 430 m.gone fun x hx => codeGo_len x (keyOk_len (known_key (h.formed.gknown x hx)))
    have h4 := uvar_len m.items.length
    have h5 := uvar_len m.gone.length
    have h6 := h.formed.len
    simp only [List.length_append]
    omega
  unfold validR
  simp only [Bool.and_eq_true, decide_eq_true_eq]
  exact ⟨⟨⟨(formed_iff m).2 h.formed, by omega⟩, by omega⟩, hc⟩
theorem new_formed : Formed RMap.new := by
  refine ⟨rfl, fun n hn => ?_, .nil, .nil, nofun, nofun, nofun, nofun⟩
  obtain rfl := List.eq_of_mem_replicate hn
  decide
theorem new_get (i : Nat) : RMap.new.seen.getD i 0 = 0 := by
  by_cases hi : i < 8
  · show (List.replicate 8 (0 : Int)).getD i 0 = 0
    rw [List.getD_eq_getElem?_getD, List.getElem?_replicate, if_pos hi]; rfl
  · show (List.replicate 8 (0 : Int)).getD i 0 = 0
    rw [List.getD_eq_getElem?_getD, List.getElem?_replicate, if_neg hi]; rfl
theorem Good.new (K : List RKey) : Good K 0 RMap.new := ⟨new_formed, nofun, nofun, fun i => by rw [new_get]; exact Int.le_refl _⟩

theorem Good.use {K : List RKey} {N : Int} {m : RMap} (h : Good K N m) {d : Int} {l : List RKey} (ha : Allowed d l) (hd : d < 3) (hl : ∀ k ∈ l, k ∈ K) (hN : N < 1099511627776) : Good K (N + 1) (useM m d l) := by
  have hs := h.seen d.toNat
  refine ⟨use_formed h.formed ha (by unfold nowR; omega), fun x hx => ?_, h.gone, fun i => ?_⟩
  · rcases use_mem h.formed.items ha.nodup hx with ⟨k, hk, rfl⟩ | hx
    · rw [refItem_pl, mem_places]
      exact ⟨hl k hk, ha.lo, hd⟩
    · exact h.items x hx
  · show (seenUp m d).getD i 0 ≤ N + 1
    rw [up_get m d (dev_lt h.formed ha.lo ha.hi)]
    have := h.seen i
    split <;> omega
theorem Good.forget {K : List RKey} {N : Int} {m : RMap} (h : Good K N m) {d : Int} {l : List RKey} (ha : Allowed d l) (hN : N < 1099511627776) : Good K (N + 1) (forgetM m d l) := by
  have hs := h.seen d.toNat
  refine ⟨forget_formed h.formed ha (by unfold nowR; omega), fun x hx => ?_, fun g hg => ?_, fun i => ?_⟩
  · exact h.items x (List.mem_filter.1 (show x ∈ m.items.filter fun x => decide (x.key ∉ l) from hx)).1
  · rcases forget_gmem h.formed hg with ⟨x, hx, _, rfl⟩ | hg
    · exact h.items x hx
    · exact h.gone g hg
  · show (seenUp m d).getD i 0 ≤ N + 1
    rw [up_get m d (dev_lt h.formed ha.lo ha.hi)]
    have := h.seen i
    split <;> omega
theorem Good.merge {K : List RKey} {N : Int} {a b : RMap} (ha : Good K N a) (hb : Good K N b) : Good K N (mergeM a b) := by
  refine ⟨merge_formed a b ha.formed hb.formed, fun x hx => ?_, fun g hg => ?_, fun i => ?_⟩
  · have h1 := (List.mem_filter.1 (show x ∈ (mergeL RIt.pl laterR a.items b.items).filter fun x => decide ((mergeM a b).buried x.pl < x.seq) from hx)).1
    exact (mem_merge laterR_pl laterR_or ha.formed.items hb.formed.items h1).elim (ha.items x) (hb.items x)
  · exact (mem_merge deeperR_pl deeperR_or ha.formed.gone hb.formed.gone hg).elim (ha.gone g) (hb.gone g)
  · rw [merge_seen a b ha.formed hb.formed]
    have := ha.seen i
    have := hb.seen i
    omega

/-! what calls return -/
theorem useR_ok {K : List RKey} {N : Int} {m : RMap} (h : Good K N m) (hK : K.length ≤ 5) {d : Int} {l : List RKey} (ha : Allowed d l) (hd : d < 3) (hl : ∀ k ∈ l, k ∈ K) (hN : N < 1099511627776) : useR m d l = (useM m d l, 0) := by
  unfold useR fullR
  rw [if_pos (h.valid hK), if_pos ((allowed_iff d l).2 ha), if_pos ((h.use ha hd hl hN).valid hK)]
theorem forgetR_ok {K : List RKey} {N : Int} {m : RMap} (h : Good K N m) (hK : K.length ≤ 5) {d : Int} {l : List RKey} (ha : Allowed d l) (hN : N < 1099511627776) : forgetR m d l = (forgetM m d l, 0) := by
  unfold forgetR fullR
  rw [if_pos (h.valid hK), if_pos ((allowed_iff d l).2 ha), if_pos ((h.forget ha hN).valid hK)]
theorem mergeR_ok {K : List RKey} {N : Int} {a b : RMap} (ha : Good K N a) (hb : Good K N b) (hK : K.length ≤ 5) : mergeR a b = (mergeM a b, 0) := by
  unfold mergeR fullR
  rw [if_pos (by rw [ha.valid hK, hb.valid hK]; rfl), if_pos ((ha.merge hb).valid hK)]

/-! three copies -/
/-- the copies of three devices: no other device knows more of a device's events than it does itself -/
structure Three (K : List RKey) (N : Int) (m : Nat → RMap) : Prop where
  good : ∀ i, i < 3 → Good K N (m i)
  own : ∀ i j, i < 3 → j < 3 → (m j).seen.getD i 0 ≤ (m i).seen.getD i 0
def putM (m : Nat → RMap) (d : Nat) (x : RMap) : Nat → RMap := fun i => if i = d then x else m i
theorem Three.put {K : List RKey} {N N' : Int} {m : Nat → RMap} (h : Three K N m) (hN : N ≤ N') {d : Nat} (hd : d < 3) {x : RMap} (hx : Good K N' x) (h1 : ∀ i, i < 3 → i ≠ d → x.seen.getD i 0 ≤ (m i).seen.getD i 0) (h2 : (m d).seen.getD d 0 ≤ x.seen.getD d 0) : Three K N' (putM m d x) := by
  refine ⟨fun i hi => ?_, fun i j hi hj => ?_⟩
  · unfold putM
    split
    · exact hx
    · exact (h.good i hi).mono hN
  · unfold putM
    by_cases e1 : i = d
    · subst e1
      rw [if_pos rfl]
      split
      · exact Int.le_refl _
      · exact Int.le_trans (h.own i j hi hj) h2
    · rw [if_neg e1]
      split
      · exact h1 i hi e1
      · exact h.own i j hi hj
theorem Three.use {K : List RKey} {N : Int} {m : Nat → RMap} (h : Three K N m) {d : Nat} (hd : d < 3) {l : List RKey} (ha : Allowed d l) (hl : ∀ k ∈ l, k ∈ K) (hN : N < 1099511627776) : Three K (N + 1) (putM m d (useM (m d) d l)) := by
  have hf := (h.good d hd).formed
  have hg := up_get (m d) (d : Int) (dev_lt hf ha.lo ha.hi)
  refine h.put (by omega) hd ((h.good d hd).use ha (by omega) hl hN) (fun i hi hne => ?_) ?_
  · show (seenUp (m d) d).getD i 0 ≤ _
    rw [hg, if_neg (by omega)]
    exact h.own i d hi hd
  · show _ ≤ (seenUp (m d) d).getD d 0
    rw [hg]; split <;> omega
theorem Three.forget {K : List RKey} {N : Int} {m : Nat → RMap} (h : Three K N m) {d : Nat} (hd : d < 3) {l : List RKey} (ha : Allowed d l) (hN : N < 1099511627776) : Three K (N + 1) (putM m d (forgetM (m d) d l)) := by
  have hf := (h.good d hd).formed
  have hg := up_get (m d) (d : Int) (dev_lt hf ha.lo ha.hi)
  refine h.put (by omega) hd ((h.good d hd).forget ha hN) (fun i hi hne => ?_) ?_
  · show (seenUp (m d) d).getD i 0 ≤ _
    rw [hg, if_neg (by omega)]
    exact h.own i d hi hd
  · show _ ≤ (seenUp (m d) d).getD d 0
    rw [hg]; split <;> omega
theorem Three.merge {K : List RKey} {N : Int} {m : Nat → RMap} (h : Three K N m) {d f : Nat} (hd : d < 3) (hf : f < 3) : Three K N (putM m d (mergeM (m d) (m f))) := by
  have g1 := h.good d hd
  have g2 := h.good f hf
  refine h.put (Int.le_refl _) hd (g1.merge g2) (fun i hi hne => ?_) ?_
  · rw [merge_seen _ _ g1.formed g2.formed]
    have := h.own i d hi hd
    have := h.own i f hi hf
    omega
  · rw [merge_seen _ _ g1.formed g2.formed]
    omega
theorem Three.new (K : List RKey) : Three K 0 (fun _ => RMap.new) := ⟨fun _ _ => Good.new K, fun i j _ _ => Int.le_refl _⟩

/-- all three merged -/
def allM (m : Nat → RMap) : RMap := mergeM (mergeM (m 0) (m 1)) (m 2)
theorem all_order {a b c : RMap} (ha : Formed a) (hb : Formed b) (hc : Formed c) :
    mergeM (mergeM a c) b = mergeM (mergeM a b) c ∧ mergeM (mergeM b a) c = mergeM (mergeM a b) c ∧ mergeM (mergeM b c) a = mergeM (mergeM a b) c ∧ mergeM (mergeM c a) b = mergeM (mergeM a b) c ∧ mergeM (mergeM c b) a = mergeM (mergeM a b) c := by
  have ab := merge_formed a b ha hb
  have bc := merge_formed b c hb hc
  have h1 : mergeM (mergeM a c) b = mergeM (mergeM a b) c := by rw [merge_assoc a c b ha hc hb, merge_comm c b hc hb, ← merge_assoc a b c ha hb hc]
  have h2 : mergeM (mergeM b c) a = mergeM (mergeM a b) c := by rw [merge_comm _ a bc ha, ← merge_assoc a b c ha hb hc]
  refine ⟨h1, by rw [merge_comm b a hb ha], h2, ?_, ?_⟩
  · rw [merge_comm c a hc ha, h1]
  · rw [merge_comm c b hc hb, h2]
theorem all_ge {a b c : RMap} (ha : Formed a) (hb : Formed b) (hc : Formed c) :
    mergeM (mergeM (mergeM a b) c) a = mergeM (mergeM a b) c ∧ mergeM (mergeM (mergeM a b) c) b = mergeM (mergeM a b) c ∧ mergeM (mergeM (mergeM a b) c) c = mergeM (mergeM a b) c := by
  have ab := merge_formed a b ha hb
  have bc := merge_formed b c hb hc
  have hall := merge_formed _ c ab hc
  have h3 : mergeM (mergeM (mergeM a b) c) c = mergeM (mergeM a b) c := by rw [merge_assoc _ c c ab hc hc, merge_self c hc]
  have h1 : mergeM (mergeM (mergeM a b) c) a = mergeM (mergeM a b) c := by
    rw [merge_comm _ a hall ha, merge_assoc a b c ha hb hc, ← merge_assoc a a _ ha ha bc, merge_self a ha]
  have h2 : mergeM (mergeM (mergeM a b) c) b = mergeM (mergeM a b) c := by
    have e := (all_order ha hb hc).2.1
    rw [← e]
    have hba := merge_formed b a hb ha
    have hac := merge_formed a c ha hc
    rw [merge_comm _ b (merge_formed _ c hba hc) hb, merge_assoc b a c hb ha hc, ← merge_assoc b b _ hb hb hac, merge_self b hb]
  exact ⟨h1, h2, h3⟩

/-! a use that was not known stays -/
theorem remember {m : RMap} (h : Formed m) {d e : Int} {k : RKey} (ha : Allowed d [k]) (hb : Allowed e [k]) (hne : d ≠ e) (hn : nowR m d ≤ 1099511627776) (hn' : nowR m e ≤ 1099511627776) :
    65536 ≤ valueM (mergeM (forgetM m d [k]) (useM m e [k])) k := by
  have hf := forget_formed h ha hn
  have hu := use_formed h hb hn'
  have hd := dev_lt h ha.lo ha.hi
  have he := dev_lt h hb.lo hb.hi
  have hlf : look RIt.pl (forgetM m d [k]).items (k, e) = none := by
    rw [forget_items m d [k] h]
    cases hx : look RIt.pl m.items (k, e) with
    | none => rfl
    | some x =>
      have hk : x.key = k := congrArg Prod.fst (look_pl hx)
      simp [Option.filter, hk]
  have hlu : look RIt.pl (useM m e [k]).items (k, e) = some (refItem m e k) := by
    rw [use_look m e [k] h.items hb.nodup, if_pos (by simp)]
  have hnow : ∀ p : RPl, p = (k, e) → m.buried p < nowR m e := fun p hp => by
    subst hp
    rw [buried_eq]
    cases hg : look RGo.pl m.gone (k, e) with
    | none =>
      have := seen_get h e.toNat
      show 0 < nowR m e
      unfold nowR; omega
    | some g =>
      have h1 := (known_seq (h.gknown g (look_mem hg))).2.2.2
      rw [look_pl hg] at h1
      show g.seq < nowR m e
      unfold nowR; dsimp only at h1; omega
  have hbf : (forgetM m d [k]).buried (k, e) < nowR m e := by
    rw [buried_eq, forget_gone m d [k] h]
    cases hx : look RIt.pl m.items (k, e) with
    | none => have := hnow _ rfl; rw [buried_eq] at this; exact this
    | some x =>
      have h1 := (known_seq (h.iknown x (look_mem hx))).2.2.2
      rw [look_pl hx] at h1
      by_cases hk : x.key ∈ [k]
      · simp only [Option.filter, decide_eq_true hk, if_true]
        show x.seq < nowR m e
        unfold nowR; dsimp only at h1; omega
      · simp only [Option.filter, decide_eq_false hk]
        have := hnow _ rfl; rw [buried_eq] at this; exact this
  have hmem : refItem m e k ∈ (mergeM (forgetM m d [k]) (useM m e [k])).items := by
    refine look_mem (p := (k, e)) (pl := RIt.pl) ?_
    rw [merge_items _ _ hf hu, hlf, hlu]
    show above _ (some (refItem m e k)) = _
    rw [above_some, if_pos]
    rw [refItem_seq]
    have h1 : (useM m e [k]).buried (k, e) = m.buried (k, e) := rfl
    have h2 := hnow _ rfl
    rw [h1]
    omega
  have hv := refItem_val h hb.lo hb.hi k
  have hkd := Prod.mk.inj (refItem_pl m e k)
  have h1 := value_ge hmem
  rw [hkd.1] at h1
  rw [valIt_last ⟨by omega, hv.2⟩] at h1
  · omega
  · rw [hkd.2, refItem_seq, merge_seen _ _ hf hu]
    show max ((seenUp m d).getD e.toNat 0) ((seenUp m e).getD e.toNat 0) = _
    rw [up_get m d hd, up_get m e he, if_pos rfl, if_neg (by have := ha.lo; have := hb.lo; omega)]
    unfold nowR
    omega
end Go.Proofs.YtbjkkmabafaogaaGreatDoor
