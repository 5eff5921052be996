/-
  RCntS
-/
import Derived.Shelf.SlSortCmp.NoneTotal
import Derived.Test.YtohahloghmanpaaGreatDoorZB36
import Derived.Test.YtohahloghmanpaaGreatDoorZB20
import Derived.Test.YtohahloghmanpaaGreatDoorZB23
import Derived.Test.YtohahloghmanpaaGreatDoorZB31
namespace Go.Proofs.YtohahloghmanpaaGreatDoor
open Go.RowKit Go.Lib Go.Sort Go.Shelf
set_option linter.unusedVariables false
set_option maxRecDepth 20000
attribute [local go_sem] opC upC

def encCn (x : RCn) : List Value := [.string ⟨x.1.toArray⟩, .int .i64 x.2]
theorem encCn_len (x : RCn) : (encCn x).length = 2 := rfl
theorem cn_closure (x y : RCn) (W : World) :
    Calls Tryz.prog 15 #[.agg #[.string ⟨x.1.toArray⟩, .int .i64 x.2], .agg #[.string ⟨y.1.toArray⟩, .int .i64 y.2]] W fun e w' => e = .returned (.int .i64 (kcmp x.1 y.1)) ∧ ∃ q os', w' = grow (W.drewN q) os' := by
  have HC := Lib.hid (fun W' => cmpS_any W' x.1 y.1)
  generalize kcmp x.1 y.1 = r at HC ⊢
  go_enter Tryz.func15, Tryz.ntmps15
  go_wp2_with fail
  refine (HC.out _).mono ?_
  rintro e w' ⟨rfl, rfl⟩
  go_wp2_with fail
  go_ret
  exact ⟨rfl, 0, _, by rw [alloc_eq_grow, alloc_eq_grow, grow_grow]; rfl⟩
theorem cn_lt (x y : RCn) : ltOf (fun x y : RCn => kcmp x.1 y.1) x y = decide (x.1 < y.1) := by
  unfold ltOf kcmp
  by_cases h1 : x.1 < y.1
  · simp [h1]
  · by_cases h2 : y.1 < x.1 <;> simp [h1, h2]
theorem cn_swo : SWO (ltOf fun x y : RCn => kcmp x.1 y.1) where
  irrefl x := by rw [cn_lt]; exact decide_eq_false (klt_irrefl x.1)
  trans x y z h1 h2 := by
    rw [cn_lt] at *
    simp only [decide_eq_true_eq] at *
    exact klt_trans h1 h2
  ntrans x y z h1 h2 := by
    rw [cn_lt] at *
    simp only [decide_eq_false_iff_not] at *
    intro h
    by_cases hxy : y.1 < x.1
    · by_cases hyz : z.1 < y.1
      · exact klt_asymm h (klt_trans hyz hxy)
      · rw [klt_tri h2 hyz] at hxy
        exact klt_asymm h hxy
    · rw [klt_tri h1 hxy] at h
      exact h2 h
theorem flatK_eq (d : List RCn) : (flatK encCn 2 d.toArray).toList = d.flatMap encCn := by
  apply List.ext_getElem?
  intro t
  by_cases ht : t < d.length * 2
  · have hd : t / 2 < d.length := by omega
    have e : t = t / 2 * 2 + t % 2 := by omega
    have h1 := flat_get encCn 2 encCn_len d (t / 2) (t % 2) hd (by omega)
    rw [← e] at h1
    rw [h1]
    have h2 := get_flatK encCn 2 d.toArray t (by simpa using ht)
    have hl : t < (flatK encCn 2 d.toArray).size := by unfold flatK; simpa using ht
    rw [getElem!_pos (flatK encCn 2 d.toArray) t hl, getElem!_pos d.toArray (t / 2) (by simpa using hd)] at h2
    rw [Array.getElem?_toList, Array.getElem?_eq_getElem hl, h2]
    have hm : t % 2 < (encCn d[t / 2]).length := by rw [encCn_len]; omega
    rw [List.getElem?_eq_getElem hm]
    simp only [List.getElem_toArray]
    rw [getElem!_pos (encCn d[t / 2]) (t % 2) hm]
  · rw [List.getElem?_eq_none (by unfold flatK; simp; omega), List.getElem?_eq_none (by rw [flat_length encCn 2 encCn_len]; omega)]
theorem grownBy_sortedK {w : World} {g n : Nat} {os : Array Obj} (d : Array RCn) : w.grownBy (sortWorldK encCn 2 w g 0 n d os) (some g) := by
  unfold sortWorldK putRowK
  refine ⟨rfl, rfl, rfl, by simp, fun k hk hne => ?_⟩
  rw [heap_grow_old _ _ (by simpa using hk)]
  have : g ≠ k := fun e => hne (by rw [e])
  simp [putRow, mapBlock, Sort.ahead, Array.getElem?_modify, this]
theorem ownsRow_sortedK {w : World} {base g cap n : Nat} {e : TypeId} {os : Array Obj} {cur : Array Value} {ss ts : List RCn} (hl : ts.length = ss.length) (hbase : base ≤ g) (hb : w.heap[g]? = some (.cells cur e (0, 0)))
    (h1 : ss.length ≤ cap) (h2 : cap ≤ maxLen) (h3 : cur.size = cap * 2) :
    (sortWorldK encCn 2 w g 0 n ts.toArray os).ownsRow base e 2 (.slice (some ⟨g, 0, none⟩) ss.length cap) ss.length (ts.flatMap encCn) := by
  have hg : g < w.heap.size := (Array.getElem?_eq_some_iff.1 hb).1
  have hh : (sortWorldK encCn 2 w g 0 n ts.toArray os).heap[g]? = some (.cells (putCells id 0 (flatK encCn 2 ts.toArray) cur) e (0, 0)) := by
    unfold sortWorldK putRowK
    rw [heap_grow_old _ _ (by simpa using hg)]
    simp [putRow, mapBlock, Sort.ahead, Array.getElem?_modify, hb, onCells]
  have hs : (flatK encCn 2 ts.toArray).size = ts.length * 2 := by unfold flatK; simp
  refine ⟨by rw [flat_length encCn 2 encCn_len, hl], .inr ⟨g, cap, _, rfl, hbase, hh, h1, h2, by simp [putCells, h3], ?_⟩⟩
  rw [← hl, ← flatK_eq]
  apply List.ext_getElem?
  intro j
  by_cases hj : j < ts.length * 2
  · rw [List.getElem?_take_of_lt hj, Array.getElem?_toList, Array.getElem?_toList]
    have hjs : j < (flatK encCn 2 ts.toArray).size := by rw [hs]; exact hj
    simp [putCells, hs, hj, show j < cur.size by omega]
  · rw [List.getElem?_take_eq_none (by omega), List.getElem?_eq_none (by rw [Array.length_toList, hs]; omega)]
theorem holdsK_of {w : World} {g : Nat} {cur : Array Value} {e : TypeId} {ss : List RCn} (hb : w.heap[g]? = some (.cells cur e (0, 0))) (ht : cur.toList.take (ss.length * 2) = ss.flatMap encCn) : HoldsK encCn 2 w g 0 ss.toArray := by
  unfold HoldsK
  intro j hj
  have hj' : j < ss.length * 2 := by unfold flatK at hj; simpa using hj
  refine ⟨?_, by simp [World.frozen?, hb]⟩
  have h1 : (cur.toList.take (ss.length * 2))[j]? = (ss.flatMap encCn)[j]? := by rw [ht]
  rw [List.getElem?_take_of_lt hj', ← flatK_eq, Array.getElem?_toList, Array.getElem?_toList, Array.getElem?_eq_getElem hj] at h1
  simp only [World.cell?, hb, Nat.zero_add]
  simp only [Option.isSome_none, Bool.false_eq_true, if_false]
  rw [h1, getElem!_pos (flatK encCn 2 ss.toArray) j hj]
  rfl
instance : Inhabited RCn := ⟨([], 0)⟩
theorem isAggCn : ∀ w, (isAgg 39).run Tryz.prog w = .ok true w := by intro w; kernel_rfl
theorem sizeCn : ∀ w, (Go.sizeOf 39).run Tryz.prog w = .ok 2 w := by intro w; kernel_rfl
def CnSorted (w : World) (base : Nat) (v : Value) (l : List RCn) (e : Ending) (w' : World) : Prop :=
  e = .returned (.tuple #[]) ∧ ∃ s : List RCn, s.Perm l ∧ (s.Pairwise fun a b => ¬ b.1 < a.1) ∧ w'.ownsRow base 39 2 v l.length (s.flatMap encCn) ∧ Below base w w'
theorem sortFunc_any (w : World) (base : Nat) (v : Value) (l : List RCn) (hown : w.ownsRow base 39 2 v l.length (l.flatMap encCn)) (hbs : base ≤ w.heap.size) (hl : l.length ≤ 1000000) :
    Calls Tryz.prog 14 #[v, .func (.func 15) #[] #[]] w (CnSorted w base v l) := by
  rcases hown.2 with ⟨rfl, hz⟩ | ⟨g, cap, cur, rfl, hbase, hgb, r1, r2, r3, r4⟩
  · obtain rfl : l = [] := List.length_eq_zero_iff.1 hz
    exact (AnyF.slices_SortFunc_none Tryz.laysSortFunc none 0 (.func (.func 15) #[] #[]) w).mono fun e w' h => by
      obtain ⟨rfl, rfl⟩ := h
      exact ⟨rfl, [], List.Perm.refl _, List.Pairwise.nil, hown, Below.refl _ _⟩
  · have eg : ∀ args w, (callFunc 15 args).run Tryz.prog w = .ok (.enter 15 args) w := enters_of Tryz.func15 (by kernel_rfl) rfl
    have hH := holdsK_of (ss := l) hgb r4
    have hgl : g < w.heap.size := (Array.getElem?_eq_some_iff.1 hgb).1
    have hcon := AnyQ.slices_SortFunc Tryz.laysSortFunc 2 isAggCn sizeCn encCn encCn_len (fun x v hv => by simp [encCn] at hv; rcases hv with rfl | rfl <;> rfl) (fun x y : RCn => kcmp x.1 y.1) cn_swo 15 #[] g 0 cap l.toArray w eg (fun _ _ _ _ x y => cn_closure x y _) hH hgl (by simp; omega)
    change Calls Tryz.prog 14 _ _ _ at hcon
    simp only [List.size_toArray] at hcon
    refine hcon.mono ?_
    rintro e w' ⟨rfl, d', n, os, hp, hs, rfl⟩
    obtain ⟨s, rfl⟩ : ∃ s : List RCn, d' = s.toArray := ⟨d'.toList, by simp⟩
    have hsz : s.length = l.length := by simpa using hp.1
    have hperm : s.Perm l := by
      have := hp.2.2
      have h2 : (List.take l.length s).Perm l := by simpa [hsz] using this
      rwa [List.take_of_length_le (by omega)] at h2
    refine ⟨rfl, s, hperm, ?_, ownsRow_sortedK hsz hbase hgb r1 r2 r3, (Below.refl base w).grown (grownBy_sortedK _) hbs (fun j hj => by cases hj; exact hbase)⟩
    refine List.pairwise_iff_getElem.2 fun i j hi hj hij => ?_
    have := hs i j (Nat.zero_le _) hij (by simpa [hsz] using hj)
    rw [cn_lt, decide_eq_false_iff_not, getElem!_pos _ j (by simpa using hj), getElem!_pos _ i (by simpa using hi)] at this
    simpa using this
end Go.Proofs.YtohahloghmanpaaGreatDoor
