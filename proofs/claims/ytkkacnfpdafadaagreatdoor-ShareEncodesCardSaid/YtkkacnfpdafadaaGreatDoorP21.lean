/-
  SKnow ShelfB RForg RDel RForg2
-/
import Derived.Test.YtkkacnfpdafadaaGreatDoorP16
import Derived.Test.YtkkacnfpdafadaaGreatDoorP19
import Derived.Shelf.Small.Bits
import Derived.Shelf.Small.Wraps
import Derived.Shelf.Strconv.Itoa0
import Derived.Shelf.Strings.Search1
import Derived.Shelf.Strings.Search2
import Derived.Shelf.Strings.Cut
import Derived.Shelf.LaysM
import Derived.Shelf.Strings.Shaped
import Derived.Shelf.Sort.Plain
import Derived.Shelf.GgClosure.StringsIndexFunc
import Derived.Ground.GgwProg
import Derived.Shelf.GgClosure.StringsIndexFuncTop
import Derived.Shelf.GgClosure.StringsRunes
import Derived.Shelf.Strings.FuncGrows
import Derived.Shelf.Slices.CompactS
import Derived.Shelf.Slices.In.SortNone
import Derived.Shelf.Spec.SearchS
import Derived.Ground.Names2Prog
import Derived.Test.YtkkacnfpdafadaaGreatDoorProg
import Derived.Test.YtkkacnfpdafadaaGreatDoorP18
namespace Go.Proofs.YtkkacnfpdafadaaGreatDoor
open Go.RowKit Go.Sort
set_option linter.unusedVariables false
set_option maxRecDepth 20000
attribute [local go_sem ↓] seal_append
attribute [local go_sem] opC upC

set_option maxHeartbeats 1000000 in
theorem know1_any (w : World) (n : Int) :
    Calls Tryz.prog 83 #[.int .i64 n] w fun e w' => e = .returned (.bool (!seenOk n)) ∧ Below w.heap.size w w' := by
  by_cases h0 : n < 0
  · have Hr := Lib.hid (show seenOk n = false by unfold seenOk; simp; omega)
    have d0 : decide (n < 0) = true := by simpa using h0
    go_enter Tryz.func83, Tryz.ntmps83
    go_wp2_with fail
    go_ret
    exact ⟨by rw [Hr.out]; rfl, Below.refl _ _⟩
  have d0 : decide (n < 0) = false := by simpa using h0
  by_cases h1 : n > 1099511627776
  · have Hr := Lib.hid (show seenOk n = false by unfold seenOk; simp; omega)
    have d1 : decide (n > 1099511627776) = true := by simpa using h1
    have h1' : (1099511627776 : Int) < n := h1
    go_enter Tryz.func83, Tryz.ntmps83
    go_wp2_with fail
    go_ret
    exact ⟨by rw [Hr.out]; rfl, Below.refl _ _⟩
  · have Hr := Lib.hid (show seenOk n = true by unfold seenOk; simp; omega)
    have d1 : decide (n > 1099511627776) = false := by simpa using h1
    have h1' : ¬ (1099511627776 : Int) < n := h1
    go_enter Tryz.func83, Tryz.ntmps83
    go_wp2_with fail
    go_ret
    exact ⟨by rw [Hr.out]; rfl, Below.refl _ _⟩
set_option maxHeartbeats 2000000 in
theorem indexKnow_any (w : World) (F : Blks) (v : Value) (l : List Int) (hv : Rows F w 1 v l.length (l.map eI)) (hl : l.length ≤ 1000000) :
    Calls Tryz.prog 119 #[v, .func (.func 83) #[] #[]] w fun e w' => (∃ i : Int, e = .returned (.int .i64 i) ∧ (0 ≤ i ↔ l.all seenOk = false) ∧ -1 ≤ i) ∧ Below w.heap.size w w' := by
  obtain ⟨n, hn⟩ : ∃ n, l.length = n := ⟨_, rfl⟩
  obtain ⟨a, cap, rfl, -⟩ := hv.shape
  have Hv := Lib.hid hv
  rw [hn] at hl ⊢
  have Hn := Lib.hid hn
  have H0 := Lib.hid (show Below w.heap.size w w from Below.refl _ _)
  clear hv hn
  go_enter Tryz.func119, Tryz.ntmps119
  go_wp2_with fail
  go_loopw [8] (fun i wr => ∃ k : Nat, k ≤ n ∧ i = .int .i64 (k : Int) ∧ Below w.heap.size w wr ∧ ∀ j (hj : j < l.length), j < k → seenOk l[j] = true) (fun i _ => n - (intOf i).toNat)
  case atStart => exact ⟨0, by omega, rfl, H0.out, fun j _ hj => by omega⟩
  case round =>
    obtain ⟨k, hk, rfl, hbw, hall⟩ := hrel
    have Hbw := Lib.hid hbw; have Hall := Lib.hid hall
    clear hbw hall
    by_cases hkn : k < n
    · have hkI : (k : Int) < (n : Int) := by omega
      have hkl : k < l.length := by rw [Hn.out]; exact hkn
      have hm := Hv.out.keep (w' := wr) fun b _ hlt => Hbw.out.block b hlt
      obtain ⟨b, off, rfl, -, -, hc⟩ := int_cell hm (by omega)
      have e0 := hc k hkl
      obtain ⟨x, hx⟩ : ∃ x, l[k] = x := ⟨_, rfl⟩
      rw [hx] at e0
      have V := Lib.hid (know1_any wr x)
      have Hx := Lib.hid hx
      obtain ⟨kk, hkk⟩ : ∃ kk, seenOk x = kk := ⟨_, rfl⟩
      rw [hkk] at V
      have Hkk := Lib.hid hkk
      clear hc hx hm hkk
      go_wp2_with fail
      refine V.out.mono ?_
      rintro e w1 ⟨rfl, hb1⟩
      have Hb1 := Lib.hid (Hbw.out.trans (hb1.mono Hbw.out.size))
      clear V hb1 e0
      cases kk with
      | true =>
        go_wp2_with fail
        go_roundw
        case rel => exact ⟨k + 1, by omega, by go_num, Hb1.out, fun j hj hjk => by
          rcases Nat.lt_succ_iff_lt_or_eq.1 hjk with h | h
          · exact Hall.out j hj h
          · subst h; rw [Hx.out]; exact Hkk.out⟩
        case measure => simp [intOf]; omega
      | false =>
        go_wp2_with fail
        go_ret
        refine ⟨⟨_, rfl, ⟨fun _ => ?_, fun _ => by omega⟩, by omega⟩, Hb1.out⟩
        rw [List.all_eq_false]
        exact ⟨l[k], List.getElem_mem hkl, by rw [Hx.out, Hkk.out]; simp⟩
    · have hkI : ¬ (k : Int) < (n : Int) := by omega
      have hall : l.all seenOk = true := by
        rw [List.all_eq_true]
        intro x hx
        obtain ⟨j, hj, rfl⟩ := List.mem_iff_getElem.1 hx
        exact Hall.out j hj (by rw [Hn.out] at hj; omega)
      have Hal := Lib.hid hall
      clear hall
      go_wp2_with fail
      go_ret
      exact ⟨⟨-1, rfl, ⟨fun h => by omega, fun h => by
        first
          | (rw [Hal.out] at h; cases h)
          | (obtain ⟨x, hx, hkx⟩ := h; have hz := List.all_eq_true.1 Hal.out x hx; simp [hkx] at hz)⟩, by omega⟩, Hbw.out⟩
set_option maxHeartbeats 1000000 in
theorem containsKnow_any (w : World) (F : Blks) (v : Value) (l : List Int) (hv : Rows F w 1 v l.length (l.map eI)) (hl : l.length ≤ 1000000) :
    Calls Tryz.prog 82 #[v, .func (.func 83) #[] #[]] w fun e w' => e = .returned (.bool (!l.all seenOk)) ∧ Below w.heap.size w w' := by
  have HI := Lib.hid (indexKnow_any w F v l hv hl)
  obtain ⟨a, cap, rfl, -⟩ := hv.shape
  obtain ⟨r, hr⟩ : ∃ r, l.all seenOk = r := ⟨_, rfl⟩
  rw [hr]
  obtain ⟨n, hn⟩ : ∃ n, l.length = n := ⟨_, rfl⟩
  rw [hn] at HI ⊢
  have Hr := Lib.hid hr
  clear hv hr hn
  go_enter Tryz.func82, Tryz.ntmps82
  go_wp2_with fail
  refine HI.out.mono ?_
  rintro e w1 ⟨⟨i, rfl, hi, -⟩, hb1⟩
  rw [Hr.out] at hi
  clear HI
  cases r with
  | true =>
    have hI : ¬ 0 ≤ i := fun h => by have := hi.1 h; cases this
    clear hi
    go_wp2_with fail
    go_ret
    exact ⟨ret_bool (by simpa using hI), hb1⟩
  | false =>
    have hI : 0 ≤ i := hi.2 rfl
    clear hi
    go_wp2_with fail
    go_ret
    exact ⟨ret_bool (by simp), hb1⟩
set_option maxHeartbeats 1000000 in
theorem knows_any (w : World) (F : Blks) (v : Value) (l : List Int) (hv : Rows F w 1 v l.length (l.map eI)) :
    Calls Tryz.prog 39 #[v] w fun e w' => e = .returned (.bool (knowsR l)) ∧ Below w.heap.size w w' := by
  obtain ⟨n, hn⟩ : ∃ n, l.length = n := ⟨_, rfl⟩
  have hv0 := hv
  obtain ⟨a, cap, rfl, -⟩ := hv.shape
  by_cases h8 : n = 8
  · subst h8
    have HC := Lib.hid (containsKnow_any w F _ l hv (by omega))
    obtain ⟨r, hr⟩ : ∃ r, l.all seenOk = r := ⟨_, rfl⟩
    have Hk := Lib.hid (show knowsR l = r by unfold knowsR; rw [hr, hn]; simp)
    rw [hr, hn] at HC
    rw [hn]
    clear hv hv0 hr hn
    go_enter Tryz.func39, Tryz.ntmps39
    go_wp2_with fail
    refine HC.out.mono ?_
    rintro e w1 ⟨rfl, hb1⟩
    clear HC
    cases r <;>
    · go_wp2_with fail
      go_ret
      exact ⟨by rw [Hk.out]; rfl, hb1⟩
  · have Hk := Lib.hid (show knowsR l = false by unfold knowsR; rw [hn]; simp [h8])
    have hI : ¬ (n : Int) = 8 := by omega
    have hI2 : ((n : Int) == 8) = false := by simpa using hI
    rw [hn]
    clear hv hv0 hn
    go_enter Tryz.func39, Tryz.ntmps39
    go_wp2_with fail
    go_ret
    exact ⟨by rw [Hk.out]; rfl, Below.refl _ _⟩
set_option maxHeartbeats 1000000 in
theorem isDev_any (w : World) (d : Int) :
    Calls Tryz.prog 48 #[.int .i64 d] w fun e w' => e = .returned (.bool (devOk d)) ∧ w = w' := by
  by_cases h0 : d < 0
  · have Hr := Lib.hid (show devOk d = false by unfold devOk; simp; omega)
    have h0' : ¬ d ≥ 0 := by omega
    have h0'' : ¬ 0 ≤ d := by omega
    go_enter Tryz.func48, Tryz.ntmps48
    go_wp2_with fail
    go_ret
    exact ⟨by rw [Hr.out]; first | done | rfl, rfl⟩
  have h0' : d ≥ 0 := by omega
  have h0'' : 0 ≤ d := by omega
  by_cases h8 : d < 8
  · have Hr := Lib.hid (show devOk d = true by unfold devOk; simp; omega)
    go_enter Tryz.func48, Tryz.ntmps48
    go_wp2_with fail
    go_ret
    exact ⟨by rw [Hr.out]; first | done | rfl, rfl⟩
  · have Hr := Lib.hid (show devOk d = false by unfold devOk; simp; omega)
    go_enter Tryz.func48, Tryz.ntmps48
    go_wp2_with fail
    go_ret
    exact ⟨by rw [Hr.out]; first | done | rfl, rfl⟩
end Go.Proofs.YtkkacnfpdafadaaGreatDoor

namespace Go.Proofs
open Go.Shelf
end Go.Proofs

namespace Go.Proofs.YtkkacnfpdafadaaGreatDoor
open Go.RowKit
set_option linter.unusedVariables false
set_option maxRecDepth 20000
attribute [local go_sem ↓] seal_append

structure KeepG (B : Nat) (w w' : World) : Prop where
  bel : Below B w w'
  blk : ∀ b L t, Blk w b L t → t ≠ 95 → t ≠ 29 → Blk w' b L t
theorem KeepG.own {B : Nat} {w w' : World} (h : KeepG B w w') {base : Nat} {e : TypeId} {k n : Nat} {v : Value} {xs : List Value} (ho : w.ownsRow base e k v n xs) (h1 : e ≠ 95) (h2 : e ≠ 29) : w'.ownsRow base e k v n xs := by
  refine ⟨ho.1, ?_⟩
  rcases ho.2 with h0 | ⟨g, cap, cur, hv, hb, hg, hr⟩
  · exact .inl h0
  · refine .inr ⟨g, cap, cur, hv, hb, ?_, hr⟩
    have := h.blk g cur.toList e hg h1 h2
    unfold Blk at this
    simpa using this
theorem KeepG.trans {B : Nat} {a b c : World} (h : KeepG B a b) (k : KeepG B b c) : KeepG B a c := ⟨h.bel.trans k.bel, fun x L t hx h1 h2 => k.blk x L t (h.blk x L t hx h1 h2) h1 h2⟩

end Go.Proofs.YtkkacnfpdafadaaGreatDoor

namespace Go.Proofs.YtkkacnfpdafadaaGreatDoor
open Go.RowKit
set_option linter.unusedVariables false
set_option maxRecDepth 20000

structure KeepI (B : Nat) (w w' : World) : Prop where
  bel : Below B w w'
  same : ∀ b, b < w.heap.size → (∀ L, ¬ Blk w b L 50) → w'.heap[b]? = w.heap[b]?
theorem KeepI.blk {B : Nat} {w w' : World} (h : KeepI B w w') (b : Nat) (L : List Value) (t : TypeId) (hb : Blk w b L t) (hne : t ≠ 50) : Blk w' b L t := hb.keep (h.same b hb.lt fun M hM => hne (hb.inj hM).2)
theorem KeepI.refl (B : Nat) (w : World) : KeepI B w w := ⟨Below.refl _ _, fun _ _ _ => rfl⟩
theorem KeepI.trans {B : Nat} {a b c : World} (h : KeepI B a b) (k : KeepI B b c) : KeepI B a c :=
  ⟨h.bel.trans k.bel, fun x hx hn => (k.same x (Nat.lt_of_lt_of_le hx h.bel.size) fun L hL => hn L ((h.same x hx hn).symm.trans hL)).trans (h.same x hx hn)⟩
theorem KeepI.alloc {B : Nat} {w : World} (hB : B ≤ w.heap.size) (o : Obj) : KeepI B w (w.alloc o) := ⟨(Below.refl B w).alloc hB o, fun b hb _ => Below.heap_alloc _ _ _ hb⟩
theorem KeepI.set {B : Nat} {w : World} {g i : Nat} {L : List Value} (hg : Blk w g L 50) (hB : B ≤ g) (u : Value) : KeepI B w (w.setCell ⟨g, i, none⟩ u) :=
  ⟨(Below.refl B w).setCell hB u, fun b hb hn => Below.heap_setCell _ _ _ _ fun e => hn L (by rw [e]; exact hg)⟩
structure KeepGI (B B2 : Nat) (w w' : World) : Prop where
  bel : Below B w w'
  blk : ∀ b L t, Blk w b L t → t ≠ 95 → t ≠ 29 → t ≠ 50 → Blk w' b L t
  low : ∀ b, b < B2 → b < w.heap.size → (∀ L, ¬ Blk w b L 50) → w'.heap[b]? = w.heap[b]?
theorem KeepGI.refl (B B2 : Nat) (w : World) : KeepGI B B2 w w := ⟨Below.refl _ _, fun _ _ _ h _ _ _ => h, fun _ _ _ _ => rfl⟩
theorem KeepGI.trans {B B2 : Nat} {a b c : World} (h : KeepGI B B2 a b) (k : KeepGI B B2 b c) : KeepGI B B2 a c :=
  ⟨h.bel.trans k.bel, fun x L t hx h1 h2 h3 => k.blk x L t (h.blk x L t hx h1 h2 h3) h1 h2 h3, fun x hx hxs hn => (k.low x hx (Nat.lt_of_lt_of_le hxs h.bel.size) fun L hL => hn L ((h.low x hx hxs hn).symm.trans hL)).trans (h.low x hx hxs hn)⟩
theorem KeepG.gi {B B2 : Nat} {w w' : World} (h : KeepG B2 w w') (hB : B ≤ B2) : KeepGI B B2 w w' := ⟨h.bel.mono hB, fun x L t hx h1 h2 _ => h.blk x L t hx h1 h2, fun x hx _ _ => h.bel.block x hx⟩
theorem KeepI.gi {B B2 : Nat} {w w' : World} (h : KeepI B w w') : KeepGI B B2 w w' := ⟨h.bel, fun x L t hx _ _ h3 => h.blk x L t hx h3, fun x _ hxs hn => h.same x hxs hn⟩
theorem KeepGI.own {B B2 : Nat} {w w' : World} (h : KeepGI B B2 w w') {base : Nat} {e : TypeId} {k n : Nat} {v : Value} {xs : List Value} (ho : w.ownsRow base e k v n xs) (h1 : e ≠ 95) (h2 : e ≠ 29) (h3 : e ≠ 50) : w'.ownsRow base e k v n xs := by
  refine ⟨ho.1, ?_⟩
  rcases ho.2 with h0 | ⟨g, cap, cur, hv, hb, hg, hr⟩
  · exact .inl h0
  · refine .inr ⟨g, cap, cur, hv, hb, ?_, hr⟩
    have := h.blk g cur.toList e hg h1 h2 h3
    unfold Blk at this
    simpa using this
theorem flat_set4 (x : RIt) (rest : List Value) : ∀ (cl : List RIt) (i : Nat), i < cl.length →
    ((((cl.flatMap encIt ++ rest).set (i * 4) (.string ⟨x.key.toArray⟩)).set (i * 4 + 1) (.int .i64 x.dev)).set (i * 4 + 2) (.int .i64 x.seq)).set (i * 4 + 3) (.int .i64 x.val) = (cl.set i x).flatMap encIt ++ rest
  | [], i, h => by simp at h
  | y :: cl, 0, _ => rfl
  | y :: cl, i + 1, h => by
    have := flat_set4 x rest cl i (by simpa using h)
    rw [List.set_cons_succ, List.flatMap_cons, List.flatMap_cons, List.append_assoc, List.append_assoc, ← this]
    have e : ∀ (M : List Value) (j : Nat) (u : Value), (encIt y ++ M).set ((i + 1) * 4 + j) u = encIt y ++ M.set (i * 4 + j) u := fun M j u => by
      rw [List.set_append_right _ _ (by show 4 ≤ _; omega)]
      congr 2
      show (i + 1) * 4 + j - 4 = _
      omega
    have e0 : ∀ (M : List Value) (u : Value), (encIt y ++ M).set ((i + 1) * 4) u = encIt y ++ M.set (i * 4) u := fun M u => e M 0 u
    rw [e0, e, e, e]

def IdxPost (pd : RIt → Bool) (l : List RIt) (St : List RIt → World → Prop) (e : Ending) (w' : World) : Prop :=
  (∃ k x, l[k]? = some x ∧ e = .returned (.int .i64 ((k : Nat) : Int)) ∧ pd x = true ∧ (∀ y ∈ l.take k, pd y = false) ∧ St (l.take (k + 1)) w') ∨ (e = .returned (.int .i64 (-1)) ∧ (∀ x ∈ l, pd x = false) ∧ St l w')
theorem take_all (pd : RIt → Bool) (l : List RIt) (k : Nat) (h : ∀ j (h : j < l.length), j < k → pd l[j] = false) : ∀ y ∈ l.take k, pd y = false := fun y hy => by
  obtain ⟨j, hj, rfl⟩ := List.getElem_of_mem hy
  rw [List.getElem_take]
  exact h j (by simp at hj; omega) (by simp at hj; omega)
theorem blk_setCells {B g : Nat} (hB : B ≤ g) : ∀ (vs : List Value) (o : Nat) (w : World) (L : List Value), Blk w g L 50 → ∃ L', Blk (w.setCells g o vs) g L' 50 ∧ L'.length = L.length ∧ (∀ p, p ≤ o → L'.take p = L.take p) ∧ KeepI B w (w.setCells g o vs)
  | [], o, w, L, h => ⟨L, h, rfl, fun _ _ => rfl, KeepI.refl _ _⟩
  | v :: vs, o, w, L, h => by
    obtain ⟨L', h1, h2, h3, h4⟩ := blk_setCells hB vs (o + 1) (w.setCell ⟨g, o, none⟩ v) (L.set o v) (h.set o v)
    refine ⟨L', h1, by simpa using h2, fun p hp => ?_, (KeepI.set h hB v).trans h4⟩
    rw [h3 p (by omega), List.take_set_of_le hp]
theorem run_clear_items {B : Nat} (w : World) (ty : TypeId) (g o n c : Nat) (L : List Value) (h : Blk w g L 50) (hB : B ≤ g) (ho : o + n * 4 ≤ L.length) :
    ∃ w' L', (Builtin.clear_ #[28] ty #[.slice (some ⟨g, o, none⟩) n c]).run Tryz.prog w = .ok (.tuple #[]) w' ∧ Blk w' g L' 50 ∧ L'.length = L.length ∧ (∀ p, p ≤ o ∨ n = 0 → L'.take p = L.take p) ∧ KeepI B w w' := by
  cases n with
  | zero =>
    refine ⟨w, L, ?_, h, rfl, fun _ _ => rfl, KeepI.refl _ _⟩
    simp [Builtin.clear_, run_underlying Tryz.underlying28]
  | succ m =>
    obtain ⟨zs, hzs⟩ : ∃ zs, (Builtin.zeroCells (Value.agg #[.string ⟨#[]⟩, .int .i64 0, .int .i64 0, .int .i64 0]).cells (m + 1)).toList = zs := ⟨_, rfl⟩
    have hzl : zs.length = (m + 1) * 4 := by rw [← hzs]; simp [Builtin.zeroCells, Value.cells]
    have hone : ∀ v ∈ zs, v.oneCell' = true := by
      intro v hv
      rw [← hzs] at hv
      simp only [Builtin.zeroCells, Value.cells, Array.toList_map, List.mem_map] at hv
      obtain ⟨k, -, rfl⟩ := hv
      have : k % 4 = 0 ∨ k % 4 = 1 ∨ k % 4 = 2 ∨ k % 4 = 3 := by omega
      rcases this with e | e | e | e <;> simp [e, Value.oneCell']
    have hst := run_storeCells_cells (P := Tryz.prog) g o zs 0 w (fun j hj => by
      rw [Nat.add_zero, h.cell, List.getElem?_eq_getElem (by omega)]; rfl) (fun j _ => h.free _) hone
    obtain ⟨L', h1, h2, h3, h4⟩ := blk_setCells hB zs (o + 0) w L h
    exact ⟨_, L', by simp [Builtin.clear_, run_underlying Tryz.underlying28, hzs, hst], h1, h2, fun p hp => h3 p (by omega), h4⟩

theorem flat_takes : ∀ (cl : List RIt) (i : Nat), (cl.flatMap encIt).take (i * 4) = (cl.take i).flatMap encIt
  | [], i => by simp
  | y :: cl, 0 => rfl
  | y :: cl, i + 1 => by
    rw [List.take_succ_cons, List.flatMap_cons, List.flatMap_cons, ← flat_takes cl i, show (i + 1) * 4 = (encIt y).length + i * 4 from by rw [encIt_len]; omega, List.take_length_add_append]
theorem take_filter2 {α : Type} (p : α → Bool) (l : List α) (k : Nat) (h : k < l.length) : (l.take (k + 1)).filter p = (l.take k).filter p ++ (if p l[k] then [l[k]] else []) := by
  rw [List.take_succ_eq_append_getElem h, List.filter_append]
  congr 1
  by_cases hp : p l[k] = true
  · rw [if_pos hp, List.filter_cons, if_pos hp]; rfl
  · rw [if_neg hp, List.filter_cons, if_neg hp]; rfl
structure DelSt (St : List RIt → World → Prop) (pd : RIt → Bool) (B B2 g : Nat) (w wr : World) (l : List RIt) (rest : List Value) (cl : List RIt) (i j : Nat) : Prop where
  blk : Blk wr g (cl.flatMap encIt ++ rest) 50
  len : cl.length = l.length
  drop : cl.drop j = l.drop j
  take : cl.take i = (l.take j).filter fun x => !pd x
  ile : i ≤ j
  ilen : i = ((l.take j).filter fun x => !pd x).length
  st : St (l.take j) wr
  keep : KeepGI B B2 w wr

def RowKept (g : Nat) (m : Nat) (kl : List RIt) (w' : World) : Prop := ∃ L', Blk w' g L' 50 ∧ L'.length = m ∧ L'.take (kl.length * 4) = kl.flatMap encIt
end Go.Proofs.YtkkacnfpdafadaaGreatDoor

namespace Go.Proofs.YtkkacnfpdafadaaGreatDoor
open Go.RowKit Go.Sort
set_option linter.unusedVariables false
set_option maxRecDepth 20000

end Go.Proofs.YtkkacnfpdafadaaGreatDoor
