/- A row of slices of bytes, copied by append, and one more appended; the region that does it in any order. -/
import Derived.Test.YtmimplmeccoahaaDoorKeepD
import Derived.Deep.Upon
namespace Go.Proofs.YtmimplmeccoahaaDoor
open Go.RowKit
set_option linter.unusedVariables false
set_option maxRecDepth 20000
attribute [local go_sem] opC upC

theorem Bytes.oneCell {F : Blks} {w : World} {y : Value} {l : List UInt8} (h : Bytes F w y l) : y.oneCell' = true := by
  obtain ⟨a, cap, rfl, -⟩ := h
  rfl

theorem app_rows (W : World) (base : Nat) (v : Value) (n : Nat) (xs : List Value) (hown : W.ownsRow base 30 1 v n xs) (F : Blks) (x : Value) (S : List (List UInt8)) (hx : RowsF F W x S) (hlen : n + S.length < 1000000000) (hb : base ≤ W.heap.size) :
    ∃ v' W' news, news.length = S.length ∧ (∀ i (h : i < S.length), ∃ y, news[i]? = some y ∧ Bytes F W y S[i]) ∧ (AP #[37, 37] 37 #[v, x]).run Tryd.prog W = .ok v' W' ∧ W'.ownsRow base 30 1 v' (n + S.length) (xs ++ news) ∧ W.grownBy W' v.ownBlock := by
  obtain ⟨i0, hi, hz0, hz1, hz2⟩ := info_parts infoBs
  obtain ⟨a, cap, rfl, hx⟩ := hx
  rcases hx with rfl | ⟨g, rfl, hF, hg, hc⟩
  · cases a with
    | none =>
      refine ⟨v, W, [], rfl, fun i h => by simp at h, ?_, by simpa using hown, World.grownBy.refl _ _⟩
      have hv : ∃ b m c, v = .slice b m c ∧ m ≤ c := by
        rcases hown.2 with ⟨rfl, h0⟩ | ⟨g, cap', cur, rfl, hlo, hb', hc, r⟩
        · exact ⟨none, 0, 0, rfl, Nat.le_refl _⟩
        · exact ⟨_, _, _, rfl, hc⟩
      obtain ⟨b, m, c, rfl, hmc⟩ := hv
      exact run_append_nothing W 37 37 37 30 i0 Tryd.underlying37 hi b m c hmc _ (Src.ofNil W Tryd.underlying37 cap)
    | some ad =>
      obtain ⟨v', w', hr, h1, h2, h3⟩ := run_append_own (P := Tryd.prog) W base 37 37 30 i0 _ 1 24 Tryd.underlying37 hi hz0 hz1 hz2 rfl (by decide) v n xs hown ad 0 cap [] rfl (fun j u hj => by simp at hj) (fun u hu => by simp at hu) (by unfold maxLen; simp at hlen; omega) (by simp at hlen; omega) hb
      exact ⟨v', w', [], rfl, fun i h => by simp at h, hr, by simpa using h1, h2⟩
  · have hy : ∀ i (h : i < S.length), ((List.range S.length).map fun i => (W.cell? ⟨g, i, none⟩).getD undef)[i]? = some ((W.cell? ⟨g, i, none⟩).getD undef) := fun i h => by simp [h]
    generalize hnews : ((List.range S.length).map fun i => (W.cell? ⟨g, i, none⟩).getD undef) = news at hy
    have hnl : news.length = S.length := by rw [← hnews]; simp
    have hy2 : ∀ i (h : i < S.length), ∃ y, news[i]? = some y ∧ W.cell? ⟨g, i, none⟩ = some y ∧ Bytes F W y S[i] := fun i h => by
      obtain ⟨y, hy1, hy2⟩ := hc i h
      refine ⟨y, ?_, hy1, hy2⟩
      rw [hy i h, hy1]
      rfl
    obtain ⟨v', w', hr, h1, h2, h3⟩ := run_append_own (P := Tryd.prog) W base 37 37 30 i0 _ 1 24 Tryd.underlying37 hi hz0 hz1 hz2 rfl (by decide) v n xs hown ⟨g, 0, none⟩ S.length cap news (by omega)
      (fun j u hj => by
        have hjl : j < S.length := by have := (List.getElem?_eq_some_iff.1 hj).1; omega
        obtain ⟨y, h1, h2, -⟩ := hy2 j hjl
        rw [h1] at hj
        rw [Addr.add_lit, Nat.zero_add, h2]
        exact hj)
      (fun u hu => by
        obtain ⟨j, hj, hju⟩ := List.getElem_of_mem hu
        obtain ⟨y, h1, -, h2⟩ := hy2 j (by omega)
        rw [List.getElem?_eq_getElem hj] at h1
        simp at h1
        rw [← hju, h1]
        exact h2.oneCell)
      (by unfold maxLen; omega) (by omega) hb
    exact ⟨v', w', news, hnl, fun i h => by obtain ⟨y, h1, -, h2⟩ := hy2 i h; exact ⟨y, h1, h2⟩, hr, h1, h2⟩

theorem app_one (W : World) (base : Nat) (v : Value) (n : Nat) (xs : List Value) (hown : W.ownsRow base 30 1 v n xs) (o : Nat) (y : Value) (hy : W.cell? ⟨o, 0, none⟩ = some y) (h1 : y.oneCell' = true) (hlen : n < 1000000000) (hb : base ≤ W.heap.size) :
    ∃ a c W', (AP #[37, 37] 37 #[v, .slice (some ⟨o, 0, none⟩) 1 1]).run Tryd.prog W = .ok (.slice a (n + 1) c) W' ∧ W'.ownsRow base 30 1 (.slice a (n + 1) c) (n + 1) (xs ++ [y]) ∧ W.grownBy W' v.ownBlock := by
  obtain ⟨i0, hi, hz0, hz1, hz2⟩ := info_parts infoBs
  obtain ⟨v', w', hr, h2, h3, h4⟩ := run_append_own (P := Tryd.prog) W base 37 37 30 i0 _ 1 24 Tryd.underlying37 hi hz0 hz1 hz2 rfl (by decide) v n xs hown ⟨o, 0, none⟩ 1 1 [y] (by simp) (fun j u hj => by
      rw [Addr.add_lit]
      cases j with
      | zero => simpa [hy] using hj
      | succ j => simp at hj) (by simpa using h1) (by unfold maxLen; omega) (by omega) hb
  have hsh : ∃ a cap, v' = .slice a (n + 1) cap := by
    rcases h2.2 with ⟨_, h0⟩ | ⟨g, cap, cur, rfl, _⟩
    · omega
    · exact ⟨_, cap, rfl⟩
  obtain ⟨a, cap, rfl⟩ := hsh
  exact ⟨a, cap, w', hr, h2, h3⟩

theorem below_grown {B0 : Nat} {a w w' : World} {r : Option Nat} (h : Below B0 a w) (hg : w.grownBy w' r) (hB : B0 ≤ w.heap.size) (hr : ∀ g, r = some g → B0 ≤ g) : Below B0 a w' := h.grown hg hB hr

/-- the first append: onto an empty row -/
theorem app1 (W0 Wa : World) (hWa : Below W0.heap.size W0 Wa) (e0 : Nat) (he : Blk Wa e0 [] 30) (hle : W0.heap.size ≤ e0) (F : Blks) (vm : Value) (S : List (List UInt8)) (hm : RowsF F W0 vm S) (hF : ∀ b, F b → b < W0.heap.size) (hlen : S.length < 100000000) :
    ∃ v45 W' news, (AP #[37, 37] 37 #[.slice (some ⟨e0, 0, none⟩) 0 0, vm]).run Tryd.prog Wa = .ok v45 W' ∧ W'.ownsRow W0.heap.size 30 1 v45 S.length news ∧ (∀ i (h : i < S.length), ∃ y, news[i]? = some y ∧ Bytes F W' y S[i]) ∧ Below W0.heap.size W0 W' ∧ Wa.heap.size ≤ W'.heap.size ∧ (∀ b, b < Wa.heap.size → b ≠ e0 → W'.heap[b]? = Wa.heap[b]?) := by
  have hown : Wa.ownsRow W0.heap.size 30 1 (.slice (some ⟨e0, 0, none⟩) 0 0) 0 [] :=
    ⟨rfl, .inr ⟨e0, 0, #[], rfl, hle, he, Nat.le_refl _, by unfold maxLen; omega, rfl, rfl⟩⟩
  have hma := hm.keep (w' := Wa) (fun b _ hb => hWa.block b hb) hWa.size
  obtain ⟨v', W', news, hnl, hy, hr, ho, hg⟩ := app_rows Wa W0.heap.size _ 0 [] hown F vm S hma (by omega) hWa.size
  simp only [Nat.zero_add, List.nil_append] at ho
  have hb' : Below W0.heap.size W0 W' := hWa.grown hg hWa.size (fun g h => by simp [Value.ownBlock] at h; omega)
  refine ⟨v', W', news, hr, ho, fun i hi => ?_, hb', hg.size, fun b hb hne => hg.block b hb (fun e => hne (by simp [Value.ownBlock] at e; omega))⟩
  obtain ⟨y, h1, h2⟩ := hy i hi
  exact ⟨y, h1, h2.keep fun b hb _ => by rw [hb'.block b (hF b hb), hWa.block b (hF b hb)]⟩

/-- the second one: one slice more -/
theorem app2 (W0 Wb : World) (hWb : Below W0.heap.size W0 Wb) (v45 : Value) (news : List Value) (F : Blks) (S : List (List UInt8)) (hown : Wb.ownsRow W0.heap.size 30 1 v45 S.length news) (hel : ∀ i (h : i < S.length), ∃ y, news[i]? = some y ∧ Bytes F Wb y S[i]) (hF : ∀ b, F b → b < W0.heap.size) (hlen : S.length < 100000000)
    (o : Nat) (v : Value) (l : List UInt8) (hc : Wb.cell? ⟨o, 0, none⟩ = some v) (G : Blks) (hB : Bytes G W0 v l) (hG : ∀ b, G b → b < W0.heap.size) :
    ∃ a c W', (AP #[37, 37] 37 #[v45, .slice (some ⟨o, 0, none⟩) 1 1]).run Tryd.prog Wb = .ok (.slice a (S.length + 1) c) W' ∧ RowsF (fun b => b < W'.heap.size ∧ (F b ∨ G b ∨ W0.heap.size ≤ b)) W' (.slice a (S.length + 1) c) (S ++ [l]) ∧ Below W0.heap.size W0 W' ∧ Wb.heap.size ≤ W'.heap.size := by
  obtain ⟨a, c, W', hr, ho, hg⟩ := app_one Wb W0.heap.size v45 S.length news hown o v hc hB.oneCell (by omega) hWb.size
  have hb' : Below W0.heap.size W0 W' := hWb.grown hg hWb.size (fun g h => by
    rcases hown.2 with ⟨rfl, h0⟩ | ⟨g', cap', cur, rfl, hlo, r⟩
    · cases h
    · simp [Value.ownBlock] at h; omega)
  have hz := hb'.size
  have hnl : news.length = S.length := by have := hown.1; omega
  refine ⟨a, c, W', hr, ⟨a, c, by simp, .inr ?_⟩, hb', hg.size⟩
  obtain ⟨-, h2⟩ := ho
  rcases h2 with ⟨h2, h0⟩ | ⟨g, cap, cur, hv, hlo, hg', hcc, hm, hs, ht⟩
  · omega
  · simp at hv
    obtain ⟨rfl, rfl⟩ := hv
    have hgl := lt_of_block hg'
    refine ⟨g, rfl, ⟨hgl, .inr (.inr hlo)⟩, hgl, fun i hi => ?_⟩
    have hcell : ∀ y, (news ++ [v])[i]? = some y → W'.cell? ⟨g, i, none⟩ = some y := fun y hy => by
      have hi' : i < S.length + 1 := by simpa using hi
      have h1 : (cur.toList.take ((S.length + 1) * 1))[i]? = some y := by rw [ht]; exact hy
      rw [List.getElem?_take, if_pos (by omega)] at h1
      unfold World.cell?
      simpa [hg'] using h1
    by_cases hlt : i < S.length
    · obtain ⟨y, hy, hby⟩ := hel i hlt
      refine ⟨y, hcell y (by rw [List.getElem?_append_left (by omega)]; exact hy), ?_⟩
      rw [List.getElem_append_left hlt]
      have h3 := hby.keep (w' := W') fun b hb _ => by rw [hb'.block b (hF b hb), hWb.block b (hF b hb)]
      exact h3.mono fun b hb => ⟨by have := hF b hb; omega, .inl hb⟩
    · have hi2 : i = S.length := by simp at hi; omega
      subst hi2
      refine ⟨v, hcell v (by rw [List.getElem?_append_right (by omega), hnl]; simp), ?_⟩
      simp only [List.getElem_concat_length]
      have h3 := hB.keep (w' := W') fun b hb _ => hb'.block b (hG b hb)
      exact h3.mono fun b hb => ⟨by have := hG b hb; omega, .inr (.inl hb)⟩

theorem laterN {N : Nat} {W0 Wb W' : World} (h : Below N W0 Wb) (h' : Below N W0 W') (hs : Wb.heap.size ≤ W'.heap.size) (hN : N ≤ W0.heap.size) : LaterF (fun b => N ≤ b) Wb W' :=
  ⟨h'.os.trans h.os.symm, h'.tape.trans h.tape.symm, h'.output.trans h.output.symm, hs, fun b hb hf => by rw [h'.block b (by omega), h.block b (by omega)]⟩

/-- what the region leaves -/
def AppPost (W0 : World) (F G : Blks) (S : List (List UInt8)) (l : List UInt8) (vs : List Value) (w' : World) : Prop :=
  ∃ v0 v1 v2 v3 v4 v5 v6 v7 v8 v9 a c, vs = [v0, v1, v2, v3, v4, v5, v6, v7, v8, v9, .slice a (S.length + 1) c] ∧ RowsF (fun b => b < w'.heap.size ∧ (F b ∨ G b ∨ W0.heap.size ≤ b)) w' (.slice a (S.length + 1) c) (S ++ [l]) ∧ Below W0.heap.size W0 w'

/-- an act in which some variables have been set -/
def putsL (a : Act) : List Nat → List Value → Act
  | [], _ => a
  | t :: ts, vs => putsL (a.put (some t) (vs.headD undef)) ts vs.tail

theorem wp_region_puts {P : Program} {id : Nat} {Q : Exit → Act → World → Prop} {a : Act} {w : World} {l : List Oper} (C : World → World → Prop) (t : Tree) (n : Nat) (hm : P.follows .mixedOrders = true) (hB : (Region.noSelect l.toArray && canTB .any l.toArray t n (Array.replicate n false) && (n == l.length)) = true)
    (hrefl : ∀ w, C w w) (htrans : ∀ a b c, C a b → C b c → C a c) (ts : List Nat) (Post : List Value → World → Prop)
    (h : wpT P l.toArray C (fun a' w' => ∃ vs, a' = putsL a ts vs ∧ Post vs w') t a w.drew)
    (hQ : ∀ vs w', Post vs w' → Q .normal (putsL a ts vs) w') : (Code.region id l.toArray true).wp P Q a w :=
  wp_region_tree C t n hm hB hrefl htrans _ (fun a' w' ⟨vs, e, hp⟩ => by rw [e]; exact hQ vs w' hp) h
end Go.Proofs.YtmimplmeccoahaaDoor
