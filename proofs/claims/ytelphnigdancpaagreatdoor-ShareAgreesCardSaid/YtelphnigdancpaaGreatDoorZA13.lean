/-
  SWorld
-/
import Derived.Test.YtelphnigdancpaaGreatDoorZA12
import Derived.Test.YtelphnigdancpaaGreatDoorZA10
namespace Go.Proofs.YtelphnigdancpaaGreatDoor
open Go.RowKit
set_option linter.unusedVariables false
set_option maxRecDepth 20000

def Free (p g : Nat) (hb : Nat → Nat → Nat) (lv : Value) (W : World) : Blks := fun q => q < W.heap.size ∧ q ≠ p ∧ q ≠ g ∧ (∀ i k, i < 3 → k < 3 → q ≠ hb i k) ∧ lv.ownBlock ≠ some q
def MapsAt (F : Blks) (W : World) (g : Nat) (m : Nat → RMap) : Prop := ∃ c : Nat → Value, Blk W g [c 0, c 1, c 2, c 3, c 4, c 5, c 6, c 7, c 8] 31 ∧
  ∀ i, i < 3 → ∃ s1 e1 s2 e2 s3 e3, c (i * 3) = .slice s1 (m i).seen.length e1 ∧ c (i * 3 + 1) = .slice s2 (m i).items.length e2 ∧ c (i * 3 + 2) = .slice s3 (m i).gone.length e3 ∧ MapIn F W (.slice s1 (m i).seen.length e1) (.slice s2 (m i).items.length e2) (.slice s3 (m i).gone.length e3) (m i)
theorem MapsAt.keep {F G : Blks} {W W' : World} {g : Nat} {m : Nat → RMap} (h : MapsAt F W g m) (hg : W'.heap[g]? = W.heap[g]?) (hk : ∀ q, F q → q < W.heap.size → W'.heap[q]? = W.heap[q]?) (hG : ∀ q, F q → q < W'.heap.size → G q) : MapsAt G W' g m := by
  obtain ⟨c, h1, h2⟩ := h
  refine ⟨c, h1.keep hg, fun i hi => ?_⟩
  obtain ⟨s1, e1, s2, e2, s3, e3, k1, k2, k3, hM⟩ := h2 i hi
  exact ⟨s1, e1, s2, e2, s3, e3, k1, k2, k3, (hM.keep hk).mono hG⟩
theorem c9 (c : Nat → Value) : ∀ j, j < 9 → [c 0, c 1, c 2, c 3, c 4, c 5, c 6, c 7, c 8][j]? = some (c j)
  | 0, _ => rfl | 1, _ => rfl | 2, _ => rfl | 3, _ => rfl | 4, _ => rfl | 5, _ => rfl | 6, _ => rfl | 7, _ => rfl | 8, _ => rfl
  | j + 9, h => by omega
theorem MapsAt.get {F : Blks} {W : World} {g : Nat} {m : Nat → RMap} (h : MapsAt F W g m) (i : Nat) (hi : i < 3) : ∃ s1 e1 s2 e2 s3 e3, W.cell? ⟨g, i * 3, none⟩ = some (.slice s1 (m i).seen.length e1) ∧ W.cell? ⟨g, i * 3 + 1, none⟩ = some (.slice s2 (m i).items.length e2) ∧ W.cell? ⟨g, i * 3 + 2, none⟩ = some (.slice s3 (m i).gone.length e3) ∧
    MapIn F W (.slice s1 (m i).seen.length e1) (.slice s2 (m i).items.length e2) (.slice s3 (m i).gone.length e3) (m i) := by
  obtain ⟨c, h1, h2⟩ := h
  obtain ⟨s1, e1, s2, e2, s3, e3, k1, k2, k3, hM⟩ := h2 i hi
  exact ⟨s1, e1, s2, e2, s3, e3, by rw [h1.cell, c9 c _ (by omega), k1], by rw [h1.cell, c9 c _ (by omega), k2], by rw [h1.cell, c9 c _ (by omega), k3], hM⟩
theorem MapsAt.set {F : Blks} {W W' : World} {g : Nat} {m : Nat → RMap} (h : MapsAt F W g m) {d : Nat} (hd : d < 3) {x : RMap} {s1 s2 s3 : Option Addr} {e1 e2 e3 : Nat}
    (hx : MapIn F W (.slice s1 x.seen.length e1) (.slice s2 x.items.length e2) (.slice s3 x.gone.length e3) x) (hF : ∀ q, F q → q ≠ g)
    (hW : W' = ((W.setCell ⟨g, d * 3, none⟩ (.slice s1 x.seen.length e1)).setCell ⟨g, d * 3 + 1, none⟩ (.slice s2 x.items.length e2)).setCell ⟨g, d * 3 + 2, none⟩ (.slice s3 x.gone.length e3)) : MapsAt F W' g (putM m d x) := by
  obtain ⟨c, h1, h2⟩ := h
  have k3 := ((h1.set (d * 3) (.slice s1 x.seen.length e1)).set (d * 3 + 1) (.slice s2 x.items.length e2)).set (d * 3 + 2) (.slice s3 x.gone.length e3)
  rw [← hW] at k3
  have hkp : ∀ q, F q → q < W.heap.size → W'.heap[q]? = W.heap[q]? := fun q hq _ => by
    have := hF q hq
    rw [hW]
    exact (Below.heap_setCell _ _ _ _ this).trans ((Below.heap_setCell _ _ _ _ this).trans (Below.heap_setCell _ _ _ _ this))
  refine ⟨fun j => if j = d * 3 then .slice s1 x.seen.length e1 else if j = d * 3 + 1 then .slice s2 x.items.length e2 else if j = d * 3 + 2 then .slice s3 x.gone.length e3 else c j, ?_, fun i hi => ?_⟩
  · have h3 : d = 0 ∨ d = 1 ∨ d = 2 := by omega
    rcases h3 with rfl | rfl | rfl
    · exact k3
    · exact k3
    · exact k3
  · by_cases e : i = d
    · subst e
      refine ⟨s1, e1, s2, e2, s3, e3, ?_, ?_, ?_, ?_⟩
      · simp [putM]
      · simp [putM]
      · simp [putM]
      · simp only [putM, if_pos]; exact hx.keep hkp
    · obtain ⟨u1, f1, u2, f2, u3, f3, q1, q2, q3, hM⟩ := h2 i hi
      refine ⟨u1, f1, u2, f2, u3, f3, ?_, ?_, ?_, ?_⟩
      · simp only [putM, if_neg e]
        rw [if_neg (by omega), if_neg (by omega), if_neg (by omega)]; exact q1
      · simp only [putM, if_neg e]
        rw [if_neg (by omega), if_neg (by omega), if_neg (by omega)]; exact q2
      · simp only [putM, if_neg e]
        rw [if_neg (by omega), if_neg (by omega), if_neg (by omega)]; exact q3
      · simp only [putM, if_neg e]
        exact hM.keep hkp
def HeardAt (W : World) (hb : Nat → Nat → Nat) (h : Nat → Nat → List Int) : Prop := ∀ i k, i < 3 → k < 3 → Blk W (hb i k) ((h i k).map eI) 3 ∧ (h i k).length = 8 ∧ ∀ n ∈ h i k, i64ok n
def letCs (l : SLet) (sv s1 s2 s3 : Value) : List Value := [eI (l.dst : Int), eI (l.frm : Int), sv, s1, s2, s3]
def LetsAt (F : Blks) (W : World) (lo : Nat) (lv : Value) (L : List SLet) : Prop := ∃ C : List (List Value), C.length = L.length ∧ (∀ c ∈ C, c.length = 6) ∧ W.ownsRow lo 76 6 lv L.length (C.flatMap id) ∧
  ∀ i (hi : i < L.length), ∃ sv s1 s2 s3, C[i]? = some (letCs L[i] sv s1 s2 s3) ∧ MsgIn F W sv s1 s2 s3 L[i].msg
theorem LetsAt.keep {F G : Blks} {W W' : World} {lo : Nat} {lv : Value} {L : List SLet} (h : LetsAt F W lo lv L) (ho : ∀ X, W.ownsRow lo 76 6 lv L.length X → W'.ownsRow lo 76 6 lv L.length X) (hk : ∀ q, F q → q < W.heap.size → W'.heap[q]? = W.heap[q]?) (hG : ∀ q, F q → q < W'.heap.size → G q) : LetsAt G W' lo lv L := by
  obtain ⟨C, h1, h2, h3, h4⟩ := h
  refine ⟨C, h1, h2, ho _ h3, fun i hi => ?_⟩
  obtain ⟨sv, s1, s2, s3, k1, k2⟩ := h4 i hi
  exact ⟨sv, s1, s2, s3, k1, (k2.keep hk).mono hG⟩
abbrev hcl (hb : Nat → Nat → Nat) (i k : Nat) : Value := .slice (some ⟨hb i k, 0, none⟩) 8 8
structure WAt (W : World) (lo p g : Nat) (hb : Nat → Nat → Nat) (lv : Value) (s : SW) : Prop where
  box : Blk W p [.slice (some ⟨g, 0, none⟩) 3 3, hcl hb 0 0, hcl hb 0 1, hcl hb 0 2, hcl hb 1 0, hcl hb 1 1, hcl hb 1 2, hcl hb 2 0, hcl hb 2 1, hcl hb 2 2, lv] 70
  maps : MapsAt (Free p g hb lv W) W g s.m
  heard : HeardAt W hb s.heard
  inj : ∀ i k a b, i < 3 → k < 3 → a < 3 → b < 3 → hb i k = hb a b → i = a ∧ k = b
  lets : LetsAt (Free p g hb lv W) W lo lv s.lets
  low : lo ≤ p ∧ lo ≤ g ∧ ∀ i k, i < 3 → k < 3 → lo ≤ hb i k
section
variable {W W' : World} {lo p g : Nat} {hb : Nat → Nat → Nat} {lv : Value} {s : SW}
theorem Free.mono (hz : W.heap.size ≤ W'.heap.size) (q : Nat) (h : Free p g hb lv W q) : Free p g hb lv W' q := ⟨Nat.lt_of_lt_of_le h.1 hz, h.2⟩
structure BF (lo p g : Nat) (hb : Nat → Nat → Nat) (lv : Value) (W : World) (lv' : Value) (W' : World) : Prop where
  bel : Below lo W W'
  fr : ∀ q, Free p g hb lv W q → W'.heap[q]? = W.heap[q]? ∧ Free p g hb lv' W' q
theorem BF.trans {lv1 lv2 : Value} {W1 W2 : World} (h : BF lo p g hb lv W lv1 W1) (k : BF lo p g hb lv1 W1 lv2 W2) : BF lo p g hb lv W lv2 W2 :=
  ⟨h.bel.trans k.bel, fun q hq => ⟨(k.fr q (h.fr q hq).2).1.trans (h.fr q hq).1, (k.fr q (h.fr q hq).2).2⟩⟩
theorem BF.of_below (h : Below W.heap.size W W') (hlo : lo ≤ W.heap.size) : BF lo p g hb lv W lv W' := ⟨h.mono hlo, fun q hq => ⟨h.block q hq.1, Free.mono h.size q hq⟩⟩
theorem BF.size {lv' : Value} (h : BF lo p g hb lv W lv' W') : W.heap.size ≤ W'.heap.size := h.bel.size
theorem WAt.lvlt (h : WAt W lo p g hb lv s) {b : Nat} (hb' : lv.ownBlock = some b) : lo ≤ b ∧ b < W.heap.size := by
  obtain ⟨C, -, -, h3, -⟩ := h.lets
  exact h3.lt b hb'
theorem WAt.glt (h : WAt W lo p g hb lv s) : g < W.heap.size := by
  obtain ⟨c, h1, -⟩ := h.maps
  exact h1.lt
theorem WAt.fresh (h : WAt W lo p g hb lv s) {q : Nat} (h1 : W.heap.size ≤ q) (h2 : q < W'.heap.size) : Free p g hb lv W' q := by
  refine ⟨h2, ?_, ?_, fun i k hi hk => ?_, fun e => ?_⟩
  · have := h.box.lt; omega
  · have := h.glt; omega
  · have := (h.heard i k hi hk).1.lt; omega
  · have := (h.lvlt e).2; omega
theorem WAt.keep (h : WAt W lo p g hb lv s) (hk : Below W.heap.size W W') : WAt W' lo p g hb lv s := by
  refine ⟨h.box.keep (hk.block _ h.box.lt), h.maps.keep (hk.block _ h.glt) (fun q hq hlt => hk.block q hlt) (fun q hq _ => Free.mono hk.size q hq), fun i k hi hk' => ?_, h.inj, h.lets.keep (fun X hX => own_below hX hk) (fun q hq hlt => hk.block q hlt) (fun q hq _ => Free.mono hk.size q hq), h.low⟩
  obtain ⟨h1, h2⟩ := h.heard i k hi hk'
  exact ⟨h1.keep (hk.block _ h1.lt), h2⟩
theorem WAt.hne (h : WAt W lo p g hb lv s) : p ≠ g ∧ (∀ i k, i < 3 → k < 3 → hb i k ≠ p) ∧ (∀ i k, i < 3 → k < 3 → hb i k ≠ g) := by
  obtain ⟨c, h1, -⟩ := h.maps
  exact ⟨h.box.ne h1 (by decide), fun i k hi hk => (h.heard i k hi hk).1.ne h.box (by decide), fun i k hi hk => (h.heard i k hi hk).1.ne h1 (by decide)⟩
theorem WAt.lne (h : WAt W lo p g hb lv s) {b : Nat} (hb' : lv.ownBlock = some b) {q : Nat} {L : List Value} {t : TypeId} (hq : Blk W q L t) (ht : t ≠ 76) : q ≠ b := fun e => by
  obtain ⟨C, -, -, h3, -⟩ := h.lets
  obtain ⟨cs, hc⟩ := own_block h3 hb'
  subst e
  unfold Blk at hq
  rw [hq] at hc
  injection hc with hc
  injection hc with _ h2
  exact ht h2
theorem WAt.putMap (h : WAt W lo p g hb lv s) {d : Nat} (hd : d < 3) {x : RMap} {s1 s2 s3 : Option Addr} {e1 e2 e3 : Nat}
    (hx : MapIn (Free p g hb lv W) W (.slice s1 x.seen.length e1) (.slice s2 x.items.length e2) (.slice s3 x.gone.length e3) x)
    (hW : W' = ((W.setCell ⟨g, d * 3, none⟩ (.slice s1 x.seen.length e1)).setCell ⟨g, d * 3 + 1, none⟩ (.slice s2 x.items.length e2)).setCell ⟨g, d * 3 + 2, none⟩ (.slice s3 x.gone.length e3)) : WAt W' lo p g hb lv ⟨putM s.m d x, s.heard, s.lets⟩ ∧ BF lo p g hb lv W lv W' := by
  obtain ⟨n1, n2, n3⟩ := h.hne
  have hz : W'.heap.size = W.heap.size := by rw [hW]; simp [World.setCell]
  have hkq : ∀ q, q ≠ g → W'.heap[q]? = W.heap[q]? := fun q hq => by
    rw [hW]
    exact (Below.heap_setCell _ _ _ _ hq).trans ((Below.heap_setCell _ _ _ _ hq).trans (Below.heap_setCell _ _ _ _ hq))
  have hfr : ∀ q, Free p g hb lv W q → Free p g hb lv W' q := fun q hq => Free.mono (by omega) q hq
  obtain ⟨c, hg, -⟩ := id h.maps
  refine ⟨⟨h.box.keep (hkq _ n1), ?_, fun i k hi hk => ?_, h.inj, h.lets.keep (fun X hX => ?_) (fun q hq _ => hkq q hq.2.2.1) (fun q hq _ => hfr q hq), h.low⟩, ?_⟩
  · have := h.maps.set hd hx (fun q hq => hq.2.2.1) hW
    exact this.keep rfl (fun q _ _ => rfl) (fun q hq _ => hfr q hq)
  · obtain ⟨h1, h2⟩ := h.heard i k hi hk
    exact ⟨h1.keep (hkq _ (n3 i k hi hk)), h2⟩
  · rw [hW]
    have k1 := hg.set (d * 3) (.slice s1 x.seen.length e1)
    have k2 := k1.set (d * 3 + 1) (.slice s2 x.items.length e2)
    exact own_setCell (own_setCell (own_setCell hX hg (by decide) _) k1 (by decide) _) k2 (by decide) _
  · refine ⟨?_, fun q hq => ⟨hkq q hq.2.2.1, hfr q hq⟩⟩
    rw [hW]
    have hl := h.low.2.1
    exact (((Below.refl lo W).setCell (p := ⟨g, d * 3, none⟩) hl _).setCell (p := ⟨g, d * 3 + 1, none⟩) hl _).setCell (p := ⟨g, d * 3 + 2, none⟩) hl _
def hset (heard : Nat → Nat → List Int) (a b : Nat) (l : List Int) : Nat → Nat → List Int := fun i k => if i = a ∧ k = b then l else heard i k
theorem WAt.putHeard (h : WAt W lo p g hb lv s) {a b : Nat} (ha : a < 3) (hb3 : b < 3) (j : Nat) (n : Int) (hn : i64ok n) : WAt (W.setCell ⟨hb a b, j, none⟩ (eI n)) lo p g hb lv ⟨s.m, hset s.heard a b ((s.heard a b).set j n), s.lets⟩ ∧ BF lo p g hb lv W lv (W.setCell ⟨hb a b, j, none⟩ (eI n)) := by
  obtain ⟨n1, n2, n3⟩ := h.hne
  obtain ⟨hB, hl, hi64⟩ := h.heard a b ha hb3
  have hz : (W.setCell ⟨hb a b, j, none⟩ (eI n)).heap.size = W.heap.size := by simp [World.setCell]
  have hkq : ∀ q, q ≠ hb a b → (W.setCell ⟨hb a b, j, none⟩ (eI n)).heap[q]? = W.heap[q]? := fun q hq => Below.heap_setCell _ _ _ _ hq
  have hfr : ∀ q, Free p g hb lv W q → Free p g hb lv (W.setCell ⟨hb a b, j, none⟩ (eI n)) q := fun q hq => Free.mono (by omega) q hq
  refine ⟨⟨h.box.keep (hkq _ (Ne.symm (n2 a b ha hb3))), h.maps.keep (hkq _ (Ne.symm (n3 a b ha hb3))) (fun q hq _ => hkq q (hq.2.2.2.1 a b ha hb3)) (fun q hq _ => hfr q hq), fun i k hi hk => ?_, h.inj, h.lets.keep (fun X hX => own_setCell hX hB (by decide) _) (fun q hq _ => hkq q (hq.2.2.2.1 a b ha hb3)) (fun q hq _ => hfr q hq), h.low⟩, ?_⟩
  · dsimp only [hset]
    by_cases e : i = a ∧ k = b
    · rw [if_pos e]
      obtain ⟨rfl, rfl⟩ := e
      refine ⟨?_, by rw [List.length_set]; exact hl, fun x hx => ?_⟩
      · rw [List.map_set]; exact hB.set j _
      · rcases List.mem_or_eq_of_mem_set hx with hx | rfl
        · exact hi64 x hx
        · exact hn
    · rw [if_neg e]
      obtain ⟨h1, h2⟩ := h.heard i k hi hk
      exact ⟨h1.keep (hkq _ fun e' => e (h.inj i k a b hi hk ha hb3 e')), h2⟩
  · exact ⟨(Below.refl lo W).setCell (p := ⟨hb a b, j, none⟩) (h.low.2.2 a b ha hb3) _, fun q hq => ⟨hkq q (hq.2.2.2.1 a b ha hb3), hfr q hq⟩⟩
theorem WAt.addLet (h : WAt W lo p g hb lv s) {C : List (List Value)} (C1 : C.length = s.lets.length) (C2 : ∀ c ∈ C, c.length = 6) (C4 : ∀ i (hi : i < s.lets.length), ∃ sv s1 s2 s3, C[i]? = some (letCs s.lets[i] sv s1 s2 s3) ∧ MsgIn (Free p g hb lv W) W sv s1 s2 s3 s.lets[i].msg) {l : SLet} {sv s1 s2 s3 : Value} (hm : MsgIn (Free p g hb lv W) W sv s1 s2 s3 l.msg) {W2 : World} {lv' : Value}
    (ho : W2.ownsRow lo 76 6 lv' (s.lets.length + 1) (C.flatMap id ++ letCs l sv s1 s2 s3)) (hgr : (W.alloc (.cells (letCs l sv s1 s2 s3).toArray 76)).grownBy W2 lv.ownBlock) (hlo : lo ≤ W.heap.size)
    (hnew : ∀ b, lv'.ownBlock = some b → lv.ownBlock = some b ∨ W.heap.size < b) : WAt (W2.setCell ⟨p, 10, none⟩ lv') lo p g hb lv' ⟨s.m, s.heard, s.lets ++ [l]⟩ ∧ BF lo p g hb lv W lv' (W2.setCell ⟨p, 10, none⟩ lv') := by
  obtain ⟨n1, n2, n3⟩ := h.hne
  have hs : W.heap.size < W2.heap.size := by have := hgr.size; simp at this; omega
  have hz : (W2.setCell ⟨p, 10, none⟩ lv').heap.size = W2.heap.size := by simp [World.setCell]
  have hk2 : ∀ q, q < W.heap.size → lv.ownBlock ≠ some q → W2.heap[q]? = W.heap[q]? := fun q hq hne => (hgr.block q (by simp; omega) (fun e => hne e.symm)).trans (Below.heap_alloc _ _ _ hq)
  have hkq : ∀ q, q < W.heap.size → lv.ownBlock ≠ some q → q ≠ p → (W2.setCell ⟨p, 10, none⟩ lv').heap[q]? = W.heap[q]? := fun q hq hne hp => (Below.heap_setCell _ _ _ _ hp).trans (hk2 q hq hne)
  have hfr : ∀ q, Free p g hb lv W q → Free p g hb lv' (W2.setCell ⟨p, 10, none⟩ lv') q := fun q hq => ⟨by have := hq.1; omega, hq.2.1, hq.2.2.1, hq.2.2.2.1, fun e => by
    rcases hnew q e with h1 | h1
    · exact hq.2.2.2.2 h1
    · have := hq.1; omega⟩
  obtain ⟨c, hg, -⟩ := id h.maps
  have lne : ∀ {q : Nat} {L : List Value} {t : TypeId}, Blk W q L t → t ≠ 76 → lv.ownBlock ≠ some q := fun hq ht e => (h.lne e hq ht) rfl
  have hbx : Blk W2 p _ _ := h.box.keep (hk2 p h.box.lt (lne h.box (by decide)))
  refine ⟨⟨hbx.set 10 lv', h.maps.keep (hkq g hg.lt (lne hg (by decide)) (Ne.symm n1)) (fun q hq hlt => hkq q hlt hq.2.2.2.2 hq.2.1) (fun q hq _ => hfr q hq), fun i k hi hk => ?_, h.inj, ?_, h.low⟩, ?_⟩
  · obtain ⟨h1, h2⟩ := h.heard i k hi hk
    exact ⟨h1.keep (hkq _ h1.lt (lne h1 (by decide)) (n2 i k hi hk)), h2⟩
  · refine ⟨C ++ [letCs l sv s1 s2 s3], by rw [List.length_append, List.length_append, C1]; rfl, fun c' hc => ?_, ?_, fun i hi => ?_⟩
    · rcases List.mem_append.1 hc with hc | hc
      · exact C2 c' hc
      · rw [List.mem_singleton.1 hc]; rfl
    · rw [List.flatMap_append, List.length_append]
      have : ([letCs l sv s1 s2 s3].flatMap id) = letCs l sv s1 s2 s3 := by simp
      rw [this]
      exact own_setCell ho hbx (by decide) _
    · by_cases hil : i < s.lets.length
      · obtain ⟨u, t1, t2, t3, k1, k2⟩ := C4 i hil
        refine ⟨u, t1, t2, t3, ?_, ?_⟩
        · rw [List.getElem?_append_left (by rw [C1]; exact hil), k1]
          simp only [List.getElem_append_left hil]
        · simp only [List.getElem_append_left hil]
          exact (k2.keep fun q hq hlt => hkq q hlt hq.2.2.2.2 hq.2.1).mono fun q hq _ => hfr q hq
      · have hie : i = s.lets.length := by simp at hi; omega
        subst hie
        refine ⟨sv, s1, s2, s3, ?_, ?_⟩
        · rw [List.getElem?_append_right (by rw [C1]; exact Nat.le_refl _), C1]
          simp
        · simp only [List.getElem_append_right (Nat.le_refl _), Nat.sub_self, List.getElem_singleton]
          exact (hm.keep fun q hq hlt => hkq q hlt hq.2.2.2.2 hq.2.1).mono fun q hq _ => hfr q hq
  · have h1 : Below lo W W2 := ((Below.refl lo W).alloc hlo _).grown hgr (by simp; omega) fun q hq => (h.lvlt hq).1
    exact ⟨h1.setCell (p := ⟨p, 10, none⟩) h.low.1 _, fun q hq => ⟨hkq q hq.1 hq.2.2.2.2 hq.2.1, hfr q hq⟩⟩
end
end Go.Proofs.YtelphnigdancpaaGreatDoor
