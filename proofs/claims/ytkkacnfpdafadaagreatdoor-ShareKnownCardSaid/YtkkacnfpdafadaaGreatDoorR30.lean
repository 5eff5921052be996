/-
  SMem ShelfB RForg RDel RForg2
-/
import Derived.Test.YtkkacnfpdafadaaGreatDoorR26
import Derived.Test.YtkkacnfpdafadaaGreatDoorR19
import Derived.Shelf.Small.Bits
import Derived.Shelf.Small.Wraps
import Derived.Shelf.Strconv.Itoa0
import Derived.Shelf.Strings.Search1
import Derived.Shelf.Strings.Search2
import Derived.Shelf.Strings.Cut
import Derived.Shelf.LaysM
import Derived.Shelf.Strings.Shaped
import Derived.Shelf.Sort.Plain
import Derived.Shelf.GgClosure.StringsIndexFunc
import Derived.Ground.GgwProg
import Derived.Shelf.GgClosure.StringsIndexFuncTop
import Derived.Shelf.GgClosure.StringsRunes
import Derived.Shelf.Strings.FuncGrows
import Derived.Shelf.Slices.CompactS
import Derived.Shelf.Slices.In.SortNone
import Derived.Shelf.Spec.SearchS
import Derived.Ground.Names2Prog
import Derived.Test.YtkkacnfpdafadaaGreatDoorProg
import Derived.Test.YtkkacnfpdafadaaGreatDoorR24
namespace Go.Proofs.YtkkacnfpdafadaaGreatDoor
open Go.RowKit
set_option linter.unusedVariables false
set_option maxRecDepth 20000

structure MsgIn (F : Blks) (w : World) (sv s1 s2 s3 : Value) (x : SMsg) : Prop where
  seen : Rows F w 1 sv x.seen.length (x.seen.map eI)
  tell : MapIn F w s1 s2 s3 x.tell
  frmB : i64ok x.frm
  seenB : ∀ n ∈ x.seen, i64ok n
theorem MsgIn.keep {F : Blks} {w w' : World} {sv s1 s2 s3 : Value} {x : SMsg} (h : MsgIn F w sv s1 s2 s3 x) (hk : ∀ b, F b → b < w.heap.size → w'.heap[b]? = w.heap[b]?) : MsgIn F w' sv s1 s2 s3 x :=
  ⟨h.seen.keep hk, h.tell.keep hk, h.frmB, h.seenB⟩
theorem MsgIn.mono {F G : Blks} {w : World} {sv s1 s2 s3 : Value} {x : SMsg} (h : MsgIn F w sv s1 s2 s3 x) (hg : ∀ b, F b → b < w.heap.size → G b) : MsgIn G w sv s1 s2 s3 x :=
  ⟨h.seen.mono hg, h.tell.mono hg, h.frmB, h.seenB⟩
def MsgV (F : Blks) (w : World) (v : Value) (x : SMsg) : Prop := ∃ sv s1 s2 s3, v = .agg #[.int .i64 x.frm, sv, s1, s2, s3] ∧ MsgIn F w sv s1 s2 s3 x
theorem MsgV.keep {F : Blks} {w w' : World} {v : Value} {x : SMsg} (h : MsgV F w v x) (hk : ∀ b, F b → b < w.heap.size → w'.heap[b]? = w.heap[b]?) : MsgV F w' v x := by
  obtain ⟨sv, s1, s2, s3, rfl, h⟩ := h
  exact ⟨sv, s1, s2, s3, rfl, h.keep hk⟩
theorem MsgV.mono {F G : Blks} {w : World} {v : Value} {x : SMsg} (h : MsgV F w v x) (hg : ∀ b, F b → b < w.heap.size → G b) : MsgV G w v x := by
  obtain ⟨sv, s1, s2, s3, rfl, h⟩ := h
  exact ⟨sv, s1, s2, s3, rfl, h.mono hg⟩
structure OwnMsg (w : World) (base : Nat) (sv s1 s2 s3 : Value) (x : SMsg) : Prop where
  seen : w.ownsRow base 3 1 sv x.seen.length (x.seen.map eI)
  tell : OwnIn w base s1 s2 s3 x.tell
structure BndS (x : SMsg) : Prop where
  frmB : i64ok x.frm
  seenB : ∀ n ∈ x.seen, i64ok n
  tell : Bnd x.tell
theorem MsgIn.bnd {F : Blks} {w : World} {sv s1 s2 s3 : Value} {x : SMsg} (h : MsgIn F w sv s1 s2 s3 x) : BndS x := ⟨h.frmB, h.seenB, h.tell.bnd⟩
theorem OwnMsg.msg {w : World} {base : Nat} {sv s1 s2 s3 : Value} {x : SMsg} (h : OwnMsg w base sv s1 s2 s3 x) (hb : BndS x) : MsgIn (fun b => base ≤ b) w sv s1 s2 s3 x :=
  ⟨(Rows.of_owns h.seen).mono (fun b h _ => h.1), h.tell.map hb.tell, hb.frmB, hb.seenB⟩
theorem OwnMsg.below {w w' : World} {base : Nat} {sv s1 s2 s3 : Value} {x : SMsg} (h : OwnMsg w base sv s1 s2 s3 x) (hb : Below w.heap.size w w') : OwnMsg w' base sv s1 s2 s3 x :=
  ⟨own_below h.seen hb, h.tell.below hb⟩
theorem OwnMsg.mono {w : World} {base base' : Nat} {sv s1 s2 s3 : Value} {x : SMsg} (h : OwnMsg w base sv s1 s2 s3 x) (hb : base' ≤ base) : OwnMsg w base' sv s1 s2 s3 x :=
  ⟨own_base h.seen hb, h.tell.mono hb⟩
def OwnMsgV (w : World) (base : Nat) (v : Value) (x : SMsg) : Prop := ∃ sv s1 s2 s3, v = .agg #[.int .i64 x.frm, sv, s1, s2, s3] ∧ OwnMsg w base sv s1 s2 s3 x
theorem OwnMsgV.msg {w : World} {base : Nat} {v : Value} {x : SMsg} (h : OwnMsgV w base v x) (hb : BndS x) : MsgV (fun b => base ≤ b) w v x := by
  obtain ⟨sv, s1, s2, s3, rfl, h⟩ := h
  exact ⟨sv, s1, s2, s3, rfl, h.msg hb⟩
theorem OwnMsgV.below {w w' : World} {base : Nat} {v : Value} {x : SMsg} (h : OwnMsgV w base v x) (hb : Below w.heap.size w w') : OwnMsgV w' base v x := by
  obtain ⟨sv, s1, s2, s3, rfl, h⟩ := h
  exact ⟨sv, s1, s2, s3, rfl, h.below hb⟩
def MPost (w : World) (mr : SMsg × Int) (e : Ending) (w' : World) : Prop :=
  (∃ r, e = .returned (.tuple #[r, .int .i64 mr.2]) ∧ OwnMsgV w' w.heap.size r mr.1 ∧ BndS mr.1) ∧ Below w.heap.size w w'
theorem bndS_empty : BndS .empty := ⟨⟨by decide, by decide⟩, nofun, ⟨nofun, nofun, nofun⟩⟩
def nilM : Value := .agg #[.int .i64 0, .slice none 0 0, .slice none 0 0, .slice none 0 0, .slice none 0 0]
theorem ownM_nil (w : World) (base : Nat) : OwnMsgV w base nilM .empty := ⟨_, _, _, _, rfl, World.ownsRow_nil _ _ _ _, World.ownsRow_nil _ _ _ _, World.ownsRow_nil _ _ _ _, World.ownsRow_nil _ _ _ _⟩
theorem cell5 {W : World} {b : Nat} {c0 c1 c2 c3 c4 : Value} {t : TypeId} (h : Blk W b [c0, c1, c2, c3, c4] t) : W.cell? ⟨b, 0, none⟩ = some c0 ∧ W.cell? ⟨b, 1, none⟩ = some c1 ∧ W.cell? ⟨b, 2, none⟩ = some c2 ∧ W.cell? ⟨b, 3, none⟩ = some c3 ∧ W.cell? ⟨b, 4, none⟩ = some c4 :=
  ⟨h.cell 0, h.cell 1, h.cell 2, h.cell 3, h.cell 4⟩
theorem fin5 {w W : World} {B b : Nat} {x0 x1 x2 x3 x4 : Value} {t : TypeId} (kr : Blk W b [x0, x1, x2, x3, x4] t) (hb : Below B w W) (hB : B ≤ b) (s0 s1 s2 s3 s4 : Value) :
    ∃ wf, wf = ((((W.setCell ⟨b, 0, none⟩ s0).setCell ⟨b, 1, none⟩ s1).setCell ⟨b, 2, none⟩ s2).setCell ⟨b, 3, none⟩ s3).setCell ⟨b, 4, none⟩ s4 ∧ Blk wf b [s0, s1, s2, s3, s4] t ∧ Below B w wf :=
  ⟨_, rfl, ((((kr.set 0 s0).set 1 s1).set 2 s2).set 3 s3).set 4 s4, ((((hb.setCell (p := ⟨b, 0, none⟩) hB _).setCell (p := ⟨b, 1, none⟩) hB _).setCell (p := ⟨b, 2, none⟩) hB _).setCell (p := ⟨b, 3, none⟩) hB _).setCell (p := ⟨b, 4, none⟩) hB _⟩
theorem OwnMsg.fin {W wf : World} {base b : Nat} {sv s1 s2 s3 : Value} {x : SMsg} {L : List Value} {t : TypeId} (h : OwnMsg W base sv s1 s2 s3 x) (hb : Blk W b L t) (h1 : t ≠ 3) (h2 : t ≠ 50) (h3 : t ≠ 95) {c0 c1 c2 c3 c4 : Value}
    (hwf : wf = ((((W.setCell ⟨b, 0, none⟩ c0).setCell ⟨b, 1, none⟩ c1).setCell ⟨b, 2, none⟩ c2).setCell ⟨b, 3, none⟩ c3).setCell ⟨b, 4, none⟩ c4) : OwnMsg wf base sv s1 s2 s3 x := by
  have one : ∀ {W : World} {L : List Value} (i : Nat) (u : Value), OwnMsg W base sv s1 s2 s3 x → Blk W b L t → OwnMsg (W.setCell ⟨b, i, none⟩ u) base sv s1 s2 s3 x := fun i u h hb =>
    ⟨own_setCell h.seen hb (Ne.symm h1) u, own_setCell h.tell.seen hb (Ne.symm h1) u, own_setCell h.tell.items hb (Ne.symm h2) u, own_setCell h.tell.gone hb (Ne.symm h3) u⟩
  rw [hwf]
  exact one 4 _ (one 3 _ (one 2 _ (one 1 _ (one 0 _ h hb) (hb.set 0 _)) ((hb.set 0 _).set 1 _)) (((hb.set 0 _).set 1 _).set 2 _)) ((((hb.set 0 _).set 1 _).set 2 _).set 3 _)
end Go.Proofs.YtkkacnfpdafadaaGreatDoor

namespace Go.Proofs
open Go.Shelf
end Go.Proofs

namespace Go.Proofs.YtkkacnfpdafadaaGreatDoor
open Go.RowKit
set_option linter.unusedVariables false
set_option maxRecDepth 20000
attribute [local go_sem ↓] seal_append

structure KeepG (B : Nat) (w w' : World) : Prop where
  bel : Below B w w'
  blk : ∀ b L t, Blk w b L t → t ≠ 95 → t ≠ 29 → Blk w' b L t
theorem KeepG.own {B : Nat} {w w' : World} (h : KeepG B w w') {base : Nat} {e : TypeId} {k n : Nat} {v : Value} {xs : List Value} (ho : w.ownsRow base e k v n xs) (h1 : e ≠ 95) (h2 : e ≠ 29) : w'.ownsRow base e k v n xs := by
  refine ⟨ho.1, ?_⟩
  rcases ho.2 with h0 | ⟨g, cap, cur, hv, hb, hg, hr⟩
  · exact .inl h0
  · refine .inr ⟨g, cap, cur, hv, hb, ?_, hr⟩
    have := h.blk g cur.toList e hg h1 h2
    unfold Blk at this
    simpa using this
theorem KeepG.trans {B : Nat} {a b c : World} (h : KeepG B a b) (k : KeepG B b c) : KeepG B a c := ⟨h.bel.trans k.bel, fun x L t hx h1 h2 => k.blk x L t (h.blk x L t hx h1 h2) h1 h2⟩

end Go.Proofs.YtkkacnfpdafadaaGreatDoor

namespace Go.Proofs.YtkkacnfpdafadaaGreatDoor
open Go.RowKit
set_option linter.unusedVariables false
set_option maxRecDepth 20000

structure KeepI (B : Nat) (w w' : World) : Prop where
  bel : Below B w w'
  same : ∀ b, b < w.heap.size → (∀ L, ¬ Blk w b L 50) → w'.heap[b]? = w.heap[b]?
theorem KeepI.blk {B : Nat} {w w' : World} (h : KeepI B w w') (b : Nat) (L : List Value) (t : TypeId) (hb : Blk w b L t) (hne : t ≠ 50) : Blk w' b L t := hb.keep (h.same b hb.lt fun M hM => hne (hb.inj hM).2)
theorem KeepI.refl (B : Nat) (w : World) : KeepI B w w := ⟨Below.refl _ _, fun _ _ _ => rfl⟩
theorem KeepI.trans {B : Nat} {a b c : World} (h : KeepI B a b) (k : KeepI B b c) : KeepI B a c :=
  ⟨h.bel.trans k.bel, fun x hx hn => (k.same x (Nat.lt_of_lt_of_le hx h.bel.size) fun L hL => hn L ((h.same x hx hn).symm.trans hL)).trans (h.same x hx hn)⟩
theorem KeepI.alloc {B : Nat} {w : World} (hB : B ≤ w.heap.size) (o : Obj) : KeepI B w (w.alloc o) := ⟨(Below.refl B w).alloc hB o, fun b hb _ => Below.heap_alloc _ _ _ hb⟩
theorem KeepI.set {B : Nat} {w : World} {g i : Nat} {L : List Value} (hg : Blk w g L 50) (hB : B ≤ g) (u : Value) : KeepI B w (w.setCell ⟨g, i, none⟩ u) :=
  ⟨(Below.refl B w).setCell hB u, fun b hb hn => Below.heap_setCell _ _ _ _ fun e => hn L (by rw [e]; exact hg)⟩
structure KeepGI (B B2 : Nat) (w w' : World) : Prop where
  bel : Below B w w'
  blk : ∀ b L t, Blk w b L t → t ≠ 95 → t ≠ 29 → t ≠ 50 → Blk w' b L t
  low : ∀ b, b < B2 → b < w.heap.size → (∀ L, ¬ Blk w b L 50) → w'.heap[b]? = w.heap[b]?
theorem KeepGI.refl (B B2 : Nat) (w : World) : KeepGI B B2 w w := ⟨Below.refl _ _, fun _ _ _ h _ _ _ => h, fun _ _ _ _ => rfl⟩
theorem KeepGI.trans {B B2 : Nat} {a b c : World} (h : KeepGI B B2 a b) (k : KeepGI B B2 b c) : KeepGI B B2 a c :=
  ⟨h.bel.trans k.bel, fun x L t hx h1 h2 h3 => k.blk x L t (h.blk x L t hx h1 h2 h3) h1 h2 h3, fun x hx hxs hn => (k.low x hx (Nat.lt_of_lt_of_le hxs h.bel.size) fun L hL => hn L ((h.low x hx hxs hn).symm.trans hL)).trans (h.low x hx hxs hn)⟩
theorem KeepG.gi {B B2 : Nat} {w w' : World} (h : KeepG B2 w w') (hB : B ≤ B2) : KeepGI B B2 w w' := ⟨h.bel.mono hB, fun x L t hx h1 h2 _ => h.blk x L t hx h1 h2, fun x hx _ _ => h.bel.block x hx⟩
theorem KeepI.gi {B B2 : Nat} {w w' : World} (h : KeepI B w w') : KeepGI B B2 w w' := ⟨h.bel, fun x L t hx _ _ h3 => h.blk x L t hx h3, fun x _ hxs hn => h.same x hxs hn⟩
theorem KeepGI.own {B B2 : Nat} {w w' : World} (h : KeepGI B B2 w w') {base : Nat} {e : TypeId} {k n : Nat} {v : Value} {xs : List Value} (ho : w.ownsRow base e k v n xs) (h1 : e ≠ 95) (h2 : e ≠ 29) (h3 : e ≠ 50) : w'.ownsRow base e k v n xs := by
  refine ⟨ho.1, ?_⟩
  rcases ho.2 with h0 | ⟨g, cap, cur, hv, hb, hg, hr⟩
  · exact .inl h0
  · refine .inr ⟨g, cap, cur, hv, hb, ?_, hr⟩
    have := h.blk g cur.toList e hg h1 h2 h3
    unfold Blk at this
    simpa using this
theorem flat_set4 (x : RIt) (rest : List Value) : ∀ (cl : List RIt) (i : Nat), i < cl.length →
    ((((cl.flatMap encIt ++ rest).set (i * 4) (.string ⟨x.key.toArray⟩)).set (i * 4 + 1) (.int .i64 x.dev)).set (i * 4 + 2) (.int .i64 x.seq)).set (i * 4 + 3) (.int .i64 x.val) = (cl.set i x).flatMap encIt ++ rest
  | [], i, h => by simp at h
  | y :: cl, 0, _ => rfl
  | y :: cl, i + 1, h => by
    have := flat_set4 x rest cl i (by simpa using h)
    rw [List.set_cons_succ, List.flatMap_cons, List.flatMap_cons, List.append_assoc, List.append_assoc, ← this]
    have e : ∀ (M : List Value) (j : Nat) (u : Value), (encIt y ++ M).set ((i + 1) * 4 + j) u = encIt y ++ M.set (i * 4 + j) u := fun M j u => by
      rw [List.set_append_right _ _ (by show 4 ≤ _; omega)]
      congr 2
      show (i + 1) * 4 + j - 4 = _
      omega
    have e0 : ∀ (M : List Value) (u : Value), (encIt y ++ M).set ((i + 1) * 4) u = encIt y ++ M.set (i * 4) u := fun M u => e M 0 u
    rw [e0, e, e, e]

def IdxPost (pd : RIt → Bool) (l : List RIt) (St : List RIt → World → Prop) (e : Ending) (w' : World) : Prop :=
  (∃ k x, l[k]? = some x ∧ e = .returned (.int .i64 ((k : Nat) : Int)) ∧ pd x = true ∧ (∀ y ∈ l.take k, pd y = false) ∧ St (l.take (k + 1)) w') ∨ (e = .returned (.int .i64 (-1)) ∧ (∀ x ∈ l, pd x = false) ∧ St l w')
theorem take_all (pd : RIt → Bool) (l : List RIt) (k : Nat) (h : ∀ j (h : j < l.length), j < k → pd l[j] = false) : ∀ y ∈ l.take k, pd y = false := fun y hy => by
  obtain ⟨j, hj, rfl⟩ := List.getElem_of_mem hy
  rw [List.getElem_take]
  exact h j (by simp at hj; omega) (by simp at hj; omega)
theorem blk_setCells {B g : Nat} (hB : B ≤ g) : ∀ (vs : List Value) (o : Nat) (w : World) (L : List Value), Blk w g L 50 → ∃ L', Blk (w.setCells g o vs) g L' 50 ∧ L'.length = L.length ∧ (∀ p, p ≤ o → L'.take p = L.take p) ∧ KeepI B w (w.setCells g o vs)
  | [], o, w, L, h => ⟨L, h, rfl, fun _ _ => rfl, KeepI.refl _ _⟩
  | v :: vs, o, w, L, h => by
    obtain ⟨L', h1, h2, h3, h4⟩ := blk_setCells hB vs (o + 1) (w.setCell ⟨g, o, none⟩ v) (L.set o v) (h.set o v)
    refine ⟨L', h1, by simpa using h2, fun p hp => ?_, (KeepI.set h hB v).trans h4⟩
    rw [h3 p (by omega), List.take_set_of_le hp]
theorem run_clear_items {B : Nat} (w : World) (ty : TypeId) (g o n c : Nat) (L : List Value) (h : Blk w g L 50) (hB : B ≤ g) (ho : o + n * 4 ≤ L.length) :
    ∃ w' L', (Builtin.clear_ #[28] ty #[.slice (some ⟨g, o, none⟩) n c]).run Tryz.prog w = .ok (.tuple #[]) w' ∧ Blk w' g L' 50 ∧ L'.length = L.length ∧ (∀ p, p ≤ o ∨ n = 0 → L'.take p = L.take p) ∧ KeepI B w w' := by
  cases n with
  | zero =>
    refine ⟨w, L, ?_, h, rfl, fun _ _ => rfl, KeepI.refl _ _⟩
    simp [Builtin.clear_, run_underlying Tryz.underlying28]
  | succ m =>
    obtain ⟨zs, hzs⟩ : ∃ zs, (Builtin.zeroCells (Value.agg #[.string ⟨#[]⟩, .int .i64 0, .int .i64 0, .int .i64 0]).cells (m + 1)).toList = zs := ⟨_, rfl⟩
    have hzl : zs.length = (m + 1) * 4 := by rw [← hzs]; simp [Builtin.zeroCells, Value.cells]
    have hone : ∀ v ∈ zs, v.oneCell' = true := by
      intro v hv
      rw [← hzs] at hv
      simp only [Builtin.zeroCells, Value.cells, Array.toList_map, List.mem_map] at hv
      obtain ⟨k, -, rfl⟩ := hv
      have : k % 4 = 0 ∨ k % 4 = 1 ∨ k % 4 = 2 ∨ k % 4 = 3 := by omega
      rcases this with e | e | e | e <;> simp [e, Value.oneCell']
    have hst := run_storeCells_cells (P := Tryz.prog) g o zs 0 w (fun j hj => by
      rw [Nat.add_zero, h.cell, List.getElem?_eq_getElem (by omega)]; rfl) (fun j _ => h.free _) hone
    obtain ⟨L', h1, h2, h3, h4⟩ := blk_setCells hB zs (o + 0) w L h
    exact ⟨_, L', by simp [Builtin.clear_, run_underlying Tryz.underlying28, hzs, hst], h1, h2, fun p hp => h3 p (by omega), h4⟩

theorem flat_takes : ∀ (cl : List RIt) (i : Nat), (cl.flatMap encIt).take (i * 4) = (cl.take i).flatMap encIt
  | [], i => by simp
  | y :: cl, 0 => rfl
  | y :: cl, i + 1 => by
    rw [List.take_succ_cons, List.flatMap_cons, List.flatMap_cons, ← flat_takes cl i, show (i + 1) * 4 = (encIt y).length + i * 4 from by rw [encIt_len]; omega, List.take_length_add_append]
theorem take_filter2 {α : Type} (p : α → Bool) (l : List α) (k : Nat) (h : k < l.length) : (l.take (k + 1)).filter p = (l.take k).filter p ++ (if p l[k] then [l[k]] else []) := by
  rw [List.take_succ_eq_append_getElem h, List.filter_append]
  congr 1
  by_cases hp : p l[k] = true
  · rw [if_pos hp, List.filter_cons, if_pos hp]; rfl
  · rw [if_neg hp, List.filter_cons, if_neg hp]; rfl
structure DelSt (St : List RIt → World → Prop) (pd : RIt → Bool) (B B2 g : Nat) (w wr : World) (l : List RIt) (rest : List Value) (cl : List RIt) (i j : Nat) : Prop where
  blk : Blk wr g (cl.flatMap encIt ++ rest) 50
  len : cl.length = l.length
  drop : cl.drop j = l.drop j
  take : cl.take i = (l.take j).filter fun x => !pd x
  ile : i ≤ j
  ilen : i = ((l.take j).filter fun x => !pd x).length
  st : St (l.take j) wr
  keep : KeepGI B B2 w wr

def RowKept (g : Nat) (m : Nat) (kl : List RIt) (w' : World) : Prop := ∃ L', Blk w' g L' 50 ∧ L'.length = m ∧ L'.take (kl.length * 4) = kl.flatMap encIt
end Go.Proofs.YtkkacnfpdafadaaGreatDoor

namespace Go.Proofs.YtkkacnfpdafadaaGreatDoor
open Go.RowKit Go.Sort
set_option linter.unusedVariables false
set_option maxRecDepth 20000

end Go.Proofs.YtkkacnfpdafadaaGreatDoor
