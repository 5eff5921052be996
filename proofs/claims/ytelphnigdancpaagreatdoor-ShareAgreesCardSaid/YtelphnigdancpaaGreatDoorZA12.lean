/-
  SMem
-/
import Derived.Test.YtelphnigdancpaaGreatDoorZA03
import Derived.Test.YtelphnigdancpaaGreatDoorZA11
namespace Go.Proofs.YtelphnigdancpaaGreatDoor
open Go.RowKit
set_option linter.unusedVariables false
set_option maxRecDepth 20000

structure MsgIn (F : Blks) (w : World) (sv s1 s2 s3 : Value) (x : SMsg) : Prop where
  seen : Rows F w 1 sv x.seen.length (x.seen.map eI)
  tell : MapIn F w s1 s2 s3 x.tell
  frmB : i64ok x.frm
  seenB : ∀ n ∈ x.seen, i64ok n
theorem MsgIn.keep {F : Blks} {w w' : World} {sv s1 s2 s3 : Value} {x : SMsg} (h : MsgIn F w sv s1 s2 s3 x) (hk : ∀ b, F b → b < w.heap.size → w'.heap[b]? = w.heap[b]?) : MsgIn F w' sv s1 s2 s3 x :=
  ⟨h.seen.keep hk, h.tell.keep hk, h.frmB, h.seenB⟩
theorem MsgIn.mono {F G : Blks} {w : World} {sv s1 s2 s3 : Value} {x : SMsg} (h : MsgIn F w sv s1 s2 s3 x) (hg : ∀ b, F b → b < w.heap.size → G b) : MsgIn G w sv s1 s2 s3 x :=
  ⟨h.seen.mono hg, h.tell.mono hg, h.frmB, h.seenB⟩
def MsgV (F : Blks) (w : World) (v : Value) (x : SMsg) : Prop := ∃ sv s1 s2 s3, v = .agg #[.int .i64 x.frm, sv, s1, s2, s3] ∧ MsgIn F w sv s1 s2 s3 x
theorem MsgV.keep {F : Blks} {w w' : World} {v : Value} {x : SMsg} (h : MsgV F w v x) (hk : ∀ b, F b → b < w.heap.size → w'.heap[b]? = w.heap[b]?) : MsgV F w' v x := by
  obtain ⟨sv, s1, s2, s3, rfl, h⟩ := h
  exact ⟨sv, s1, s2, s3, rfl, h.keep hk⟩
theorem MsgV.mono {F G : Blks} {w : World} {v : Value} {x : SMsg} (h : MsgV F w v x) (hg : ∀ b, F b → b < w.heap.size → G b) : MsgV G w v x := by
  obtain ⟨sv, s1, s2, s3, rfl, h⟩ := h
  exact ⟨sv, s1, s2, s3, rfl, h.mono hg⟩
structure OwnMsg (w : World) (base : Nat) (sv s1 s2 s3 : Value) (x : SMsg) : Prop where
  seen : w.ownsRow base 3 1 sv x.seen.length (x.seen.map eI)
  tell : OwnIn w base s1 s2 s3 x.tell
structure BndS (x : SMsg) : Prop where
  frmB : i64ok x.frm
  seenB : ∀ n ∈ x.seen, i64ok n
  tell : Bnd x.tell
theorem MsgIn.bnd {F : Blks} {w : World} {sv s1 s2 s3 : Value} {x : SMsg} (h : MsgIn F w sv s1 s2 s3 x) : BndS x := ⟨h.frmB, h.seenB, h.tell.bnd⟩
theorem OwnMsg.msg {w : World} {base : Nat} {sv s1 s2 s3 : Value} {x : SMsg} (h : OwnMsg w base sv s1 s2 s3 x) (hb : BndS x) : MsgIn (fun b => base ≤ b) w sv s1 s2 s3 x :=
  ⟨(Rows.of_owns h.seen).mono (fun b h _ => h.1), h.tell.map hb.tell, hb.frmB, hb.seenB⟩
theorem OwnMsg.below {w w' : World} {base : Nat} {sv s1 s2 s3 : Value} {x : SMsg} (h : OwnMsg w base sv s1 s2 s3 x) (hb : Below w.heap.size w w') : OwnMsg w' base sv s1 s2 s3 x :=
  ⟨own_below h.seen hb, h.tell.below hb⟩
theorem OwnMsg.mono {w : World} {base base' : Nat} {sv s1 s2 s3 : Value} {x : SMsg} (h : OwnMsg w base sv s1 s2 s3 x) (hb : base' ≤ base) : OwnMsg w base' sv s1 s2 s3 x :=
  ⟨own_base h.seen hb, h.tell.mono hb⟩
def OwnMsgV (w : World) (base : Nat) (v : Value) (x : SMsg) : Prop := ∃ sv s1 s2 s3, v = .agg #[.int .i64 x.frm, sv, s1, s2, s3] ∧ OwnMsg w base sv s1 s2 s3 x
theorem OwnMsgV.msg {w : World} {base : Nat} {v : Value} {x : SMsg} (h : OwnMsgV w base v x) (hb : BndS x) : MsgV (fun b => base ≤ b) w v x := by
  obtain ⟨sv, s1, s2, s3, rfl, h⟩ := h
  exact ⟨sv, s1, s2, s3, rfl, h.msg hb⟩
theorem OwnMsgV.below {w w' : World} {base : Nat} {v : Value} {x : SMsg} (h : OwnMsgV w base v x) (hb : Below w.heap.size w w') : OwnMsgV w' base v x := by
  obtain ⟨sv, s1, s2, s3, rfl, h⟩ := h
  exact ⟨sv, s1, s2, s3, rfl, h.below hb⟩
def MPost (w : World) (mr : SMsg × Int) (e : Ending) (w' : World) : Prop :=
  (∃ r, e = .returned (.tuple #[r, .int .i64 mr.2]) ∧ OwnMsgV w' w.heap.size r mr.1 ∧ BndS mr.1) ∧ Below w.heap.size w w'
theorem bndS_empty : BndS .empty := ⟨⟨by decide, by decide⟩, nofun, ⟨nofun, nofun, nofun⟩⟩
def nilM : Value := .agg #[.int .i64 0, .slice none 0 0, .slice none 0 0, .slice none 0 0, .slice none 0 0]
theorem ownM_nil (w : World) (base : Nat) : OwnMsgV w base nilM .empty := ⟨_, _, _, _, rfl, World.ownsRow_nil _ _ _ _, World.ownsRow_nil _ _ _ _, World.ownsRow_nil _ _ _ _, World.ownsRow_nil _ _ _ _⟩
theorem cell5 {W : World} {b : Nat} {c0 c1 c2 c3 c4 : Value} {t : TypeId} (h : Blk W b [c0, c1, c2, c3, c4] t) : W.cell? ⟨b, 0, none⟩ = some c0 ∧ W.cell? ⟨b, 1, none⟩ = some c1 ∧ W.cell? ⟨b, 2, none⟩ = some c2 ∧ W.cell? ⟨b, 3, none⟩ = some c3 ∧ W.cell? ⟨b, 4, none⟩ = some c4 :=
  ⟨h.cell 0, h.cell 1, h.cell 2, h.cell 3, h.cell 4⟩
theorem fin5 {w W : World} {B b : Nat} {x0 x1 x2 x3 x4 : Value} {t : TypeId} (kr : Blk W b [x0, x1, x2, x3, x4] t) (hb : Below B w W) (hB : B ≤ b) (s0 s1 s2 s3 s4 : Value) :
    ∃ wf, wf = ((((W.setCell ⟨b, 0, none⟩ s0).setCell ⟨b, 1, none⟩ s1).setCell ⟨b, 2, none⟩ s2).setCell ⟨b, 3, none⟩ s3).setCell ⟨b, 4, none⟩ s4 ∧ Blk wf b [s0, s1, s2, s3, s4] t ∧ Below B w wf :=
  ⟨_, rfl, ((((kr.set 0 s0).set 1 s1).set 2 s2).set 3 s3).set 4 s4, ((((hb.setCell (p := ⟨b, 0, none⟩) hB _).setCell (p := ⟨b, 1, none⟩) hB _).setCell (p := ⟨b, 2, none⟩) hB _).setCell (p := ⟨b, 3, none⟩) hB _).setCell (p := ⟨b, 4, none⟩) hB _⟩
theorem OwnMsg.fin {W wf : World} {base b : Nat} {sv s1 s2 s3 : Value} {x : SMsg} {L : List Value} {t : TypeId} (h : OwnMsg W base sv s1 s2 s3 x) (hb : Blk W b L t) (h1 : t ≠ 3) (h2 : t ≠ 50) (h3 : t ≠ 95) {c0 c1 c2 c3 c4 : Value}
    (hwf : wf = ((((W.setCell ⟨b, 0, none⟩ c0).setCell ⟨b, 1, none⟩ c1).setCell ⟨b, 2, none⟩ c2).setCell ⟨b, 3, none⟩ c3).setCell ⟨b, 4, none⟩ c4) : OwnMsg wf base sv s1 s2 s3 x := by
  have one : ∀ {W : World} {L : List Value} (i : Nat) (u : Value), OwnMsg W base sv s1 s2 s3 x → Blk W b L t → OwnMsg (W.setCell ⟨b, i, none⟩ u) base sv s1 s2 s3 x := fun i u h hb =>
    ⟨own_setCell h.seen hb (Ne.symm h1) u, own_setCell h.tell.seen hb (Ne.symm h1) u, own_setCell h.tell.items hb (Ne.symm h2) u, own_setCell h.tell.gone hb (Ne.symm h3) u⟩
  rw [hwf]
  exact one 4 _ (one 3 _ (one 2 _ (one 1 _ (one 0 _ h hb) (hb.set 0 _)) ((hb.set 0 _).set 1 _)) (((hb.set 0 _).set 1 _).set 2 _)) ((((hb.set 0 _).set 1 _).set 2 _).set 3 _)
end Go.Proofs.YtelphnigdancpaaGreatDoor
