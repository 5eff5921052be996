/-
  SMem SHas
-/
import Derived.Test.YtkkacnfpdafadaaGreatDoorP19
import Derived.Test.YtkkacnfpdafadaaGreatDoorP14
namespace Go.Proofs.YtkkacnfpdafadaaGreatDoor
open Go.RowKit
set_option linter.unusedVariables false
set_option maxRecDepth 20000

structure MsgIn (F : Blks) (w : World) (sv s1 s2 s3 : Value) (x : SMsg) : Prop where
  seen : Rows F w 1 sv x.seen.length (x.seen.map eI)
  tell : MapIn F w s1 s2 s3 x.tell
  frmB : i64ok x.frm
  seenB : ∀ n ∈ x.seen, i64ok n
theorem MsgIn.keep {F : Blks} {w w' : World} {sv s1 s2 s3 : Value} {x : SMsg} (h : MsgIn F w sv s1 s2 s3 x) (hk : ∀ b, F b → b < w.heap.size → w'.heap[b]? = w.heap[b]?) : MsgIn F w' sv s1 s2 s3 x :=
  ⟨h.seen.keep hk, h.tell.keep hk, h.frmB, h.seenB⟩
theorem MsgIn.mono {F G : Blks} {w : World} {sv s1 s2 s3 : Value} {x : SMsg} (h : MsgIn F w sv s1 s2 s3 x) (hg : ∀ b, F b → b < w.heap.size → G b) : MsgIn G w sv s1 s2 s3 x :=
  ⟨h.seen.mono hg, h.tell.mono hg, h.frmB, h.seenB⟩
def MsgV (F : Blks) (w : World) (v : Value) (x : SMsg) : Prop := ∃ sv s1 s2 s3, v = .agg #[.int .i64 x.frm, sv, s1, s2, s3] ∧ MsgIn F w sv s1 s2 s3 x
theorem MsgV.keep {F : Blks} {w w' : World} {v : Value} {x : SMsg} (h : MsgV F w v x) (hk : ∀ b, F b → b < w.heap.size → w'.heap[b]? = w.heap[b]?) : MsgV F w' v x := by
  obtain ⟨sv, s1, s2, s3, rfl, h⟩ := h
  exact ⟨sv, s1, s2, s3, rfl, h.keep hk⟩
theorem MsgV.mono {F G : Blks} {w : World} {v : Value} {x : SMsg} (h : MsgV F w v x) (hg : ∀ b, F b → b < w.heap.size → G b) : MsgV G w v x := by
  obtain ⟨sv, s1, s2, s3, rfl, h⟩ := h
  exact ⟨sv, s1, s2, s3, rfl, h.mono hg⟩
structure OwnMsg (w : World) (base : Nat) (sv s1 s2 s3 : Value) (x : SMsg) : Prop where
  seen : w.ownsRow base 3 1 sv x.seen.length (x.seen.map eI)
  tell : OwnIn w base s1 s2 s3 x.tell
structure BndS (x : SMsg) : Prop where
  frmB : i64ok x.frm
  seenB : ∀ n ∈ x.seen, i64ok n
  tell : Bnd x.tell
theorem MsgIn.bnd {F : Blks} {w : World} {sv s1 s2 s3 : Value} {x : SMsg} (h : MsgIn F w sv s1 s2 s3 x) : BndS x := ⟨h.frmB, h.seenB, h.tell.bnd⟩
theorem OwnMsg.msg {w : World} {base : Nat} {sv s1 s2 s3 : Value} {x : SMsg} (h : OwnMsg w base sv s1 s2 s3 x) (hb : BndS x) : MsgIn (fun b => base ≤ b) w sv s1 s2 s3 x :=
  ⟨(Rows.of_owns h.seen).mono (fun b h _ => h.1), h.tell.map hb.tell, hb.frmB, hb.seenB⟩
theorem OwnMsg.below {w w' : World} {base : Nat} {sv s1 s2 s3 : Value} {x : SMsg} (h : OwnMsg w base sv s1 s2 s3 x) (hb : Below w.heap.size w w') : OwnMsg w' base sv s1 s2 s3 x :=
  ⟨own_below h.seen hb, h.tell.below hb⟩
theorem OwnMsg.mono {w : World} {base base' : Nat} {sv s1 s2 s3 : Value} {x : SMsg} (h : OwnMsg w base sv s1 s2 s3 x) (hb : base' ≤ base) : OwnMsg w base' sv s1 s2 s3 x :=
  ⟨own_base h.seen hb, h.tell.mono hb⟩
def OwnMsgV (w : World) (base : Nat) (v : Value) (x : SMsg) : Prop := ∃ sv s1 s2 s3, v = .agg #[.int .i64 x.frm, sv, s1, s2, s3] ∧ OwnMsg w base sv s1 s2 s3 x
theorem OwnMsgV.msg {w : World} {base : Nat} {v : Value} {x : SMsg} (h : OwnMsgV w base v x) (hb : BndS x) : MsgV (fun b => base ≤ b) w v x := by
  obtain ⟨sv, s1, s2, s3, rfl, h⟩ := h
  exact ⟨sv, s1, s2, s3, rfl, h.msg hb⟩
theorem OwnMsgV.below {w w' : World} {base : Nat} {v : Value} {x : SMsg} (h : OwnMsgV w base v x) (hb : Below w.heap.size w w') : OwnMsgV w' base v x := by
  obtain ⟨sv, s1, s2, s3, rfl, h⟩ := h
  exact ⟨sv, s1, s2, s3, rfl, h.below hb⟩
def MPost (w : World) (mr : SMsg × Int) (e : Ending) (w' : World) : Prop :=
  (∃ r, e = .returned (.tuple #[r, .int .i64 mr.2]) ∧ OwnMsgV w' w.heap.size r mr.1 ∧ BndS mr.1) ∧ Below w.heap.size w w'
theorem bndS_empty : BndS .empty := ⟨⟨by decide, by decide⟩, nofun, ⟨nofun, nofun, nofun⟩⟩
def nilM : Value := .agg #[.int .i64 0, .slice none 0 0, .slice none 0 0, .slice none 0 0, .slice none 0 0]
theorem ownM_nil (w : World) (base : Nat) : OwnMsgV w base nilM .empty := ⟨_, _, _, _, rfl, World.ownsRow_nil _ _ _ _, World.ownsRow_nil _ _ _ _, World.ownsRow_nil _ _ _ _, World.ownsRow_nil _ _ _ _⟩
theorem cell5 {W : World} {b : Nat} {c0 c1 c2 c3 c4 : Value} {t : TypeId} (h : Blk W b [c0, c1, c2, c3, c4] t) : W.cell? ⟨b, 0, none⟩ = some c0 ∧ W.cell? ⟨b, 1, none⟩ = some c1 ∧ W.cell? ⟨b, 2, none⟩ = some c2 ∧ W.cell? ⟨b, 3, none⟩ = some c3 ∧ W.cell? ⟨b, 4, none⟩ = some c4 :=
  ⟨h.cell 0, h.cell 1, h.cell 2, h.cell 3, h.cell 4⟩
theorem fin5 {w W : World} {B b : Nat} {x0 x1 x2 x3 x4 : Value} {t : TypeId} (kr : Blk W b [x0, x1, x2, x3, x4] t) (hb : Below B w W) (hB : B ≤ b) (s0 s1 s2 s3 s4 : Value) :
    ∃ wf, wf = ((((W.setCell ⟨b, 0, none⟩ s0).setCell ⟨b, 1, none⟩ s1).setCell ⟨b, 2, none⟩ s2).setCell ⟨b, 3, none⟩ s3).setCell ⟨b, 4, none⟩ s4 ∧ Blk wf b [s0, s1, s2, s3, s4] t ∧ Below B w wf :=
  ⟨_, rfl, ((((kr.set 0 s0).set 1 s1).set 2 s2).set 3 s3).set 4 s4, ((((hb.setCell (p := ⟨b, 0, none⟩) hB _).setCell (p := ⟨b, 1, none⟩) hB _).setCell (p := ⟨b, 2, none⟩) hB _).setCell (p := ⟨b, 3, none⟩) hB _).setCell (p := ⟨b, 4, none⟩) hB _⟩
theorem OwnMsg.fin {W wf : World} {base b : Nat} {sv s1 s2 s3 : Value} {x : SMsg} {L : List Value} {t : TypeId} (h : OwnMsg W base sv s1 s2 s3 x) (hb : Blk W b L t) (h1 : t ≠ 3) (h2 : t ≠ 50) (h3 : t ≠ 95) {c0 c1 c2 c3 c4 : Value}
    (hwf : wf = ((((W.setCell ⟨b, 0, none⟩ c0).setCell ⟨b, 1, none⟩ c1).setCell ⟨b, 2, none⟩ c2).setCell ⟨b, 3, none⟩ c3).setCell ⟨b, 4, none⟩ c4) : OwnMsg wf base sv s1 s2 s3 x := by
  have one : ∀ {W : World} {L : List Value} (i : Nat) (u : Value), OwnMsg W base sv s1 s2 s3 x → Blk W b L t → OwnMsg (W.setCell ⟨b, i, none⟩ u) base sv s1 s2 s3 x := fun i u h hb =>
    ⟨own_setCell h.seen hb (Ne.symm h1) u, own_setCell h.tell.seen hb (Ne.symm h1) u, own_setCell h.tell.items hb (Ne.symm h2) u, own_setCell h.tell.gone hb (Ne.symm h3) u⟩
  rw [hwf]
  exact one 4 _ (one 3 _ (one 2 _ (one 1 _ (one 0 _ h hb) (hb.set 0 _)) ((hb.set 0 _).set 1 _)) (((hb.set 0 _).set 1 _).set 2 _)) ((((hb.set 0 _).set 1 _).set 2 _).set 3 _)
end Go.Proofs.YtkkacnfpdafadaaGreatDoor

namespace Go.Proofs.YtkkacnfpdafadaaGreatDoor
open Go.RowKit Go.Lib
set_option linter.unusedVariables false
set_option maxRecDepth 20000

def MBS (W : World) (O : Nat) (x : SMsg) : Prop := ∃ s0 e0 s1 e1 s2 e2 s3 e3, Blk W O [.int .i64 x.frm, .slice s0 x.seen.length e0, .slice s1 x.tell.seen.length e1, .slice s2 x.tell.items.length e2, .slice s3 x.tell.gone.length e3] 39 ∧
  MsgIn (fun q => q < W.heap.size) W (.slice s0 x.seen.length e0) (.slice s1 x.tell.seen.length e1) (.slice s2 x.tell.items.length e2) (.slice s3 x.tell.gone.length e3) x
theorem MBS.keep {W W' : World} {O : Nat} {x : SMsg} (h : MBS W O x) (hb : Below W.heap.size W W') : MBS W' O x := by
  obtain ⟨s0, e0, s1, e1, s2, e2, s3, e3, h1, h2⟩ := h
  exact ⟨s0, e0, s1, e1, s2, e2, s3, e3, h1.keep (hb.block _ h1.lt), (h2.keep (w' := W') fun q hq _ => hb.block q hq).mono fun q hq _ => Nat.lt_of_lt_of_le hq hb.size⟩
def HasS (L : List (Nat × SMsg)) (W : World) : Prop := ∀ p ∈ L, MBS W p.1 p.2
theorem HasS.keep {L : List (Nat × SMsg)} {W W' : World} (h : HasS L W) (hb : Below W.heap.size W W') : HasS L W' := fun p hp => (h p hp).keep hb
theorem HasS.cons {L : List (Nat × SMsg)} {W : World} (h : HasS L W) {O : Nat} {m : SMsg} (hm : MBS W O m) : HasS ((O, m) :: L) W := fun p hp => by
  rcases List.mem_cons.1 hp with rfl | hp
  · exact hm
  · exact h p hp
theorem HasS.get {L : List (Nat × SMsg)} {W : World} (h : HasS L W) (O : Nat) (m : SMsg) (hp : (O, m) ∈ L) : MBS W O m := h _ hp
theorem HasS.nil (W : World) : HasS [] W := nofun
def NonePost (w : World) (e : Ending) (w' : World) : Prop := ∃ v, e = .returned v ∧ v = .slice (some ⟨w.heap.size, 0, none⟩) 8 8 ∧ Blk w' w.heap.size ((List.replicate 8 (0 : Int)).map eI) 3 ∧ Below w.heap.size w w'
section
attribute [local go_sem ↓] seal_make
set_option maxHeartbeats 1000000 in
theorem none_any (w : World) : Calls Tryz.prog 36 #[] w (NonePost w) := by
  obtain ⟨i0, q1, q2, q3, q4⟩ := info_parts infoI
  obtain ⟨w2, hr, hown, hgb⟩ := run_make_full (P := Tryz.prog) w w.heap.size 22 3 i0 _ 1 Tryz.underlying22 q1 q2 q3 .i64 .i64 8 (by rw [q4]; omega) (by unfold maxLen; omega) (by omega)
  have hr' : (MK 22 (.int .i64 8) (.int .i64 8)).run Tryz.prog w = .ok (.slice (some ⟨w.heap.size, 0, none⟩) 8 8) w2 := hr
  rw [made8] at hown
  have hS : Blk w2 w.heap.size ((List.replicate 8 (0 : Int)).map eI) 3 := by
    rcases hown.2 with ⟨h0, -⟩ | ⟨g, cap, cur, hv, hb, hg, hc, hm, hs, ht⟩
    · simp at h0
    · simp at hv
      obtain ⟨rfl, rfl⟩ := hv
      unfold Blk
      rw [hg]
      have hl : cur.toList.length = 8 := by simpa using hs
      rw [List.take_of_length_le (by omega)] at ht
      have : cur = ((List.replicate 8 (0 : Int)).map eI).toArray := by
        apply Array.toList_inj.1
        rw [ht]
      rw [this]
  have hb2 : Below w.heap.size w w2 := (Below.refl w.heap.size w).grown hgb (by omega) (by simp)
  have HS := Lib.hid hS; have Hb2 := Lib.hid hb2
  clear hr hown hgb hS hb2 q1 q2 q3 q4
  go_enter Tryz.func36, Tryz.ntmps36
  go_wp2_with fail
  go_ret
  exact ⟨_, rfl, rfl, HS.out, Hb2.out⟩
end
end Go.Proofs.YtkkacnfpdafadaaGreatDoor
