/-
  FloatQ
-/
import Derived.Test.YtkkacnfpdafadaaGreatDoorP27
namespace Go.Proofs.YtkkacnfpdafadaaGreatDoor
open Go
set_option linter.unusedVariables false
set_option maxRecDepth 20000

structure LaterQ (B0 : Nat) (Q : TypeId → Prop) (w w' : World) : Prop where
  os : w'.os = w.os
  tape : w'.tape = w.tape
  output : w'.output = w.output
  size : w.heap.size ≤ w'.heap.size
  block : ∀ b, b < w.heap.size → (∀ L T, B0 ≤ b → Q T → ¬ Blk w b L T) → w'.heap[b]? = w.heap[b]?
  typed : ∀ b L T, B0 ≤ b → Q T → Blk w b L T → ∃ L', Blk w' b L' T ∧ L'.length = L.length
theorem laterQ_refl (B0 : Nat) (Q : TypeId → Prop) (w : World) : LaterQ B0 Q w w := ⟨rfl, rfl, rfl, Nat.le_refl _, fun _ _ _ => rfl, fun _ L _ _ _ h => ⟨L, h, rfl⟩⟩
theorem laterQ_trans (B0 : Nat) (Q : TypeId → Prop) (a b c : World) (h : LaterQ B0 Q a b) (k : LaterQ B0 Q b c) : LaterQ B0 Q a c :=
  ⟨k.os.trans h.os, k.tape.trans h.tape, k.output.trans h.output, Nat.le_trans h.size k.size,
    fun x hx hn => (k.block x (Nat.lt_of_lt_of_le hx h.size) fun L T hL hT hb => hn L T hL hT ((h.block x hx hn).symm.trans hb)).trans (h.block x hx hn),
    fun x L T hL hT hb => by
      obtain ⟨L1, h1, e1⟩ := h.typed x L T hL hT hb
      obtain ⟨L2, h2, e2⟩ := k.typed x L1 T hL hT h1
      exact ⟨L2, h2, e2.trans e1⟩⟩
theorem LaterQ.of_later {B0 : Nat} {Q : TypeId → Prop} {w w' : World} (h : Later w w') : LaterQ B0 Q w w' :=
  ⟨h.os, h.tape, h.output, h.size, fun b hb _ => h.block b hb, fun b L _ _ _ hb => ⟨L, hb.keep (h.block b hb.lt), rfl⟩⟩
theorem LaterQ.below {B0 : Nat} {Q : TypeId → Prop} {w w' : World} (h : LaterQ B0 Q w w') (hB : B0 ≤ w.heap.size) : RowKit.Below B0 w w' :=
  ⟨h.os, h.tape, h.output, h.size, fun b hb => h.block b (Nat.lt_of_lt_of_le hb hB) fun L T hL => absurd hL (by omega)⟩
theorem LaterQ.set {B0 : Nat} {Q : TypeId → Prop} {w : World} {b : Nat} {L : List Value} {T : TypeId} (hb : Blk w b L T) (hT : Q T) (hB : B0 ≤ b) (i : Nat) (u : Value) : LaterQ B0 Q w (w.setCell ⟨b, i, none⟩ u) := by
  refine ⟨rfl, rfl, rfl, by simp [World.setCell], fun x hx hn => ?_, fun x M t hx ht hM => ?_⟩
  · exact RowKit.Below.heap_setCell _ _ _ _ fun e => hn L T (by rw [e]; exact hB) hT (by rw [e]; exact hb)
  · by_cases he : x = b
    · subst he
      exact ⟨_, hM.set i u, by simp⟩
    · exact ⟨M, hM.set_other u he, rfl⟩
theorem LaterQ.blk {B0 : Nat} {Q : TypeId → Prop} {t : TypeId} {w w' : World} (h : LaterQ B0 Q w w') {b : Nat} {L : List Value} (hb : Blk w b L t) (hne : ¬ Q t) : Blk w' b L t :=
  hb.keep (h.block b hb.lt fun M T _ hT hM => hne ((hb.inj hM).2 ▸ hT))
theorem LaterQ.own {B0 : Nat} {Q : TypeId → Prop} {w w' : World} (h : LaterQ B0 Q w w') {base : Nat} {e : TypeId} {k n : Nat} {v : Value} {xs : List Value} (ho : w.ownsRow base e k v n xs) (hne : ¬ Q e) : w'.ownsRow base e k v n xs := by
  refine ⟨ho.1, ?_⟩
  rcases ho.2 with h0 | ⟨g, cap, cur, hv, hb, hg, hr⟩
  · exact .inl h0
  · refine .inr ⟨g, cap, cur, hv, hb, ?_, hr⟩
    rw [h.block g (lt_of_block hg) fun L T _ hT hL => ?_]
    · exact hg
    · unfold Blk at hL
      rw [hg] at hL
      simp at hL
      exact hne (hL.2 ▸ hT)
def FreshQ (B0 : Nat) (tp : Nat → TypeId) (n : Nat → Nat) (j : Nat) (v : Value) (W : World) : Prop := ∃ b L, v = .pointer (some ⟨b, 0, none⟩) ∧ B0 ≤ b ∧ Blk W b L (tp j) ∧ L.length = n j
theorem floatsQ_of {P : Program} {ops : Array Oper} {w0 : World} {B0 : Nat} {Q : TypeId → Prop} {tp : Nat → TypeId} {n : Nat → Nat} {FL : List Nat} (cs : Nat → Array Value) (hcs : ∀ j, FL.contains j = true → (cs j).size = n j) (hQ : ∀ j, Q (tp j)) (hB : B0 ≤ w0.heap.size)
    (hr : ∀ j, FL.contains j = true → ∃ o, ops[j]? = some o ∧ o.guard = none ∧ ∀ (a : Act) (W : World), (execOp a.eval o).run P W = .ok (.value (.pointer (some ⟨W.heap.size, 0, none⟩))) (W.alloc (.cells (cs j) (tp j))))
    (hd : ∀ i j, FL.contains i = true → FL.contains j = true → i ≠ j → ∀ d, dstF ops i = some d → dstF ops j ≠ some d) : Floats P ops (LaterQ B0 Q) (FreshQ B0 tp n) w0 FL := by
  refine ⟨fun j hj => ?_, fun j v w w' hc ⟨b, L, hv, hb, hk, hl⟩ => ?_, hd⟩
  · obtain ⟨o, ho, hg, hrun⟩ := hr j hj
    refine ⟨o, ho, hg, fun a W hW => ?_⟩
    unfold opC
    rw [hrun a W]
    refine ⟨LaterQ.of_later (RowKit.Below.refl W.heap.size W |>.alloc (Nat.le_refl _) _), ⟨_, _, rfl, Nat.le_trans hB hW.size, Blk.new _ _ _, by simpa using hcs j hj⟩, ?_⟩
    rintro k u ⟨b, L, rfl, -, hb, -⟩ he
    have hlt := hb.lt
    simp at he
    try omega
  · obtain ⟨L', h1, h2⟩ := hc.typed b L (tp j) hb (hQ j) hk
    exact ⟨b, L', hv, hb, h1, h2.trans hl⟩
end Go.Proofs.YtkkacnfpdafadaaGreatDoor
