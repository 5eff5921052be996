/-
  Kit
-/
import Derived.WalkKit
import Derived.ProofKit
import Derived.Lib.Hide
import Derived.Deep.QuietTactic
import Derived.BigQuiet
namespace Go.Proofs.YtohahloghmanpaaGreatDoor
open Go.RowKit

theorem ret_int {k : IntKind} {a b : Int} (h : a = b) : Ending.returned (.int k a) = .returned (.int k b) := by rw [h]
theorem ret_bool {a b : Bool} (h : a = b) : Ending.returned (.bool a) = .returned (.bool b) := by rw [h]

def OneAt (w : World) (b : Nat) (v : Value) (t : TypeId) : Prop := w.heap[b]? = some (.cells #[v] t (0, 0))

theorem OneAt.cell {w : World} {b : Nat} {v : Value} {t : TypeId} (h : OneAt w b v t) : w.cell? ⟨b, 0, none⟩ = some v := cell_of_one h
theorem OneAt.free {w : World} {b : Nat} {v : Value} {t : TypeId} (h : OneAt w b v t) : w.frozen? ⟨b, 0, none⟩ = false := free_of_one h
theorem OneAt.lt {w : World} {b : Nat} {v : Value} {t : TypeId} (h : OneAt w b v t) : b < w.heap.size := lt_of_block h
theorem OneAt.set {w : World} {b : Nat} {v u : Value} {t : TypeId} (h : OneAt w b v t) : OneAt (w.setCell ⟨b, 0, none⟩ u) b u t := one_setCell h
theorem OneAt.other {w : World} {b : Nat} {v : Value} {t : TypeId} (h : OneAt w b v t) {a : Addr} (u : Value) (hne : b ≠ a.block) : OneAt (w.setCell a u) b v t := by
  unfold OneAt; rw [Below.heap_setCell _ _ _ _ hne]; exact h
theorem OneAt.alloc {w : World} {b : Nat} {v : Value} {t : TypeId} (h : OneAt w b v t) (o : Obj) : OneAt (w.alloc o) b v t := by
  unfold OneAt; rw [Below.heap_alloc _ _ _ h.lt]; exact h
theorem OneAt.new (w : World) (v : Value) (t : TypeId) : OneAt (w.alloc (.cells #[v] t)) w.heap.size v t := by
  unfold OneAt World.alloc; simp
theorem OneAt.below {w w' : World} {b : Nat} {v : Value} {t : TypeId} {B : Nat} (h : OneAt w b v t) (hb : Below B w w') (hlt : b < B) : OneAt w' b v t := by
  unfold OneAt; rw [hb.block b hlt]; exact h

theorem kept_trans {a b c : World} (h : Below a.heap.size a b) (k : Below b.heap.size b c) : Below a.heap.size a c := h.trans (k.mono h.size)
theorem kept_alloc (w : World) (o : Obj) : Below w.heap.size w (w.alloc o) := (Below.refl _ _).alloc (Nat.le_refl _) o

theorem kept_drewN {a w : World} {B : Nat} (h : Below B a w) (n : Nat) : Below B a (w.drewN n) := by
  exact ⟨h.os, h.tape, h.output, h.size, h.block⟩
end Go.Proofs.YtohahloghmanpaaGreatDoor
