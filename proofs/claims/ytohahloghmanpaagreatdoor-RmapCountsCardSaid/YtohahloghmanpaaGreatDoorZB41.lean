/-
  RRef4
-/
import Derived.Test.YtohahloghmanpaaGreatDoorZB40
namespace Go.Proofs.YtohahloghmanpaaGreatDoor
open Go.RowKit
set_option linter.unusedVariables false
set_option maxRecDepth 20000
attribute [local go_sem ↓] seal_append

structure RefIn (w : World) (base : Nat) (s1 s2 s3 : Value) (m : RMap) : Prop where
  seen : w.ownsRow base 3 1 s1 m.seen.length (m.seen.map eI)
  items : w.ownsRow base 44 4 s2 m.items.length (m.items.flatMap encIt)
  gone : w.ownsRow base 46 3 s3 m.gone.length (m.gone.flatMap encGo)
theorem RefIn.map {w : World} {base : Nat} {s1 s2 s3 : Value} {m : RMap} (h : RefIn w base s1 s2 s3 m) (hb : Bnd m) : MapIn (fun b => base ≤ b) w s1 s2 s3 m :=
  ⟨(Rows.of_owns h.seen).mono (fun b h _ => h.1), (Rows.of_owns h.items).mono (fun b h _ => h.1), (Rows.of_owns h.gone).mono (fun b h _ => h.1), hb.seenB, hb.itemsB, hb.goneB⟩
theorem RefIn.below {w w' : World} {base : Nat} {s1 s2 s3 : Value} {m : RMap} (h : RefIn w base s1 s2 s3 m) (hb : Below w.heap.size w w') : RefIn w' base s1 s2 s3 m :=
  ⟨own_below h.seen hb, own_below h.items hb, own_below h.gone hb⟩
theorem RefIn.mono {w : World} {base base' : Nat} {s1 s2 s3 : Value} {m : RMap} (h : RefIn w base s1 s2 s3 m) (hb : base' ≤ base) : RefIn w base' s1 s2 s3 m :=
  ⟨own_base h.seen hb, own_base h.items hb, own_base h.gone hb⟩
theorem RefIn.setCell {w : World} {base b i : Nat} {s1 s2 s3 : Value} {m : RMap} {L : List Value} (h : RefIn w base s1 s2 s3 m) (hb : Blk w b L 26) (u : Value) : RefIn (w.setCell ⟨b, i, none⟩ u) base s1 s2 s3 m :=
  ⟨own_setCell h.seen hb (by decide) u, own_setCell h.items hb (by decide) u, own_setCell h.gone hb (by decide) u⟩

end Go.Proofs.YtohahloghmanpaaGreatDoor
/- The reference: Use. -/
namespace Go.Proofs.YtohahloghmanpaaGreatDoor
open Go.RowKit
set_option linter.unusedVariables false
set_option maxRecDepth 20000
attribute [local go_sem ↓] seal_append
attribute [local go_sem] opC upC

end Go.Proofs.YtohahloghmanpaaGreatDoor
