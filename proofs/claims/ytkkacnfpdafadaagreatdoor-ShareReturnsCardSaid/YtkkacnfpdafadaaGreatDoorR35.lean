/-
  RDecQ RefCode RRdR RRdS Ref01 Ref30 RRefV RRefF RDecF RDecG RRef1 RRef2 RRef4 SRef1 SRef2 RItem RRef5
-/
import Derived.Test.YtkkacnfpdafadaaGreatDoorR03
import Derived.Test.YtkkacnfpdafadaaGreatDoorR07
import Derived.Test.YtkkacnfpdafadaaGreatDoorR13
import Derived.Test.YtkkacnfpdafadaaGreatDoorR25
import Derived.Test.YtkkacnfpdafadaaGreatDoorR16
import Derived.Test.YtkkacnfpdafadaaGreatDoorR05
import Derived.Test.YtkkacnfpdafadaaGreatDoorR11
import Derived.Test.YtkkacnfpdafadaaGreatDoorR15
import Derived.Lib.MapLaws
import Derived.Test.YtkkacnfpdafadaaGreatDoorR10
import Derived.Test.YtkkacnfpdafadaaGreatDoorR02
import Derived.Sort.Walk0
import Derived.Laws.Cover1
import Derived.Test.YtkkacnfpdafadaaGreatDoorR18
import Derived.Test.YtkkacnfpdafadaaGreatDoorR28
import Derived.Test.YtkkacnfpdafadaaGreatDoorR24
import Derived.Test.YtkkacnfpdafadaaGreatDoorR30
namespace Go.Proofs.YtkkacnfpdafadaaGreatDoor
set_option linter.unusedVariables false
set_option maxRecDepth 20000

end Go.Proofs.YtkkacnfpdafadaaGreatDoor

namespace Go.Proofs.YtkkacnfpdafadaaGreatDoor
open Go.RowKit
set_option linter.unusedVariables false
set_option maxRecDepth 20000
attribute [local go_sem ↓] seal_append

def Out (w wr : World) (base : Nat) (s : Value) (l : List UInt8) : Prop := wr.ownsRow base 5 1 s l.length (l.map B) ∧ Below base w wr ∧ base ≤ wr.heap.size
theorem Out.alloc {w wr : World} {base : Nat} {s : Value} {l : List UInt8} (h : Out w wr base s l) (o : Obj) : Out w (wr.alloc o) base s l :=
  ⟨own_below h.1 (kept_alloc _ _), h.2.1.alloc h.2.2 _, Nat.le_trans h.2.2 (by simp)⟩
end Go.Proofs.YtkkacnfpdafadaaGreatDoor

namespace Go.Proofs.YtkkacnfpdafadaaGreatDoor
open Go.RowKit Go.Lib
set_option linter.unusedVariables false
set_option maxRecDepth 20000
attribute [local go_sem ↓] seal_append
attribute [local go_sem] opC upC

end Go.Proofs.YtkkacnfpdafadaaGreatDoor

namespace Go.Proofs.YtkkacnfpdafadaaGreatDoor
open Go.RowKit Go.Lib
set_option linter.unusedVariables false
set_option maxRecDepth 20000
attribute [local go_sem] opC upC

def RfAt (W : World) (R : Nat) (av : Option Addr) (cap : Nat) (b : List UInt8) (st : RdSt) : Prop :=
  ∃ (k : Nat) (bad : Bool), Blk W R [.slice av b.length cap, .int .i64 (k : Int), .bool bad] 165 ∧ k ≤ b.length ∧ st = if bad then none else some (b.drop k)
theorem RfAt.keep {W W' : World} {R : Nat} {av : Option Addr} {cap : Nat} {b : List UInt8} {st : RdSt} (h : RfAt W R av cap b st) (hb : W'.heap[R]? = W.heap[R]?) : RfAt W' R av cap b st := by
  obtain ⟨k, bad, h1, h2, h3⟩ := h
  exact ⟨k, bad, h1.keep hb, h2, h3⟩
theorem RfAt.lt {W : World} {R : Nat} {av : Option Addr} {cap : Nat} {b : List UInt8} {st : RdSt} (h : RfAt W R av cap b st) : R < W.heap.size := by
  obtain ⟨k, bad, h1, -⟩ := h
  exact h1.lt
end Go.Proofs.YtkkacnfpdafadaaGreatDoor

namespace Go.Proofs.YtkkacnfpdafadaaGreatDoor
open Go.RowKit Go.Lib
set_option linter.unusedVariables false
set_option maxRecDepth 20000

end Go.Proofs.YtkkacnfpdafadaaGreatDoor

namespace Go.Proofs.YtkkacnfpdafadaaGreatDoor
open Go.RowKit Go.Lib
set_option linter.unusedVariables false
set_option maxRecDepth 20000
attribute [local go_sem ↓] seal_append
attribute [local go_sem] opC upC

end Go.Proofs.YtkkacnfpdafadaaGreatDoor

namespace Go.Proofs.YtkkacnfpdafadaaGreatDoor
open Go.RowKit
set_option linter.unusedVariables false
set_option maxRecDepth 20000
attribute [local go_sem] opC upC

end Go.Proofs.YtkkacnfpdafadaaGreatDoor

namespace Go.Proofs.YtkkacnfpdafadaaGreatDoor
open Go.RowKit
set_option linter.unusedVariables false
set_option maxRecDepth 20000
attribute [local go_sem] opC upC

end Go.Proofs.YtkkacnfpdafadaaGreatDoor

namespace Go.Proofs.YtkkacnfpdafadaaGreatDoor
open Go.RowKit Go.Lib
set_option linter.unusedVariables false
set_option maxRecDepth 20000
attribute [local go_sem ↓] seal_append
attribute [local go_sem] opC upC

structure FDec (w : World) (M : Nat) (av : Option Addr) (cap : Nat) (b : List UInt8) (W : World) (l : List Int) (its : List RIt) (gs : List RGo) (az : Option Addr) (cz : Nat) (ai : Option Addr) (ci : Nat) (ag : Option Addr) (cg : Nat) (st : RdSt) : Prop where
  bel : Below w.heap.size w W
  res : Blk W w.heap.size [.slice none 0 0, .slice none 0 0, .slice none 0 0] 26
  rd : RfAt W (w.heap.size + 1) av cap b st
  map : Blk W M [.slice az l.length cz, .slice ai its.length ci, .slice ag gs.length cg] 26
  hM : w.heap.size + 1 < M
  seen : W.ownsRow (M + 1) 3 1 (.slice az l.length cz) l.length (l.map eI)
  items : W.ownsRow (M + 1) 92 4 (.slice ai its.length ci) its.length (its.flatMap encIt)
  gone : W.ownsRow (M + 1) 94 3 (.slice ag gs.length cg) gs.length (gs.flatMap encGo)
section
variable {w : World} {M : Nat} {av : Option Addr} {cap : Nat} {b : List UInt8} {W W' : World} {l : List Int} {its : List RIt} {gs : List RGo} {az : Option Addr} {cz : Nat} {ai : Option Addr} {ci : Nat} {ag : Option Addr} {cg : Nat} {st : RdSt}
theorem RfAt.blk {R : Nat} (h : RfAt W R av cap b st) : ∃ L, Blk W R L 165 := by
  obtain ⟨k, bad, h1, -⟩ := h
  exact ⟨_, h1⟩
theorem FDec.read (h : FDec w M av cap b W l its gs az cz ai ci ag cg st) (ho : Only (fun q => q = w.heap.size + 1) W W') {st' : RdSt} (hr : RfAt W' (w.heap.size + 1) av cap b st') : FDec w M av cap b W' l its gs az cz ai ci ag cg st' := by
  have hM := h.hM
  exact ⟨h.bel.trans (ho.below (fun q hq => by have hq' : q = w.heap.size + 1 := hq; omega) h.bel.size), h.res.keep (ho.block _ h.res.lt (by show ¬ w.heap.size = w.heap.size + 1; omega)), hr, h.map.keep (ho.block _ h.map.lt (by show ¬ M = w.heap.size + 1; omega)), hM, own_only h.seen ho (fun q hq => by show ¬ q = w.heap.size + 1; omega), own_only h.items ho (fun q hq => by show ¬ q = w.heap.size + 1; omega), own_only h.gone ho (fun q hq => by show ¬ q = w.heap.size + 1; omega)⟩
theorem FDec.kept (h : FDec w M av cap b W l its gs az cz ai ci ag cg st) (hb : Below W.heap.size W W') : FDec w M av cap b W' l its gs az cz ai ci ag cg st := by
  have hR : w.heap.size + 1 < W.heap.size := h.rd.lt
  exact ⟨h.bel.trans (hb.mono h.bel.size), h.res.keep (hb.block _ h.res.lt), h.rd.keep (hb.block _ hR), h.map.keep (hb.block _ h.map.lt), h.hM, own_below h.seen hb, own_below h.items hb, own_below h.gone hb⟩
theorem FDec.far (h : FDec w M av cap b W l its gs az cz ai ci ag cg st) {X : Nat} (hX : M < X) (h0 : ∀ q, (Value.slice az l.length cz).ownBlock = some q → q ≠ X) (h1 : ∀ q, (Value.slice ai its.length ci).ownBlock = some q → q ≠ X) (h2 : ∀ q, (Value.slice ag gs.length cg).ownBlock = some q → q ≠ X) (i : Nat) (u : Value) : FDec w M av cap b (W.setCell ⟨X, i, none⟩ u) l its gs az cz ai ci ag cg st := by
  have hM := h.hM
  exact ⟨h.bel.setCell (p := ⟨X, i, none⟩) (by show w.heap.size ≤ X; omega) _, h.res.set_other _ (by show w.heap.size ≠ X; omega), h.rd.keep (Below.heap_setCell _ _ _ _ (by show w.heap.size + 1 ≠ X; omega)), h.map.set_other _ (by show M ≠ X; omega), hM, own_setFar h.seen h0 u, own_setFar h.items h1 u, own_setFar h.gone h2 u⟩
theorem FDec.sn (h : FDec w M av cap b W l its gs az cz ai ci ag cg st) {x : Int} {a5 : Option Addr} {c5 : Nat} (hg : W.grownBy W' (Value.slice az l.length cz).ownBlock)
    (ho : W'.ownsRow (M + 1) 3 1 (.slice a5 (l.length + 1) c5) (l.length + 1) (l.map eI ++ [eI x])) : FDec w M av cap b (W'.setCell ⟨M, 0, none⟩ (.slice a5 (l.length + 1) c5)) (l ++ [x]) its gs a5 c5 ai ci ag cg st := by
  have hM := h.hM
  obtain ⟨k, bad, hr, hk, hst⟩ := h.rd
  have hm := h.map.grownNe h.seen (by decide) hg
  have hb : Below w.heap.size w W' := h.bel.trans (Below.grownOwn h.seen hg h.bel.size (by omega))
  have e1 : (l ++ [x]).length = l.length + 1 := by simp
  have hr' := (hr.grownNe h.seen (by decide) hg).set_other (.slice a5 (l.length + 1) c5) (a := ⟨M, 0, none⟩) (by show w.heap.size + 1 ≠ M; omega)
  have hnew : (W'.setCell ⟨M, 0, none⟩ (.slice a5 (l.length + 1) c5)).ownsRow (M + 1) 3 1 (.slice a5 (l ++ [x]).length c5) (l ++ [x]).length ((l ++ [x]).map eI) := by
    rw [e1]
    have := own_setCell (i := 0) ho hm (by decide) (.slice a5 (l.length + 1) c5)
    simpa using this
  have hmap := hm.set 0 (.slice a5 (l.length + 1) c5)
  rw [← e1] at hmap
  rw [← e1] at hnew hr' ⊢
  exact ⟨hb.setCell (p := ⟨M, 0, none⟩) (by show w.heap.size ≤ M; omega) _, (h.res.grownNe h.seen (by decide) hg).set_other _ (by show w.heap.size ≠ M; omega), ⟨k, bad, hr', hk, hst⟩, hmap, hM, hnew, own_setCell (own_grownNe h.items h.seen (by decide) hg) hm (by decide) _, own_setCell (own_grownNe h.gone h.seen (by decide) hg) hm (by decide) _⟩
theorem FDec.item (h : FDec w M av cap b W l its gs az cz ai ci ag cg st) {x : RIt} {a5 : Option Addr} {c5 : Nat} (hg : W.grownBy W' (Value.slice ai its.length ci).ownBlock)
    (ho : W'.ownsRow (M + 1) 92 4 (.slice a5 (its.length + 1) c5) (its.length + 1) (its.flatMap encIt ++ encIt x)) : FDec w M av cap b (W'.setCell ⟨M, 1, none⟩ (.slice a5 (its.length + 1) c5)) l (its ++ [x]) gs az cz a5 c5 ag cg st := by
  have hM := h.hM
  obtain ⟨k, bad, hr, hk, hst⟩ := h.rd
  have hm := h.map.grownNe h.items (by decide) hg
  have hb : Below w.heap.size w W' := h.bel.trans (Below.grownOwn h.items hg h.bel.size (by omega))
  have e1 : (its ++ [x]).length = its.length + 1 := by simp
  have hr' := (hr.grownNe h.items (by decide) hg).set_other (.slice a5 (its.length + 1) c5) (a := ⟨M, 1, none⟩) (by show w.heap.size + 1 ≠ M; omega)
  have hnew : (W'.setCell ⟨M, 1, none⟩ (.slice a5 (its.length + 1) c5)).ownsRow (M + 1) 92 4 (.slice a5 (its ++ [x]).length c5) (its ++ [x]).length ((its ++ [x]).flatMap encIt) := by
    rw [e1]
    have := own_setCell (i := 1) ho hm (by decide) (.slice a5 (its.length + 1) c5)
    simpa using this
  have hmap := hm.set 1 (.slice a5 (its.length + 1) c5)
  rw [← e1] at hmap
  rw [← e1] at hnew hr' ⊢
  exact ⟨hb.setCell (p := ⟨M, 1, none⟩) (by show w.heap.size ≤ M; omega) _, (h.res.grownNe h.items (by decide) hg).set_other _ (by show w.heap.size ≠ M; omega), ⟨k, bad, hr', hk, hst⟩, hmap, hM, own_setCell (own_grownNe h.seen h.items (by decide) hg) hm (by decide) _, hnew, own_setCell (own_grownNe h.gone h.items (by decide) hg) hm (by decide) _⟩
theorem FDec.gon (h : FDec w M av cap b W l its gs az cz ai ci ag cg st) {x : RGo} {a5 : Option Addr} {c5 : Nat} (hg : W.grownBy W' (Value.slice ag gs.length cg).ownBlock)
    (ho : W'.ownsRow (M + 1) 94 3 (.slice a5 (gs.length + 1) c5) (gs.length + 1) (gs.flatMap encGo ++ encGo x)) : FDec w M av cap b (W'.setCell ⟨M, 2, none⟩ (.slice a5 (gs.length + 1) c5)) l its (gs ++ [x]) az cz ai ci a5 c5 st := by
  have hM := h.hM
  obtain ⟨k, bad, hr, hk, hst⟩ := h.rd
  have hm := h.map.grownNe h.gone (by decide) hg
  have hb : Below w.heap.size w W' := h.bel.trans (Below.grownOwn h.gone hg h.bel.size (by omega))
  have e1 : (gs ++ [x]).length = gs.length + 1 := by simp
  have hr' := (hr.grownNe h.gone (by decide) hg).set_other (.slice a5 (gs.length + 1) c5) (a := ⟨M, 2, none⟩) (by show w.heap.size + 1 ≠ M; omega)
  have hnew : (W'.setCell ⟨M, 2, none⟩ (.slice a5 (gs.length + 1) c5)).ownsRow (M + 1) 94 3 (.slice a5 (gs ++ [x]).length c5) (gs ++ [x]).length ((gs ++ [x]).flatMap encGo) := by
    rw [e1]
    have := own_setCell (i := 2) ho hm (by decide) (.slice a5 (gs.length + 1) c5)
    simpa using this
  have hmap := hm.set 2 (.slice a5 (gs.length + 1) c5)
  rw [← e1] at hmap
  rw [← e1] at hnew hr' ⊢
  exact ⟨hb.setCell (p := ⟨M, 2, none⟩) (by show w.heap.size ≤ M; omega) _, (h.res.grownNe h.gone (by decide) hg).set_other _ (by show w.heap.size ≠ M; omega), ⟨k, bad, hr', hk, hst⟩, hmap, hM, own_setCell (own_grownNe h.seen h.gone (by decide) hg) hm (by decide) _, own_setCell (own_grownNe h.items h.gone (by decide) hg) hm (by decide) _, hnew⟩
theorem FDec.mapV {n : Nat} (h : FDec w M av cap b W l its gs az cz ai ci ag cg st) (h1 : ∀ x ∈ l, 0 ≤ x ∧ x ≤ 1099511627776) (h2 : ∀ x ∈ its, ItB n x) (h3 : ∀ x ∈ gs, GoB n x) (hn : n ≤ 1000000) :
    MapV (fun q => w.heap.size < q) W (.agg #[.slice az l.length cz, .slice ai its.length ci, .slice ag gs.length cg]) ⟨l, its, gs⟩ := by
  have hM := h.hM
  refine ⟨_, _, _, rfl, (Rows.of_owns h.seen).mono fun q hq _ => by have := hq.1; omega, (Rows.of_owns h.items).mono fun q hq _ => by have := hq.1; omega, (Rows.of_owns h.gone).mono fun q hq _ => by have := hq.1; omega, fun x hx => ?_, fun x hx => ?_, fun x hx => ?_⟩
  · have := h1 x hx; unfold i64ok; omega
  · obtain ⟨k1, k2, k3, k4⟩ := h2 x hx
    unfold i64ok; omega
  · obtain ⟨k1, k2, k3⟩ := h3 x hx
    unfold i64ok; omega
end
end Go.Proofs.YtkkacnfpdafadaaGreatDoor

namespace Go.Proofs.YtkkacnfpdafadaaGreatDoor
open Go.RowKit Go.Lib
set_option linter.unusedVariables false
set_option maxRecDepth 20000
attribute [local go_sem ↓] seal_append
attribute [local go_sem] opC upC

end Go.Proofs.YtkkacnfpdafadaaGreatDoor

namespace Go.Proofs.YtkkacnfpdafadaaGreatDoor
open Go.RowKit
set_option linter.unusedVariables false
set_option maxRecDepth 20000
attribute [local go_sem ↓] seal_append
attribute [local go_sem] opC upC

end Go.Proofs.YtkkacnfpdafadaaGreatDoor

namespace Go.Proofs.YtkkacnfpdafadaaGreatDoor
open Go.RowKit
set_option linter.unusedVariables false
set_option maxRecDepth 20000
attribute [local go_sem ↓] seal_append
attribute [local go_sem] opC upC

end Go.Proofs.YtkkacnfpdafadaaGreatDoor

namespace Go.Proofs.YtkkacnfpdafadaaGreatDoor
open Go.RowKit
set_option linter.unusedVariables false
set_option maxRecDepth 20000
attribute [local go_sem ↓] seal_append

structure RefIn (w : World) (base : Nat) (s1 s2 s3 : Value) (m : RMap) : Prop where
  seen : w.ownsRow base 3 1 s1 m.seen.length (m.seen.map eI)
  items : w.ownsRow base 92 4 s2 m.items.length (m.items.flatMap encIt)
  gone : w.ownsRow base 94 3 s3 m.gone.length (m.gone.flatMap encGo)
theorem RefIn.map {w : World} {base : Nat} {s1 s2 s3 : Value} {m : RMap} (h : RefIn w base s1 s2 s3 m) (hb : Bnd m) : MapIn (fun b => base ≤ b) w s1 s2 s3 m :=
  ⟨(Rows.of_owns h.seen).mono (fun b h _ => h.1), (Rows.of_owns h.items).mono (fun b h _ => h.1), (Rows.of_owns h.gone).mono (fun b h _ => h.1), hb.seenB, hb.itemsB, hb.goneB⟩
theorem RefIn.below {w w' : World} {base : Nat} {s1 s2 s3 : Value} {m : RMap} (h : RefIn w base s1 s2 s3 m) (hb : Below w.heap.size w w') : RefIn w' base s1 s2 s3 m :=
  ⟨own_below h.seen hb, own_below h.items hb, own_below h.gone hb⟩
theorem RefIn.mono {w : World} {base base' : Nat} {s1 s2 s3 : Value} {m : RMap} (h : RefIn w base s1 s2 s3 m) (hb : base' ≤ base) : RefIn w base' s1 s2 s3 m :=
  ⟨own_base h.seen hb, own_base h.items hb, own_base h.gone hb⟩
theorem RefIn.setCell {w : World} {base b i : Nat} {s1 s2 s3 : Value} {m : RMap} {L : List Value} (h : RefIn w base s1 s2 s3 m) (hb : Blk w b L 26) (u : Value) : RefIn (w.setCell ⟨b, i, none⟩ u) base s1 s2 s3 m :=
  ⟨own_setCell h.seen hb (by decide) u, own_setCell h.items hb (by decide) u, own_setCell h.gone hb (by decide) u⟩

end Go.Proofs.YtkkacnfpdafadaaGreatDoor
/- The reference: Use. -/
namespace Go.Proofs.YtkkacnfpdafadaaGreatDoor
open Go.RowKit
set_option linter.unusedVariables false
set_option maxRecDepth 20000
attribute [local go_sem ↓] seal_append
attribute [local go_sem] opC upC

end Go.Proofs.YtkkacnfpdafadaaGreatDoor

namespace Go.Proofs.YtkkacnfpdafadaaGreatDoor
open Go.RowKit
set_option linter.unusedVariables false
set_option maxRecDepth 20000
attribute [local go_sem ↓] seal_append
attribute [local go_sem] opC upC

structure RSt (w2 W : World) (O : Nat) (s1 s2 s3 : Value) (m : RMap) (kp : List RIt) : Prop where
  box : Blk W O [s1, s2, s3] 26
  seen : W.ownsRow w2.heap.size 3 1 s1 m.seen.length (m.seen.map eI)
  items : W.ownsRow (O + 1) 92 4 s2 kp.length (kp.flatMap encIt)
  gone : W.ownsRow w2.heap.size 94 3 s3 m.gone.length (m.gone.flatMap encGo)
  bel : Below w2.heap.size w2 W
  low : w2.heap.size ≤ O
theorem RSt.below {w2 W W' : World} {O : Nat} {s1 s2 s3 : Value} {m : RMap} {kp : List RIt} (h : RSt w2 W O s1 s2 s3 m kp) (hb : Below W.heap.size W W') : RSt w2 W' O s1 s2 s3 m kp :=
  ⟨h.box.keep (hb.block _ h.box.lt), own_below h.seen hb, own_below h.items hb, own_below h.gone hb, h.bel.trans (hb.mono h.bel.size), h.low⟩
end Go.Proofs.YtkkacnfpdafadaaGreatDoor

namespace Go.Proofs.YtkkacnfpdafadaaGreatDoor
open Go.RowKit
set_option linter.unusedVariables false
set_option maxRecDepth 20000
attribute [local go_sem ↓] seal_append
attribute [local go_sem] opC upC

end Go.Proofs.YtkkacnfpdafadaaGreatDoor

namespace Go.Proofs.YtkkacnfpdafadaaGreatDoor
open Go.RowKit
set_option linter.unusedVariables false
set_option maxRecDepth 20000

end Go.Proofs.YtkkacnfpdafadaaGreatDoor

namespace Go.Proofs.YtkkacnfpdafadaaGreatDoor
open Go.RowKit
set_option linter.unusedVariables false
set_option maxRecDepth 20000
attribute [local go_sem ↓] seal_append
attribute [local go_sem] opC upC

end Go.Proofs.YtkkacnfpdafadaaGreatDoor
