/-
  RRef6 SRef3 SRDec
-/
import Derived.Test.YtkkacnfpdafadaaGreatDoorR35
import Derived.Test.YtkkacnfpdafadaaGreatDoorR36
import Derived.Test.YtkkacnfpdafadaaGreatDoorR34
namespace Go.Proofs.YtkkacnfpdafadaaGreatDoor
open Go.RowKit
set_option linter.unusedVariables false
set_option maxRecDepth 20000
attribute [local go_sem ↓] seal_append
attribute [local go_sem] opC upC

structure FSt (w2 wr : World) (S ob : Nat) (s1 si s3 al : Value) (zs : List Int) (cur : List RGo) (cu3 kp : List RIt) : Prop where
  blk : Blk wr ob [s1, si, s3] 26
  seen : wr.ownsRow w2.heap.size 3 1 s1 zs.length (zs.map eI)
  gone : wr.ownsRow w2.heap.size 94 3 s3 cur.length (cur.flatMap encGo)
  all : wr.ownsRow w2.heap.size 92 4 al cu3.length (cu3.flatMap encIt)
  new : wr.ownsRow S 92 4 si kp.length (kp.flatMap encIt)
  bel : Below w2.heap.size w2 wr
  sle : w2.heap.size ≤ S
  sle2 : S ≤ wr.heap.size
theorem FSt.below {w2 wr w' : World} {S ob : Nat} {s1 si s3 al : Value} {zs : List Int} {cur : List RGo} {cu3 kp : List RIt} (h : FSt w2 wr S ob s1 si s3 al zs cur cu3 kp) (hb : Below wr.heap.size wr w') : FSt w2 w' S ob s1 si s3 al zs cur cu3 kp :=
  ⟨h.blk.keep (hb.block _ h.blk.lt), own_below h.seen hb, own_below h.gone hb, own_below h.all hb, own_below h.new hb, h.bel.trans (hb.mono h.bel.size), h.sle, Nat.le_trans h.sle2 hb.size⟩

end Go.Proofs.YtkkacnfpdafadaaGreatDoor

namespace Go.Proofs.YtkkacnfpdafadaaGreatDoor
open Go.RowKit
set_option linter.unusedVariables false
set_option maxRecDepth 20000
attribute [local go_sem] opC upC

end Go.Proofs.YtkkacnfpdafadaaGreatDoor

namespace Go.Proofs.YtkkacnfpdafadaaGreatDoor
open Go.RowKit Go.Lib
set_option linter.unusedVariables false
set_option maxRecDepth 20000
attribute [local go_sem ↓] seal_append
attribute [local go_sem] opC upC

abbrev IsBytes (w : World) (v : Value) : Prop := ∃ l : List UInt8, Bytes (fun b => b < w.heap.size) w v l
structure SF (w : World) (W : World) (L : List Int) (a : Option Addr) (c : Nat) : Prop where
  bel : Below w.heap.size w W
  res : Blk W w.heap.size [.int .i64 0, .slice none 0 0, .slice none 0 0, .slice none 0 0, .slice none 0 0] 43
  x : Blk W (w.heap.size + 1) [.int .i64 (L.headD 0), .slice a (L.length - 1) c, .slice none 0 0, .slice none 0 0, .slice none 0 0] 43
  seen : W.ownsRow (w.heap.size + 2) 3 1 (.slice a (L.length - 1) c) (L.length - 1) (L.tail.map eI)
theorem SF.keep {w W W' : World} {L : List Int} {a : Option Addr} {c : Nat} (h : SF w W L a c) (hb : Below W.heap.size W W') : SF w W' L a c :=
  ⟨h.bel.trans (hb.mono h.bel.size), h.res.keep (hb.block _ h.res.lt), h.x.keep (hb.block _ h.x.lt), own_below h.seen hb⟩
end Go.Proofs.YtkkacnfpdafadaaGreatDoor
