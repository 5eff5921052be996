/-
  RDec RCod
-/
import Derived.Test.YtohahloghmanpaaGreatDoorZB03
import Derived.Test.YtohahloghmanpaaGreatDoorZB08
import Derived.Test.YtohahloghmanpaaGreatDoorZB11
import Derived.Test.YtohahloghmanpaaGreatDoorZB12
import Derived.Test.YtohahloghmanpaaGreatDoorZB16
import Derived.Laws.BitsAllLaws
import Derived.Laws.Shifts
import Derived.Defers
import Derived.Recover
import Derived.WalkLawsBesides
namespace Go.Proofs.YtohahloghmanpaaGreatDoor
set_option linter.unusedVariables false
set_option maxRecDepth 20000

/-! a reader: what is still to be read; none: something was wrong -/
abbrev RdSt := Option (List UInt8)
/-! what was read -/
def ItB (n : Nat) (x : RIt) : Prop := x.key.length ≤ n ∧ (0 ≤ x.dev ∧ x.dev ≤ 1099511627776) ∧ (0 ≤ x.seq ∧ x.seq ≤ 1099511627776) ∧ 0 ≤ x.val ∧ x.val ≤ 1099511627776
def GoB (n : Nat) (x : RGo) : Prop := x.key.length ≤ n ∧ (0 ≤ x.dev ∧ x.dev ≤ 1099511627776) ∧ 0 ≤ x.seq ∧ x.seq ≤ 1099511627776
/-! a code that was read to its end is the code of what was read -/
/-! the code of a valid map is read -/
end Go.Proofs.YtohahloghmanpaaGreatDoor

namespace Go.Proofs.YtohahloghmanpaaGreatDoor
open Go.RowKit
set_option linter.unusedVariables false
set_option maxRecDepth 20000
attribute [local go_sem] opC upC

end Go.Proofs.YtohahloghmanpaaGreatDoor
