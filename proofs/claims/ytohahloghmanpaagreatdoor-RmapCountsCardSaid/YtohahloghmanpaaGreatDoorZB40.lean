/-
  RRef1 RRef2
-/
import Derived.Test.YtohahloghmanpaaGreatDoorZB22
import Derived.Test.YtohahloghmanpaaGreatDoorZB29
namespace Go.Proofs.YtohahloghmanpaaGreatDoor
open Go.RowKit
set_option linter.unusedVariables false
set_option maxRecDepth 20000
attribute [local go_sem ↓] seal_append
attribute [local go_sem] opC upC

end Go.Proofs.YtohahloghmanpaaGreatDoor

namespace Go.Proofs.YtohahloghmanpaaGreatDoor
open Go.RowKit
set_option linter.unusedVariables false
set_option maxRecDepth 20000
attribute [local go_sem ↓] seal_append
attribute [local go_sem] opC upC

end Go.Proofs.YtohahloghmanpaaGreatDoor
