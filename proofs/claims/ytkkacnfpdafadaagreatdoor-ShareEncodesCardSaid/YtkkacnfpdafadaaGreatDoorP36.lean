/-
  RRef1
-/
import Derived.Test.YtkkacnfpdafadaaGreatDoorP35
import Derived.Test.YtkkacnfpdafadaaGreatDoorP18
namespace Go.Proofs.YtkkacnfpdafadaaGreatDoor
open Go.RowKit
set_option linter.unusedVariables false
set_option maxRecDepth 20000
attribute [local go_sem ↓] seal_append
attribute [local go_sem] opC upC

end Go.Proofs.YtkkacnfpdafadaaGreatDoor
