/-
  SLawD
-/
import Derived.Test.YtkkacnfpdafadaaGreatDoorR37
import Derived.Test.YtkkacnfpdafadaaGreatDoorR38
import Derived.Test.YtkkacnfpdafadaaGreatDoorR39
import Derived.Test.YtkkacnfpdafadaaGreatDoorR44
import Derived.Test.YtkkacnfpdafadaaGreatDoorR45
namespace Go.Proofs.YtkkacnfpdafadaaGreatDoor
open Go.RowKit Go.Lib
set_option linter.unusedVariables false
set_option maxRecDepth 20000
attribute [local go_sem ↓] seal_append
attribute [local go_sem] opC upC

end Go.Proofs.YtkkacnfpdafadaaGreatDoor
