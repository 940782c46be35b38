/-
  Rows of points and of marks, marked and compared by the laws. Conditions stand with each.
-/
import Derived.Test.YthgngpmeaobidaaGreatDoorCrsI
import Derived.Test.YthgngpmeaobidaaGreatDoorMark
import Derived.Laws.BytesArg
namespace Go.Proofs.YthgngpmeaobidaaGreatDoor
set_option linter.unusedVariables false
open Go.RowKit Go.Deep

end Go.Proofs.YthgngpmeaobidaaGreatDoor
