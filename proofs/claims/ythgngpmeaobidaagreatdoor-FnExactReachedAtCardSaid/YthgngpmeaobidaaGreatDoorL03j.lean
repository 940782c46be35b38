/-
  The way of a leg, its speed: the program's and the reference's. Conditions: the cells lie in the world; what else stands with each.
-/
import Derived.Test.YthgngpmeaobidaaGreatDoorL03g
namespace Go.Proofs.YthgngpmeaobidaaGreatDoor
set_option linter.unusedVariables false
open Go.RowKit Go.Deep

end Go.Proofs.YthgngpmeaobidaaGreatDoor
