/-
  LegAt, the program's and the reference's. Conditions: the cells lie in the world.
-/
import Derived.Test.YtiinhelljcgeaaaL03f
namespace Go.Proofs.Ytiinhelljcgeaaa
set_option linter.unusedVariables false
open Go.RowKit Go.Deep

end Go.Proofs.Ytiinhelljcgeaaa
