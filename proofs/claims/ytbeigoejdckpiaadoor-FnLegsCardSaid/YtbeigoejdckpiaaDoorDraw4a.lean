/-
  What the reference's functions draw: points and segments. Conditions: the code's bytes lie in the world.
-/
import Derived.Test.YtbeigoejdckpiaaDoorDraw2
import Derived.Test.YtbeigoejdckpiaaDoorDraw3
namespace Go.Proofs.YtbeigoejdckpiaaDoor
set_option linter.unusedVariables false
open Go.RowKit Go.Deep

end Go.Proofs.YtbeigoejdckpiaaDoor
