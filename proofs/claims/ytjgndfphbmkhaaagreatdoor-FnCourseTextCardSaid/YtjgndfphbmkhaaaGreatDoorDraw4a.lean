/-
  What the reference's functions draw: points and segments. Conditions: the code's bytes lie in the world.
-/
import Derived.Test.YtjgndfphbmkhaaaGreatDoorDraw2
import Derived.Test.YtjgndfphbmkhaaaGreatDoorDraw3
namespace Go.Proofs.YtjgndfphbmkhaaaGreatDoor
set_option linter.unusedVariables false
open Go.RowKit Go.Deep

end Go.Proofs.YtjgndfphbmkhaaaGreatDoor
