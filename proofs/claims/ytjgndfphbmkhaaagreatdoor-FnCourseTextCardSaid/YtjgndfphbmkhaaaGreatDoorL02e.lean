/-
  What the functions that compare products and ratios return: contracts of the program's, the reference's and the library's functions. Their conditions stand with each.
-/
import Derived.Test.YtjgndfphbmkhaaaGreatDoorL02d
import Derived.Shelf.Bits.Mul64
import Derived.Test.YtjgndfphbmkhaaaGreatDoorSqrt
import Derived.Laws.Externs
namespace Go.Proofs.YtjgndfphbmkhaaaGreatDoor
set_option linter.unusedVariables false
open Go.RowKit Go.Deep Go.Lib

end Go.Proofs.YtjgndfphbmkhaaaGreatDoor
