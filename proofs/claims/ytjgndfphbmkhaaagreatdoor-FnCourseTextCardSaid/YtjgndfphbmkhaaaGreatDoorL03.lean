/-
  What the functions on tracks return: contracts of the program's, the reference's and the laws' functions. Their conditions stand with each.
-/
import Derived.Test.YtjgndfphbmkhaaaGreatDoorL02e
import Derived.Test.YtjgndfphbmkhaaaGreatDoorTrk
namespace Go.Proofs.YtjgndfphbmkhaaaGreatDoor
set_option linter.unusedVariables false
open Go.RowKit Go.Deep

theorem FixBlk.set {w : World} {g : Nat} {T : TypeId} {l : List Fx} (h : FixBlk w g T l) (a : Addr) (v : Value) (hne : g ≠ a.block) : FixBlk (w.setCell a v) g T l := (heap_setCell_other w a g v hne).trans h
end Go.Proofs.YtjgndfphbmkhaaaGreatDoor
