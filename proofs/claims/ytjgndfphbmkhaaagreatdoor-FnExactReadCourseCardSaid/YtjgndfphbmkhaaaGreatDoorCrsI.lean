/-
  The mark with a name: the program's and the reference's. Conditions: where the marks lie.
-/
import Derived.Test.YtjgndfphbmkhaaaGreatDoorCrsH
namespace Go.Proofs.YtjgndfphbmkhaaaGreatDoor
set_option linter.unusedVariables false
open Go.RowKit Go.Deep

theorem hid_row {w w' : World} {a : Option Addr} {xs : List Value} (h : Hid (RowAt w a xs)) (hb : Below w.heap.size w w') : RowAt w' a xs := h.out.below hb
noncomputable def mnR (x0 x1 x2 x3 x4 x5 x6 x7 : Int) (l : List Mk) (s : ByteArray) : Int × Int := if courseOK x0 x1 x2 x3 x4 x5 x6 x7 l = true then (if nmIx l s < 0 then (0, 4) else (nmIx l s, 0)) else (0, 1)

end Go.Proofs.YtjgndfphbmkhaaaGreatDoor
