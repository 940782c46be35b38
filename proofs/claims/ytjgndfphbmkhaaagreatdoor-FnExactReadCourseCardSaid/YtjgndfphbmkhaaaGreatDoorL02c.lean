/-
  What the functions of layer 2 on ratios and places return: contracts of the program's and of the reference's functions. Their conditions stand with each.
-/
import Derived.Test.YtjgndfphbmkhaaaGreatDoorL02
import Derived.Test.YtjgndfphbmkhaaaGreatDoorPlain2
namespace Go.Proofs.YtjgndfphbmkhaaaGreatDoor
set_option linter.unusedVariables false
open Go.RowKit Go.Deep

theorem wrap_quo (N g : Nat) (hg : (1 : Int) ≤ g) (hN : N ≤ 4611686018427387904) : wrap64 ((N : Int) / (g : Int)) = (N : Int) / (g : Int) := by
  have := (div_bd (a := (N : Int)) hg).1 (by omega)
  refine IntWalk.wrap64_in _ ⟨?_, ?_⟩ <;> omega

theorem nearR_no {ax ay bx cy px py : Int} (h : nearOK ax ay bx cy px py = false) : nearR ax ay bx cy px py = (0, 0, 1) := by simp [nearR, h]
theorem nearR_yes {ax ay bx cy px py : Int} (h : nearOK ax ay bx cy px py = true) : nearR ax ay bx cy px py = (lowN (nearN ax ay bx cy px py) (sqZ ax ay bx cy), lowD (nearN ax ay bx cy px py) (sqZ ax ay bx cy), 0) := by simp [nearR, h]
end Go.Proofs.YtjgndfphbmkhaaaGreatDoor
