/-
  What the functions of the leg return: lasts, l03Lasts, l03Leg, legAt, trackCode, LegAt. Conditions: the cells lie in the world; where said, at least two fixes.
-/
import Derived.Test.YthgngpmeaobidaaGreatDoorL03e
namespace Go.Proofs.YthgngpmeaobidaaGreatDoor
set_option linter.unusedVariables false
open Go.RowKit Go.Deep

def lastsB (l : List Fx) (t : Int) : Bool := inR t (fx l 0).t (fx l (l.length - 1)).t
def legS (l : List Fx) (t : Int) : Nat → Nat
  | 0 => 0
  | k + 1 => if (fx l k).t ≤ t then k else legS l t k
theorem legS_le (l : List Fx) (t : Int) : ∀ k, legS l t k ≤ k
  | 0 => Nat.le_refl _
  | k + 1 => by
    have := legS_le l t k
    simp only [legS]; split <;> omega
def legN (l : List Fx) (t : Int) : Nat := legS l t (l.length - 1)
def codeZ (l : List Fx) (t : Int) : Int := if isTrk l = true then (if lastsB l t = true then 0 else 2) else 1
def legR (l : List Fx) (t : Int) : Int × Int := if isTrk l = true then (if lastsB l t = true then (((legN l t : Nat) : Int), 0) else (0, 2)) else (0, 1)

end Go.Proofs.YthgngpmeaobidaaGreatDoor
