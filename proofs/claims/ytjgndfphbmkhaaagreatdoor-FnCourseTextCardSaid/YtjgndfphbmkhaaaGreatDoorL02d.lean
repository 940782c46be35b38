/-
  What the functions of layer 2 on the place of a crossing return: contracts of the program's and of the reference's functions. Their conditions stand with each.
-/
import Derived.Test.YtjgndfphbmkhaaaGreatDoorL02c
import Derived.Test.YtjgndfphbmkhaaaGreatDoorHeld
namespace Go.Proofs.YtjgndfphbmkhaaaGreatDoor
set_option linter.unusedVariables false
open Go.RowKit Go.Deep

/-- where the line through t meets s: the turns' sizes of the ends of s -/
def hasPl (a b : Int) : Bool := !(decide (0 < a ∧ 0 < b) || decide (a < 0 ∧ b < 0) || decide (a = 0 ∧ b = 0))
def plN (a b : Int) : Int := lowN (max a (-a)) (max (a - b) (b - a))
def plD (a b : Int) : Int := lowD (max a (-a)) (max (a - b) (b - a))
def placeR (ax ay bx cy px py qx qy : Int) : Int × Int × Int :=
  if isSeg ax ay bx cy && isSeg px py qx qy then
    (if hasPl (crossZ px py qx qy ax ay) (crossZ px py qx qy bx cy) then (plN (crossZ px py qx qy ax ay) (crossZ px py qx qy bx cy), plD (crossZ px py qx qy ax ay) (crossZ px py qx qy bx cy), 0) else (0, 0, 4))
  else (0, 0, 1)
theorem cross_bd {px py qx qy rx ry a : Int} (h : crossZ px py qx qy rx ry = a) (hp : isPt px py = true) (hq : isPt qx qy = true) (hr : isPt rx ry = true) : -8000000000000 ≤ a ∧ a ≤ 8000000000000 := by
  obtain ⟨p1, p2, p3, p4⟩ := isPt_true hp
  obtain ⟨q1, q2, q3, q4⟩ := isPt_true hq
  obtain ⟨r1, r2, r3, r4⟩ := isPt_true hr
  rw [← h]
  unfold crossZ
  have m1 := @mul_bd2 (qx - px) (ry - py) (by omega) (by omega) (by omega) (by omega)
  have m2 := @mul_bd2 (qy - py) (rx - px) (by omega) (by omega) (by omega) (by omega)
  omega
theorem pl_of {a b x y : Int} (h1 : max a (-a) = x) (h2 : max (a - b) (b - a) = y) : lowN x y = plN a b ∧ lowD x y = plD a b := by
  unfold plN plD; rw [h1, h2]; exact ⟨rfl, rfl⟩
theorem placeR_yes {ax ay bx cy px py qx qy a b : Int} (h1 : isSeg ax ay bx cy = true) (h2 : isSeg px py qx qy = true) (e1 : crossZ px py qx qy ax ay = a) (e2 : crossZ px py qx qy bx cy = b) (h : hasPl a b = true) : placeR ax ay bx cy px py qx qy = (plN a b, plD a b, 0) := by
  unfold placeR; rw [e1, e2]; simp [h1, h2, h]
theorem placeR_no {ax ay bx cy px py qx qy a b : Int} (h1 : isSeg ax ay bx cy = true) (h2 : isSeg px py qx qy = true) (e1 : crossZ px py qx qy ax ay = a) (e2 : crossZ px py qx qy bx cy = b) (h : hasPl a b = false) : placeR ax ay bx cy px py qx qy = (0, 0, 4) := by
  unfold placeR; rw [e1, e2]; simp [h1, h2, h]
theorem placeR_bad {ax ay bx cy px py qx qy : Int} (h : (isSeg ax ay bx cy && isSeg px py qx qy) = false) : placeR ax ay bx cy px py qx qy = (0, 0, 1) := by
  unfold placeR; rw [h]; rfl
theorem hasPl_iff (a b : Int) : hasPl a b = true ↔ ¬ (0 < a ∧ 0 < b) ∧ ¬ (a < 0 ∧ b < 0) ∧ ¬ (a = 0 ∧ b = 0) := by
  unfold hasPl; simp only [Bool.not_eq_true', Bool.or_eq_false_iff, decide_eq_false_iff_not]; constructor <;> intro h <;> omega
theorem hasPl_no {a b : Int} (h : (0 < a ∧ 0 < b) ∨ (a < 0 ∧ b < 0) ∨ (a = 0 ∧ b = 0)) : hasPl a b = false := by
  rw [Bool.eq_false_iff, Ne, hasPl_iff]; omega
theorem sgn_1 {a : Int} (h : 0 < a) : sgn a = 1 := by unfold sgn; rw [if_pos h]
theorem sgn_m {a : Int} (h : a < 0) : sgn a = -1 := by unfold sgn; rw [if_neg (by omega), if_pos h]

theorem pl_tuple {x y a b : Int} {c : Value} (h : lowN x y = plN a b ∧ lowD x y = plD a b) : Ending.returned (.tuple #[.agg #[.int .i64 (lowN x y), .int .i64 (lowD x y)], c]) = .returned (.tuple #[.agg #[.int .i64 (plN a b), .int .i64 (plD a b)], c]) := by rw [h.1, h.2]
end Go.Proofs.YtjgndfphbmkhaaaGreatDoor
