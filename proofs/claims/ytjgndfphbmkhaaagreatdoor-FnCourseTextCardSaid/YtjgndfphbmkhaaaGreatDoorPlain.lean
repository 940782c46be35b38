/-
  Plain mathematics: what the functions of the program's first two layers compute, said of integers. No program in sight; no condition.
-/
import Derived.WalkKit
namespace Go.Proofs.YtjgndfphbmkhaaaGreatDoor
set_option linter.unusedVariables false
open Go.RowKit

/-- n is from lo to hi. -/
def inR (n lo hi : Int) : Bool := decide (lo ≤ n) && decide (n ≤ hi)
theorem inR_true {n lo hi : Int} (h : inR n lo hi = true) : lo ≤ n ∧ n ≤ hi := by simpa [inR] using h
theorem inR_mk {n lo hi : Int} (h : lo ≤ n) (h' : n ≤ hi) : inR n lo hi = true := by simp [inR, h, h']
theorem inR_false {n lo hi : Int} (h : inR n lo hi = false) : n < lo ∨ hi < n := by
  unfold inR at h
  simp at h
  omega
def isPt (x y : Int) : Bool := inR x (-1000000) 1000000 && inR y (-1000000) 1000000
theorem isPt_true {x y : Int} (h : isPt x y = true) : -1000000 ≤ x ∧ x ≤ 1000000 ∧ -1000000 ≤ y ∧ y ≤ 1000000 := by
  simp [isPt] at h
  have h1 := inR_true h.1
  have h2 := inR_true h.2
  omega
theorem isPt_mk {x y : Int} (h : -1000000 ≤ x) (h1 : x ≤ 1000000) (h2 : -1000000 ≤ y) (h3 : y ≤ 1000000) : isPt x y = true := by
  simp [isPt, inR_mk h h1, inR_mk h2 h3]
def samePt (ax ay bx by_ : Int) : Bool := decide (ax = bx) && decide (ay = by_)
def isSeg (ax ay bx by_ : Int) : Bool := isPt ax ay && isPt bx by_ && !samePt ax ay bx by_
theorem isSeg_true {ax ay bx cy : Int} (h : isSeg ax ay bx cy = true) : isPt ax ay = true ∧ isPt bx cy = true ∧ (ax ≠ bx ∨ ay ≠ cy) := by
  simp [isSeg, samePt] at h
  exact ⟨h.1.1, h.1.2, h.2⟩

theorem isSeg_no1 {ax ay bx cy : Int} (h : isPt ax ay = false) : false = isSeg ax ay bx cy := by simp [isSeg, h]
theorem isSeg_no2 {ax ay bx cy : Int} (h : isPt bx cy = false) : false = isSeg ax ay bx cy := by simp [isSeg, h]
theorem isSeg_same {ax ay bx cy : Int} (h : ax = bx) (h' : ay = cy) : false = isSeg ax ay bx cy := by simp [isSeg, samePt, h, h']
theorem isSeg_ne1 {ax ay bx cy : Int} (h1 : isPt ax ay = true) (h2 : isPt bx cy = true) (h : ¬ ax = bx) : true = isSeg ax ay bx cy := by simp [isSeg, samePt, h1, h2, h]
theorem isSeg_ne2 {ax ay bx cy : Int} (h1 : isPt ax ay = true) (h2 : isPt bx cy = true) (h : ¬ ay = cy) : true = isSeg ax ay bx cy := by simp [isSeg, samePt, h1, h2, h]

/-- the sign -/
def sgn (n : Int) : Int := if 0 < n then 1 else if n < 0 then -1 else 0
theorem sgn_bd (n : Int) : -1 ≤ sgn n ∧ sgn n ≤ 1 := by unfold sgn; split; omega; split <;> omega
def crossZ (px py qx qy rx ry : Int) : Int := (qx - px) * (ry - py) - (qy - py) * (rx - px)
def turnZ (px py qx qy rx ry : Int) : Int := sgn (crossZ px py qx qy rx ry)

/-- a product of two numbers of known size -/
theorem mul_bd {a b m n : Int} (h1 : -m ≤ a) (h2 : a ≤ m) (h3 : -n ≤ b) (h4 : b ≤ n) : -(m * n) ≤ a * b ∧ a * b ≤ m * n := by
  have e1 : 0 ≤ (m - a) * (n - b) := Int.mul_nonneg (by omega) (by omega)
  have e2 : 0 ≤ (m + a) * (n + b) := Int.mul_nonneg (by omega) (by omega)
  have e3 : 0 ≤ (m - a) * (n + b) := Int.mul_nonneg (by omega) (by omega)
  have e4 : 0 ≤ (m + a) * (n - b) := Int.mul_nonneg (by omega) (by omega)
  simp only [Int.mul_add, Int.add_mul, Int.mul_sub, Int.sub_mul] at e1 e2 e3 e4
  constructor <;> omega
theorem mul_bd2 {a b : Int} (h1 : -2000000 ≤ a) (h2 : a ≤ 2000000) (h3 : -2000000 ≤ b) (h4 : b ≤ 2000000) : -4000000000000 ≤ a * b ∧ a * b ≤ 4000000000000 := mul_bd h1 h2 h3 h4

def sqZ (px py qx qy : Int) : Int := (px - qx) * (px - qx) + (py - qy) * (py - qy)
def isVec (x y : Int) : Bool := inR x (-2000000) 2000000 && inR y (-2000000) 2000000
theorem isVec_true {x y : Int} (h : isVec x y = true) : -2000000 ≤ x ∧ x ≤ 2000000 ∧ -2000000 ≤ y ∧ y ≤ 2000000 := by
  simp [isVec] at h
  have h1 := inR_true h.1
  have h2 := inR_true h.2
  omega
theorem isVec_sub {px py qx qy : Int} (hp : isPt px py = true) (hq : isPt qx qy = true) : isVec (px - qx) (py - qy) = true := by
  have h1 := isPt_true hp
  have h2 := isPt_true hq
  simp [isVec, inR]
  omega

/-- division, rounded down -/
theorem div_neg {a b : Int} (hb : 1 ≤ b) (h : a.tmod b < 0) : a.tdiv b - 1 = a / b := by
  have e := Int.mul_tdiv_add_tmod a b
  have l := Int.lt_tmod_of_pos a (show 0 < b by omega)
  refine (((Int.ediv_emod_unique (a := a) (b := b) (r := a.tmod b + b) (q := a.tdiv b - 1) (by omega)).2 ⟨?_, by omega, by omega⟩).1).symm
  rw [Int.mul_sub]
  omega
theorem div_pos {a b : Int} (hb : 1 ≤ b) (h : 0 ≤ a.tmod b) : a.tdiv b = a / b := by
  have e := Int.mul_tdiv_add_tmod a b
  have l := Int.tmod_lt_of_pos a (show 0 < b by omega)
  refine (((Int.ediv_emod_unique (a := a) (b := b) (r := a.tmod b) (q := a.tdiv b) (by omega)).2 ⟨?_, by omega, by omega⟩).1).symm
  omega
theorem div_bd {a b : Int} (hb : 1 ≤ b) : (0 ≤ a → 0 ≤ a / b ∧ a / b ≤ a) ∧ (a ≤ 0 → a ≤ a / b ∧ a / b ≤ 0) := by
  constructor
  · intro h
    exact ⟨Int.ediv_nonneg h (by omega), Int.ediv_le_self b h⟩
  · intro h
    constructor
    · rw [Int.le_ediv_iff_mul_le (by omega)]
      have := Int.mul_nonneg (show 0 ≤ -a by omega) (show 0 ≤ b - 1 by omega)
      rw [Int.mul_sub, Int.neg_mul] at this
      omega
    · have := Int.ediv_mul_le a (show b ≠ 0 by omega)
      rcases Int.lt_or_le 0 (a / b) with h1 | h1
      · have := Int.mul_pos h1 (show 0 < b by omega)
        omega
      · exact h1
theorem wrap_div_neg {a b : Int} (hb : 1 ≤ b) (ha : -9223372036854775807 ≤ a) (ha2 : a ≤ 9223372036854775807) (h : a.tmod b < 0) : wrap64 (a.tdiv b - 1) = a / b := by
  rw [div_neg hb h]
  have := div_bd (a := a) hb
  refine IntWalk.wrap64_in _ ⟨?_, ?_⟩ <;> omega

/-- the pieces of results -/
def floorR (a b : Int) : Int × Int := if inR b 1 1000000000000000000 && inR a (-1000000000000000000) 1000000000000000000 then (a / b, 0) else (0, 2)
def sqR (px py qx qy : Int) : Int × Int := if isPt px py && isPt qx qy then (sqZ px py qx qy, 0) else (0, 1)
def turnR (px py qx qy rx ry : Int) : Int × Int := if isPt px py && isPt qx qy && isPt rx ry then (turnZ px py qx qy rx ry, 0) else (0, 1)

def beforeR (ax ay bx cy px py : Int) : Int × Int := if isSeg ax ay bx cy && isPt px py then (turnZ ax ay bx cy px py, 0) else (0, 1)
theorem mul_self_nonneg' (a : Int) : 0 ≤ a * a := by
  rcases Int.le_total 0 a with h | h
  · exact Int.mul_nonneg h h
  · have := Int.mul_nonneg (show 0 ≤ -a by omega) (show 0 ≤ -a by omega)
    rwa [Int.neg_mul_neg] at this
theorem mul_self_pos' {a : Int} (h : a ≠ 0) : 0 < a * a := by
  rcases Int.lt_or_lt_of_ne h with h | h
  · have := Int.mul_pos (show 0 < -a by omega) (show 0 < -a by omega)
    rwa [Int.neg_mul_neg] at this
  · exact Int.mul_pos h h
def crossB (ax ay bx cy px py qx qy : Int) : Bool := decide (turnZ ax ay bx cy px py * turnZ ax ay bx cy qx qy < 0) && decide (turnZ px py qx qy ax ay * turnZ px py qx qy bx cy < 0)
def crossR (ax ay bx cy px py qx qy : Int) : Bool × Int := if isSeg ax ay bx cy && isSeg px py qx qy then (crossB ax ay bx cy px py qx qy, 0) else (false, 1)
theorem turn_bd {ax ay bx cy px py t : Int} (h : turnZ ax ay bx cy px py = t) : -1 ≤ t ∧ t ≤ 1 := by
  rw [← h]; exact sgn_bd _
theorem sgn_mul {ax ay bx cy px py t ax' ay' bx' cy' px' py' t' : Int} (h : turnZ ax ay bx cy px py = t) (h' : turnZ ax' ay' bx' cy' px' py' = t') : -1 ≤ t * t' ∧ t * t' ≤ 1 := by
  have a := turn_bd h
  have b := turn_bd h'
  exact mul_bd a.1 a.2 b.1 b.2

end Go.Proofs.YtjgndfphbmkhaaaGreatDoor
