/-
  Plain mathematics of layer 2: segments that meet, ways across a line, ratios. No program in sight; no condition.
-/
import Derived.Test.YtjgndfphbmkhaaaGreatDoorPlain
namespace Go.Proofs.YtjgndfphbmkhaaaGreatDoor
set_option linter.unusedVariables false
open Go.RowKit

/-- a point on a segment, told by the turn and a scalar product; and by the turn and the box -/
def dotZ (ax ay bx cy px py : Int) : Int := (px - ax) * (px - bx) + (py - ay) * (py - cy)
def onB (ax ay bx cy px py : Int) : Bool := decide (turnZ ax ay bx cy px py = 0) && decide (dotZ ax ay bx cy px py ≤ 0)
def boxB (ax ay bx cy px py : Int) : Bool := inR px (min ax bx) (max ax bx) && inR py (min ay cy) (max ay cy)
theorem sgn_zero {n : Int} : sgn n = 0 ↔ n = 0 := by unfold sgn; split; omega; split <;> omega
theorem sgn_neg_iff {n : Int} : sgn n < 0 ↔ n < 0 := by unfold sgn; split; omega; split <;> omega
theorem sgn_pos_iff {n : Int} : 0 < sgn n ↔ 0 < n := by unfold sgn; split; omega; split <;> omega

theorem between_of {u d k D : Int} (hD : 0 < D) (h0 : 0 ≤ k) (h1 : k ≤ D) (e : u * D = d * k) : (0 ≤ d → 0 ≤ u ∧ u ≤ d) ∧ (d ≤ 0 → d ≤ u ∧ u ≤ 0) := by
  have up : ∀ x y : Int, x * D ≤ y * D → x ≤ y := fun x y h => Int.le_of_mul_le_mul_right h hD
  constructor
  · intro hd
    have a := Int.mul_nonneg hd h0
    have b := Int.mul_le_mul_of_nonneg_left h1 hd
    exact ⟨up 0 u (by rw [Int.zero_mul]; omega), up u d (by omega)⟩
  · intro hd
    have a := Int.mul_nonneg (show 0 ≤ -d by omega) h0
    have b := Int.mul_le_mul_of_nonneg_left h1 (show 0 ≤ -d by omega)
    rw [Int.neg_mul] at a b
    rw [Int.neg_mul] at b
    exact ⟨up d u (by omega), up u 0 (by rw [Int.zero_mul]; omega)⟩

theorem on_box {ax ay bx cy px py : Int} (hne : ax ≠ bx ∨ ay ≠ cy) (hc : crossZ ax ay bx cy px py = 0) : dotZ ax ay bx cy px py ≤ 0 ↔ boxB ax ay bx cy px py = true := by
  obtain ⟨u, hu⟩ : ∃ u, u = px - ax := ⟨_, rfl⟩
  obtain ⟨v, hv⟩ : ∃ v, v = py - ay := ⟨_, rfl⟩
  obtain ⟨d, hd⟩ : ∃ d, d = bx - ax := ⟨_, rfl⟩
  obtain ⟨f, hf⟩ : ∃ f, f = cy - ay := ⟨_, rfl⟩
  have hcr : d * v = f * u := by unfold crossZ at hc; rw [hu, hv, hd, hf]; omega
  have hdot : dotZ ax ay bx cy px py = u * (u - d) + v * (v - f) := by
    unfold dotZ
    rw [show px - bx = u - d by omega, show py - cy = v - f by omega, hu, hv]
  have hD : 0 < d * d + f * f := by
    have h1 : 0 ≤ d * d := mul_self_nonneg' d
    have h2 : 0 ≤ f * f := mul_self_nonneg' f
    rcases hne with h | h
    · have := mul_self_pos' (show d ≠ 0 by omega); omega
    · have := mul_self_pos' (show f ≠ 0 by omega); omega
  have e1 : u * (d * d + f * f) = d * (u * d + v * f) := by grind
  have e2 : v * (d * d + f * f) = f * (u * d + v * f) := by grind
  have e3 : (u * (u - d) + v * (v - f)) * (d * d + f * f) = (u * d + v * f) * ((u * d + v * f) - (d * d + f * f)) := by grind
  rw [hdot]
  generalize d * d + f * f = D at *
  generalize u * d + v * f = k at *
  have hbox : boxB ax ay bx cy px py = true ↔ ((0 ≤ d → 0 ≤ u ∧ u ≤ d) ∧ (d ≤ 0 → d ≤ u ∧ u ≤ 0)) ∧ ((0 ≤ f → 0 ≤ v ∧ v ≤ f) ∧ (f ≤ 0 → f ≤ v ∧ v ≤ 0)) := by
    unfold boxB inR
    simp only [Bool.and_eq_true, decide_eq_true_eq]
    omega
  rw [hbox]
  constructor
  · intro hle
    have hk : k * (k - D) ≤ 0 := by
      rw [← e3]
      have := Int.mul_nonneg (show 0 ≤ -(u * (u - d) + v * (v - f)) by omega) (show 0 ≤ D by omega)
      rw [Int.neg_mul] at this
      omega
    have h0 : 0 ≤ k := by
      rcases Int.lt_or_le k 0 with h | h
      · have := Int.mul_pos (show 0 < -k by omega) (show 0 < D - k by omega)
        have e : -k * (D - k) = k * (k - D) := by grind
        omega
      · exact h
    have h1 : k ≤ D := by
      rcases Int.lt_or_le D k with h | h
      · have := Int.mul_pos (show 0 < k by omega) (show 0 < k - D by omega)
        omega
      · exact h
    exact ⟨between_of hD h0 h1 e1, between_of hD h0 h1 e2⟩
  · rintro ⟨⟨a1, a2⟩, b1, b2⟩
    have p1 : u * (u - d) ≤ 0 := by
      rcases Int.le_total 0 d with h | h
      · have := Int.mul_nonneg (a1 h).1 (show 0 ≤ d - u by have := (a1 h).2; omega)
        have e : u * (d - u) = -(u * (u - d)) := by grind
        omega
      · have := Int.mul_nonneg (show 0 ≤ -u by have := (a2 h).2; omega) (show 0 ≤ u - d by have := (a2 h).1; omega)
        rw [Int.neg_mul] at this
        omega
    have p2 : v * (v - f) ≤ 0 := by
      rcases Int.le_total 0 f with h | h
      · have := Int.mul_nonneg (b1 h).1 (show 0 ≤ f - v by have := (b1 h).2; omega)
        have e : v * (f - v) = -(v * (v - f)) := by grind
        omega
      · have := Int.mul_nonneg (show 0 ≤ -v by have := (b2 h).2; omega) (show 0 ≤ v - f by have := (b2 h).1; omega)
        rw [Int.neg_mul] at this
        omega
    omega
theorem onB_box {ax ay bx cy px py : Int} (hne : ax ≠ bx ∨ ay ≠ cy) : (decide (turnZ ax ay bx cy px py = 0) && boxB ax ay bx cy px py) = onB ax ay bx cy px py := by
  unfold onB
  by_cases h : turnZ ax ay bx cy px py = 0
  · have := on_box hne (sgn_zero.1 h)
    simp only [h, decide_true, Bool.true_and]
    rw [Bool.eq_iff_iff, ← this]
    simp
  · simp [h]
theorem crossB_of {ax ay bx cy px py qx qy t1 t2 t3 t4 : Int} {x y : Bool} (e1 : turnZ ax ay bx cy px py = t1) (e2 : turnZ ax ay bx cy qx qy = t2) (e3 : turnZ px py qx qy ax ay = t3) (e4 : turnZ px py qx qy bx cy = t4)
    (g3 : decide (t1 * t2 < 0) = x) (g4 : decide (t3 * t4 < 0) = y) : (x && y) = crossB ax ay bx cy px py qx qy := by unfold crossB; rw [e1, e2, e3, e4, g3, g4]
theorem onB_no {ax ay bx cy px py t1 : Int} (e1 : turnZ ax ay bx cy px py = t1) (g : (t1 == 0) = false) : false = onB ax ay bx cy px py := by
  unfold onB; rw [e1]; simp at g; simp [g]
theorem onB_yes {ax ay bx cy px py t1 : Int} (e1 : turnZ ax ay bx cy px py = t1) (g : (t1 == 0) = true) : decide ((px - ax) * (px - bx) + (py - ay) * (py - cy) ≤ 0) = onB ax ay bx cy px py := by
  unfold onB dotZ; rw [e1, show decide (t1 = 0) = true from by simpa using g, Bool.true_and]
theorem min_max (a b : Int) : (a ≤ b ∧ min a b = a ∧ max a b = b) ∨ (b < a ∧ min a b = b ∧ max a b = a) := by omega
def meetB (ax ay bx cy px py qx qy : Int) : Bool := crossB ax ay bx cy px py qx qy || onB ax ay bx cy px py || onB ax ay bx cy qx qy || onB px py qx qy ax ay || onB px py qx qy bx cy
def meetR (ax ay bx cy px py qx qy : Int) : Bool × Int := if isSeg ax ay bx cy && isSeg px py qx qy then (meetB ax ay bx cy px py qx qy, 0) else (false, 1)
theorem boxB_of {ax ay bx cy px py lx hx ly hy : Int} {r : Bool} (i1 : min ax bx = lx) (i2 : max ax bx = hx) (j1 : min ay cy = ly) (j2 : max ay cy = hy) (h : r = (inR px lx hx && inR py ly hy)) : r = boxB ax ay bx cy px py := by
  unfold boxB; rw [i1, i2, j1, j2]; exact h
theorem boxB_eq {ax ay bx cy px py lx hx ly hy : Int} (i1 : min ax bx = lx) (i2 : max ax bx = hx) (j1 : min ay cy = ly) (j2 : max ay cy = hy) : boxB ax ay bx cy px py = (inR px lx hx && inR py ly hy) := by
  unfold boxB; rw [i1, i2, j1, j2]
theorem meetR_of {ax ay bx cy px py qx qy : Int} (h1 : isSeg ax ay bx cy = true) (h2 : isSeg px py qx qy = true) : meetR ax ay bx cy px py qx qy =
    (((decide (turnZ ax ay bx cy px py * turnZ ax ay bx cy qx qy < 0) && decide (turnZ px py qx qy ax ay * turnZ px py qx qy bx cy < 0)) || (decide (turnZ ax ay bx cy px py = 0) && boxB ax ay bx cy px py) || (decide (turnZ ax ay bx cy qx qy = 0) && boxB ax ay bx cy qx qy) ||
      (decide (turnZ px py qx qy ax ay = 0) && boxB px py qx qy ax ay) || (decide (turnZ px py qx qy bx cy = 0) && boxB px py qx qy bx cy)), 0) := by
  have n1 := (isSeg_true h1).2.2
  have n2 := (isSeg_true h2).2.2
  rw [onB_box n1, onB_box n1, onB_box n2, onB_box n2]
  simp [meetR, h1, h2, meetB, crossB]
def wayZ (ax ay bx cy px py qx qy : Int) : Int :=
  if decide (0 < turnZ ax ay bx cy px py) = decide (0 < turnZ ax ay bx cy qx qy) then 0 else if 0 < turnZ px py qx qy ax ay * turnZ px py qx qy bx cy then 0 else if 0 < turnZ ax ay bx cy qx qy then 1 else -1
theorem wayZ_of {ax ay bx cy px py qx qy t1 t2 t3 t4 : Int} {x y z : Bool} (e1 : turnZ ax ay bx cy px py = t1) (e2 : turnZ ax ay bx cy qx qy = t2) (e3 : turnZ px py qx qy ax ay = t3) (e4 : turnZ px py qx qy bx cy = t4)
    (g1 : decide (0 < t1) = x) (g2 : decide (0 < t2) = y) (g3 : decide (0 < t3 * t4) = z) : (if x = y then 0 else if z = true then 0 else if y = true then 1 else -1 : Int) = wayZ ax ay bx cy px py qx qy := by
  subst g1 g2 g3
  unfold wayZ
  rw [e1, e2, e3, e4]
  simp
def wayR (ax ay bx cy px py qx qy : Int) : Int × Int := if isSeg ax ay bx cy && isPt px py && isPt qx qy then (wayZ ax ay bx cy px py qx qy, 0) else (0, 1)

/-- a ratio in lowest terms; the nearest place -/
def lowN (n d : Int) : Int := n / (Int.gcd n d : Int)
def lowD (n d : Int) : Int := d / (Int.gcd n d : Int)
theorem gcd_step (x y : Nat) (h : y ≠ 0) : Nat.gcd y (x % y) = Nat.gcd x y := by
  rw [Nat.gcd_comm x y, Nat.gcd_rec y x, Nat.gcd_comm]
theorem gcd_done (x : Nat) : Nat.gcd x 0 = x := Nat.gcd_zero_right x
def farZ (ax ay bx cy px py : Int) : Int := (px - ax) * (bx - ax) + (py - ay) * (cy - ay)
def nearN (ax ay bx cy px py : Int) : Int := max 0 (min (farZ ax ay bx cy px py) (sqZ ax ay bx cy))
def nearOK (ax ay bx cy px py : Int) : Bool := isSeg ax ay bx cy && isPt px py
def nearR (ax ay bx cy px py : Int) : Int × Int × Int := if nearOK ax ay bx cy px py then (lowN (nearN ax ay bx cy px py) (sqZ ax ay bx cy), lowD (nearN ax ay bx cy px py) (sqZ ax ay bx cy), 0) else (0, 0, 1)
theorem sq_pos {ax ay bx cy : Int} (h : ax ≠ bx ∨ ay ≠ cy) : 0 < sqZ ax ay bx cy := by
  unfold sqZ
  have h1 : 0 ≤ (ax - bx) * (ax - bx) := mul_self_nonneg' _
  have h2 : 0 ≤ (ay - cy) * (ay - cy) := mul_self_nonneg' _
  rcases h with h | h
  · have := mul_self_pos' (show ax - bx ≠ 0 by omega); omega
  · have := mul_self_pos' (show ay - cy ≠ 0 by omega); omega
theorem sq_bd {ax ay bx cy : Int} (hp : isPt ax ay = true) (hq : isPt bx cy = true) : 0 ≤ sqZ ax ay bx cy ∧ sqZ ax ay bx cy ≤ 8000000000000 := by
  obtain ⟨p1, p2, p3, p4⟩ := isPt_true hp
  obtain ⟨q1, q2, q3, q4⟩ := isPt_true hq
  unfold sqZ
  have h1 : 0 ≤ (ax - bx) * (ax - bx) := mul_self_nonneg' _
  have h2 : 0 ≤ (ay - cy) * (ay - cy) := mul_self_nonneg' _
  have m1 := @mul_bd2 (ax - bx) (ax - bx) (by omega) (by omega) (by omega) (by omega)
  have m2 := @mul_bd2 (ay - cy) (ay - cy) (by omega) (by omega) (by omega) (by omega)
  omega
theorem far_bd {ax ay bx cy px py : Int} (hp : isPt ax ay = true) (hq : isPt bx cy = true) (hr : isPt px py = true) : -8000000000000 ≤ farZ ax ay bx cy px py ∧ farZ ax ay bx cy px py ≤ 8000000000000 := by
  obtain ⟨p1, p2, p3, p4⟩ := isPt_true hp
  obtain ⟨q1, q2, q3, q4⟩ := isPt_true hq
  obtain ⟨r1, r2, r3, r4⟩ := isPt_true hr
  unfold farZ
  have m1 := @mul_bd2 (px - ax) (bx - ax) (by omega) (by omega) (by omega) (by omega)
  have m2 := @mul_bd2 (py - ay) (cy - ay) (by omega) (by omega) (by omega) (by omega)
  omega

end Go.Proofs.YtjgndfphbmkhaaaGreatDoor
