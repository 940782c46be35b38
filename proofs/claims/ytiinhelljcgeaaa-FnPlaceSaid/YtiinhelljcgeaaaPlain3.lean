/-
  Plain mathematics of the laws on turns, crossings and ways. No program in sight; no condition.
-/
import Derived.Test.YtiinhelljcgeaaaPlain2
namespace Go.Proofs.Ytiinhelljcgeaaa
set_option linter.unusedVariables false
open Go.RowKit

theorem sgn_minus' (x : Int) : sgn (-x) = -sgn x := by unfold sgn; split; split; omega; split <;> omega; split <;> split <;> first | omega | (split <;> omega)
theorem turn_swap (px py qx qy rx ry : Int) : turnZ qx qy px py rx ry = -turnZ px py qx qy rx ry := by
  unfold turnZ
  rw [← sgn_minus']
  congr 1
  unfold crossZ; grind
theorem turn_round (px py qx qy rx ry : Int) : turnZ qx qy rx ry px py = turnZ px py qx qy rx ry := by
  unfold turnZ
  congr 1
  unfold crossZ; grind
theorem sq_sym (px py qx qy : Int) : sqZ qx qy px py = sqZ px py qx qy := by unfold sqZ; grind
theorem turn_same (px py rx ry : Int) : turnZ px py px py rx ry = 0 := by
  unfold turnZ
  rw [sgn_zero]
  unfold crossZ; grind
theorem sq_same (px py : Int) : sqZ px py px py = 0 := by unfold sqZ; grind
theorem crossB_sym (ax ay bx cy px py qx qy : Int) : crossB px py qx qy ax ay bx cy = crossB ax ay bx cy px py qx qy := by unfold crossB; rw [Bool.and_comm]
theorem meetB_sym (ax ay bx cy px py qx qy : Int) : meetB px py qx qy ax ay bx cy = meetB ax ay bx cy px py qx qy := by
  unfold meetB
  rw [crossB_sym]
  cases crossB ax ay bx cy px py qx qy <;> cases onB ax ay bx cy px py <;> cases onB ax ay bx cy qx qy <;> cases onB px py qx qy ax ay <;> cases onB px py qx qy bx cy <;> rfl
theorem cross_meet {ax ay bx cy px py qx qy : Int} (h : crossB ax ay bx cy px py qx qy = true) : meetB ax ay bx cy px py qx qy = true := by unfold meetB; rw [h]; rfl
theorem cross_signs {ax ay bx cy px py qx qy : Int} (h : crossB ax ay bx cy px py qx qy = true) :
    (0 < crossZ px py qx qy ax ay ∧ crossZ px py qx qy bx cy < 0) ∨ (crossZ px py qx qy ax ay < 0 ∧ 0 < crossZ px py qx qy bx cy) := by
  unfold crossB at h
  simp only [Bool.and_eq_true, decide_eq_true_eq] at h
  have h2 := h.2
  unfold turnZ at h2
  generalize crossZ px py qx qy ax ay = a at *
  generalize crossZ px py qx qy bx cy = b at *
  have sa := @sgn_pos_iff a
  have sb := @sgn_pos_iff b
  have na := @sgn_neg_iff a
  have nb := @sgn_neg_iff b
  generalize sgn a = s at *
  generalize sgn b = t at *
  rcases Int.lt_or_le 0 s with g | g
  · rcases Int.lt_or_le t 0 with k | k
    · left; exact ⟨sa.1 g, nb.1 k⟩
    · have := Int.mul_nonneg (show 0 ≤ s by omega) k; omega
  · rcases Int.lt_or_le 0 t with k | k
    · rcases Int.lt_or_le s 0 with m | m
      · right; exact ⟨na.1 m, sb.1 k⟩
      · have : s = 0 := by omega
        rw [this] at h2; simp at h2
    · have := Int.mul_nonneg (show 0 ≤ -s by omega) (show 0 ≤ -t by omega)
      rw [Int.neg_mul_neg] at this; omega
theorem low_pos {n d : Int} (h0 : 0 < n) (h1 : n < d) : 0 < lowN n d ∧ lowN n d < lowD n d := by
  unfold lowN lowD
  have hg : 0 < (Int.gcd n d : Int) := by
    have : 0 < Int.gcd n d := Int.gcd_pos_of_ne_zero_left _ (by omega)
    omega
  obtain ⟨k, hk⟩ := @Int.gcd_dvd_left n d
  obtain ⟨m, hm⟩ := @Int.gcd_dvd_right n d
  generalize (Int.gcd n d : Int) = g at *
  have e1 : n / g = k := by rw [hk]; exact Int.mul_ediv_cancel_left _ (by omega)
  have e2 : d / g = m := by rw [hm]; exact Int.mul_ediv_cancel_left _ (by omega)
  rw [e1, e2]
  constructor
  · rcases Int.lt_or_le 0 k with h | h
    · exact h
    · have := Int.mul_nonneg (show 0 ≤ g by omega) (show 0 ≤ -k by omega)
      rw [Int.mul_neg] at this; omega
  · rcases Int.lt_or_le k m with h | h
    · exact h
    · have := Int.mul_nonneg (show 0 ≤ g by omega) (show 0 ≤ k - m by omega)
      rw [Int.mul_sub] at this; omega
theorem way_swap (ax ay bx cy px py qx qy : Int) : wayZ ax ay bx cy qx qy px py = -wayZ ax ay bx cy px py qx qy := by
  unfold wayZ
  rw [turn_swap px py qx qy ax ay, turn_swap px py qx qy bx cy, Int.neg_mul_neg]
  generalize turnZ ax ay bx cy px py = s
  generalize turnZ ax ay bx cy qx qy = t
  generalize turnZ px py qx qy ax ay * turnZ px py qx qy bx cy = m
  by_cases h1 : 0 < s <;> by_cases h2 : 0 < t <;> by_cases h3 : 0 < m <;> simp [h1, h2, h3]
theorem way_cases (ax ay bx cy px py qx qy : Int) : wayZ ax ay bx cy px py qx qy = 0 ∨ (wayZ ax ay bx cy px py qx qy = 1 ∧ turnZ ax ay bx cy px py ≤ 0 ∧ turnZ ax ay bx cy qx qy = 1) ∨ (wayZ ax ay bx cy px py qx qy = -1 ∧ turnZ ax ay bx cy px py = 1 ∧ turnZ ax ay bx cy qx qy ≤ 0) := by
  have b1 := turn_bd (show turnZ ax ay bx cy px py = _ from rfl)
  have b2 := turn_bd (show turnZ ax ay bx cy qx qy = _ from rfl)
  unfold wayZ
  generalize turnZ ax ay bx cy px py = s at *
  generalize turnZ ax ay bx cy qx qy = t at *
  generalize turnZ px py qx qy ax ay * turnZ px py qx qy bx cy = m
  by_cases h1 : 0 < s <;> by_cases h2 : 0 < t <;> by_cases h3 : 0 < m <;> simp [h1, h2, h3] <;> omega
end Go.Proofs.Ytiinhelljcgeaaa
