/-
  Plain mathematics of the law on distances from a segment. No condition.
-/
import Derived.Test.YtiinhelljcgeaaaL02f
import Derived.Test.YtiinhelljcgeaaaPlain3
namespace Go.Proofs.Ytiinhelljcgeaaa
set_option linter.unusedVariables false
open Go.RowKit

theorem far_rev (ax ay bx cy px py : Int) : farZ bx cy ax ay px py = sqZ ax ay bx cy - farZ ax ay bx cy px py := by unfold farZ sqZ; grind
theorem cross_rev (ax ay bx cy px py : Int) : crossZ bx cy ax ay px py = -crossZ ax ay bx cy px py := by unfold crossZ; grind
theorem within_rev (ax ay bx cy px py d : Int) (hs : 0 < sqZ ax ay bx cy) : withinB bx cy ax ay px py d = withinB ax ay bx cy px py d := by
  unfold withinB
  rw [far_rev, cross_rev, Int.neg_mul_neg, sq_sym ax ay bx cy]
  generalize farZ ax ay bx cy px py = f
  generalize sqZ ax ay bx cy = s at *
  by_cases h1 : f ≤ 0
  · rw [if_neg (show ¬ s - f ≤ 0 by omega), if_pos (show s ≤ s - f by omega), if_pos h1]
  · by_cases h2 : s ≤ f
    · rw [if_pos (show s - f ≤ 0 by omega), if_neg h1, if_pos h2]
    · rw [if_neg (show ¬ s - f ≤ 0 by omega), if_neg (show ¬ s ≤ s - f by omega), if_neg h1, if_neg h2]
theorem within_more {ax ay bx cy px py d : Int} (hs : 0 ≤ sqZ ax ay bx cy) (hd : 0 ≤ d) (h : withinB ax ay bx cy px py d = true) : withinB ax ay bx cy px py (d + 1) = true := by
  have hdd : d * d ≤ (d + 1) * (d + 1) := Int.mul_le_mul (by omega) (by omega) hd (by omega)
  unfold withinB at *
  generalize (d + 1) * (d + 1) = E at *
  generalize d * d = D at *
  split at h
  · rename_i g
    rw [if_pos g]
    simp at h ⊢; omega
  · rename_i g
    rw [if_neg g]
    split at h
    · rename_i k
      rw [if_pos k]
      simp at h ⊢; omega
    · rename_i k
      rw [if_neg k]
      have := Int.mul_nonneg (show 0 ≤ E - D by omega) hs
      rw [Int.sub_mul] at this
      simp at h ⊢; omega
end Go.Proofs.Ytiinhelljcgeaaa
