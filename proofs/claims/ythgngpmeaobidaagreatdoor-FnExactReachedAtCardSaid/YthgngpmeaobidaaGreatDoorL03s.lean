/-
  The speed of a leg: SpeedOf, the program's and the reference's. Conditions: the cells lie in the world.
-/
import Derived.Test.YthgngpmeaobidaaGreatDoorL03j
namespace Go.Proofs.YthgngpmeaobidaaGreatDoor
set_option linter.unusedVariables false
open Go.RowKit Go.Deep

theorem speed_eq {N d : Int} (hN : 0 ≤ N) (hd : 1 ≤ d) : min 1000000 (rootZ N / d) = rootZ (min 1000000000000 (N / (d * d))) := by
  obtain ⟨r0, r1, r2⟩ := rootZ_is hN
  generalize rootZ N = R at *
  have hq0 : 0 ≤ R / d := Int.ediv_nonneg r0 (by omega)
  have hq1 : R / d * d ≤ R := Int.ediv_mul_le R (by omega)
  have hq2 : R < (R / d + 1) * d := Int.lt_ediv_add_one_mul_self R (by omega)
  generalize R / d = q at *
  have hdd : 0 < d * d := Int.mul_pos (by omega) (by omega)
  have lo : q * q ≤ N / (d * d) := by
    rw [Int.le_ediv_iff_mul_le hdd]
    have := sq_mono (Int.mul_nonneg hq0 (show 0 ≤ d by omega)) hq1
    have e : q * d * (q * d) = q * q * (d * d) := by grind
    omega
  have hi : N / (d * d) < (q + 1) * (q + 1) := by
    rw [Int.ediv_lt_iff_lt_mul hdd]
    have := sq_mono (show 0 ≤ R + 1 by omega) (show R + 1 ≤ (q + 1) * d by omega)
    have e : (q + 1) * d * ((q + 1) * d) = (q + 1) * (q + 1) * (d * d) := by grind
    omega
  refine root_eq (by omega) ?_ ?_
  · rcases Int.le_total q 1000000 with h | h
    · rw [Int.min_eq_right h]
      have := sq_mono hq0 h
      omega
    · rw [Int.min_eq_left h]
      have := sq_mono (show (0 : Int) ≤ 1000000 by omega) h
      omega
  · rcases Int.le_total q 1000000 with h | h
    · rw [Int.min_eq_right h]
      omega
    · rw [Int.min_eq_left h]
      omega
def spdN (l : List Fx) (k : Nat) : Int := 1000000 * sqZ 0 0 ((fx l (k + 1)).x - (fx l k).x) ((fx l (k + 1)).y - (fx l k).y)
def spdZ (l : List Fx) (k : Nat) : Int := min 1000000 (rootZ (spdN l k) / ((fx l (k + 1)).t - (fx l k).t))
def speedR (l : List Fx) (leg : Int) : Int × Int := if isTrk l = true then (if inR leg 0 ((l.length : Int) - 2) = true then (spdZ l leg.toNat, 0) else (0, 4)) else (0, 1)
theorem leg_facts {l : List Fx} (h : isTrk l = true) {k : Nat} (hk : k + 1 < l.length) : isPt (fx l k).x (fx l k).y = true ∧ isPt (fx l (k + 1)).x (fx l (k + 1)).y = true ∧ 0 ≤ (fx l k).t ∧ (fx l (k + 1)).t ≤ 1000000000 ∧ (fx l k).t < (fx l (k + 1)).t := by
  have ho := (isTrk_true h).2.2
  have h1 := okAt_true (okUpto_lt ho k (by omega))
  have h2 := okAt_true (okUpto_lt ho (k + 1) hk)
  refine ⟨h1.2.2.1, h2.2.2.1, h1.1, h2.2.1, ?_⟩
  have := h2.2.2.2
  simp at this
  exact this
end Go.Proofs.YthgngpmeaobidaaGreatDoor
