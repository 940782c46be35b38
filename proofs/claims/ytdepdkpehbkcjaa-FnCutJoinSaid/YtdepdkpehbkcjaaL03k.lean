/-
  HeadingAt and PositionAt, the program's and the reference's. Conditions: the cells lie in the world; what else stands with each.
-/
import Derived.Test.YtdepdkpehbkcjaaL03s
import Derived.Test.YtdepdkpehbkcjaaHeld
namespace Go.Proofs.Ytdepdkpehbkcjaa
set_option linter.unusedVariables false
open Go.RowKit Go.Deep

theorem blt {W w1 : World} (hb : Below W.heap.size W w1) : ∀ b, b < W.heap.size → b < w1.heap.size := fun _ h => Nat.lt_of_lt_of_le h hb.size
theorem ble {W w1 : World} (hb : Below W.heap.size W w1) : ∀ b, b < W.heap.size → b ≤ w1.heap.size := fun _ h => Nat.le_of_lt (Nat.lt_of_lt_of_le h hb.size)
theorem blt1 {W w1 : World} (hb : Below W.heap.size W w1) : ∀ b, b < W.heap.size → b < w1.heap.size + 1 := fun _ h => Nat.lt_succ_of_lt (Nat.lt_of_lt_of_le h hb.size)
theorem blt2 {W w1 : World} (hb : Below W.heap.size W w1) : ∀ b, b < W.heap.size → b < w1.heap.size + 1 + 1 := fun _ h => Nat.lt_succ_of_lt (Nat.lt_succ_of_lt (Nat.lt_of_lt_of_le h hb.size))
theorem legS_lt (l : List Fx) (t : Int) : ∀ k, 0 < k → legS l t k < k
  | k + 1, _ => by
    have := legS_le l t k
    simp only [legS]; split <;> omega
theorem legN_lt {l : List Fx} (t : Int) (h : 2 ≤ l.length) : legN l t + 1 < l.length := by
  have := legS_lt l t (l.length - 1) (by omega)
  unfold legN
  omega
theorem legS_after {l : List Fx} {t : Int} : ∀ n j, legS l t n < j → j < n → t < (fx l j).t
  | 0, j, _, h => by omega
  | n + 1, j, h, hj => by
    simp only [legS] at h
    split at h
    · omega
    · rcases Nat.lt_or_eq_of_le (Nat.le_of_lt_succ hj) with g | g
      · exact legS_after n j h g
      · rw [g]; omega
theorem legS_before {l : List Fx} {t : Int} (h0 : (fx l 0).t ≤ t) : ∀ n, (fx l (legS l t n)).t ≤ t
  | 0 => h0
  | n + 1 => by
    simp only [legS]
    split
    · assumption
    · exact legS_before h0 n
theorem legN_times {l : List Fx} {t : Int} (h : isTrk l = true) (hl : lastsB l t = true) : (fx l (legN l t)).t ≤ t ∧ t ≤ (fx l (legN l t + 1)).t := by
  have h2 := (isTrk_true h).1
  have hr := inR_true hl
  have hlt := legN_lt t h2
  refine ⟨legS_before hr.1 _, ?_⟩
  rcases Nat.lt_or_eq_of_le (show legN l t + 1 ≤ l.length - 1 by omega) with g | g
  · have := legS_after (l := l) (t := t) (l.length - 1) (legN l t + 1) (by unfold legN; omega) g
    omega
  · rw [g]; exact hr.2
def headR (l : List Fx) (t : Int) : Int × Int × Int :=
  if codeZ l t = 0 then (if (fx l (legN l t + 1)).x - (fx l (legN l t)).x = 0 ∧ (fx l (legN l t + 1)).y - (fx l (legN l t)).y = 0 then (0, 0, 5) else ((fx l (legN l t + 1)).x - (fx l (legN l t)).x, (fx l (legN l t + 1)).y - (fx l (legN l t)).y, 0)) else (0, 0, codeZ l t)
def placeZ (a b t u v : Int) : Int := a + (b - a) * (t - u) / (v - u)
def posX (l : List Fx) (t : Int) : Int := placeZ (fx l (legN l t)).x (fx l (legN l t + 1)).x t (fx l (legN l t)).t (fx l (legN l t + 1)).t
def posY (l : List Fx) (t : Int) : Int := placeZ (fx l (legN l t)).y (fx l (legN l t + 1)).y t (fx l (legN l t)).t (fx l (legN l t + 1)).t
def posR (l : List Fx) (t : Int) : Int × Int × Int := if codeZ l t = 0 then (posX l t, posY l t, 0) else (0, 0, codeZ l t)

/-- the whole difference by its thousands -/
theorem split_div {d n m : Int} (hm : 1 ≤ m) : d * n / m = 1000 * (d / 1000 * n / m) + (1000 * (d / 1000 * n - d / 1000 * n / m * m) + (d - 1000 * (d / 1000)) * n) / m := by
  generalize d / 1000 * n / m = q
  generalize hh : d / 1000 = h
  have e : d * n = 1000 * (h * n - q * m) + (d - 1000 * h) * n + 1000 * q * m := by grind
  rw [e, Int.add_mul_ediv_right _ _ (by omega)]
  omega
theorem div_parts' (a b : Int) (hb : 1 ≤ b) : 0 ≤ a - a / b * b ∧ a - a / b * b < b := by
  have h1 := Int.ediv_mul_le a (show b ≠ 0 by omega)
  have h2 := Int.lt_ediv_add_one_mul_self a (show 0 < b by omega)
  rw [Int.add_mul] at h2
  omega
theorem place_bd {d n m : Int} (hm : 1 ≤ m) (h0 : 0 ≤ n) (h1 : n ≤ m) {k : Int} (hk : 0 ≤ k) (d1 : -k ≤ d) (d2 : d ≤ k) : -k ≤ d * n / m ∧ d * n / m ≤ k := by
  have a1 : -k * m ≤ d * n := by
    have x1 := Int.mul_nonneg (show 0 ≤ d + k by omega) h0
    have x2 := Int.mul_nonneg hk (show 0 ≤ m - n by omega)
    have e1 : (d + k) * n = d * n + k * n := Int.add_mul ..
    have e2 : k * (m - n) = k * m - k * n := Int.mul_sub ..
    rw [Int.neg_mul]; omega
  have a2 : d * n ≤ k * m := by
    have x1 := Int.mul_nonneg (show 0 ≤ k - d by omega) h0
    have x2 := Int.mul_nonneg hk (show 0 ≤ m - n by omega)
    have e1 : (k - d) * n = k * n - d * n := Int.sub_mul ..
    have e2 : k * (m - n) = k * m - k * n := Int.mul_sub ..
    omega
  exact ⟨by rw [Int.le_ediv_iff_mul_le (by omega)]; exact a1, by
    have := Int.ediv_le_ediv (show 0 < m by omega) a2
    rwa [Int.mul_ediv_cancel _ (by omega)] at this⟩
set_option maxHeartbeats 400000 in
theorem eqPoint_same (x y : Int) (w : World) : Calls Try.prog 37 #[.agg #[.int .i64 x, .int .i64 y], .agg #[.int .i64 x, .int .i64 y]] w fun e w' => e = .returned (.bool true) ∧ Below w.heap.size w w' := by
  go_enter Try.func37, Try.ntmps37
  go_wp2
  go_ret
  exact ⟨rfl, (by repeat (first | with_reducible exact Below.refl _ _ | with_reducible assumption | with_reducible refine Below.drew ?_ | with_reducible refine Below.alloc ?_ (by first | exact Nat.le_refl _ | (simp; done) | (simp; omega) | omega) _ | with_reducible refine Below.setCell ?_ (by first | exact Nat.le_refl _ | (simp; done) | (simp; omega) | omega) _ | with_reducible refine Below.trans ?_ (Below.mono (by with_reducible assumption) (by first | exact Nat.le_refl _ | (simp; done) | (simp; omega) | omega))))⟩
end Go.Proofs.Ytdepdkpehbkcjaa
