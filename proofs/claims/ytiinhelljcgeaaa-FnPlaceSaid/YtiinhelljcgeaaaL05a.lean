/-
  Crossings: the exact time of one, and what its comparison answers: plain functions; the divider by thousands. Conditions stand with each.
-/
import Derived.Test.YtiinhelljcgeaaaDiv3
import Derived.Test.YtiinhelljcgeaaaL03k
namespace Go.Proofs.Ytiinhelljcgeaaa
set_option linter.unusedVariables false
open Go.RowKit Go.Deep

def placeOK (n d : Int) : Bool := inR d 1 100000000000000 && inR n 0 d
theorem placeOK_true {n d : Int} (h : placeOK n d = true) : 1 ≤ d ∧ d ≤ 100000000000000 ∧ 0 ≤ n ∧ n ≤ d := by
  simp only [placeOK, Bool.and_eq_true] at h
  have h1 := inR_true h.1
  have h2 := inR_true h.2
  exact ⟨h1.1, h1.2, h2.1, h2.2⟩
def lapZ (l : List Fx) (k : Nat) : Int := (fx l (k + 1)).t - (fx l k).t
def wholeZ (l : List Fx) (k : Nat) (n d : Int) : Int := (fx l k).t + lapZ l k * n / d
def restZ (l : List Fx) (k : Nat) (n d : Int) : Int := lapZ l k * n % d
def rightB (l : List Fx) (leg n d : Int) : Bool := inR leg 0 ((l.length : Int) - 2) && placeOK n d
def cmpCr (l : List Fx) (i n d : Int) (m : List Fx) (j n' d' : Int) : Int :=
  if wholeZ l i.toNat n d = wholeZ m j.toNat n' d' then cmpZ (restZ l i.toNat n d) d (restZ m j.toNat n' d') d' else sgn (wholeZ l i.toNat n d - wholeZ m j.toNat n' d')
def cmpCrR (l : List Fx) (i n d : Int) (m : List Fx) (j n' d' : Int) : Int × Int :=
  if isTrk l = true ∧ isTrk m = true then (if rightB l i n d = true ∧ rightB m j n' d' = true then (cmpCr l i n d m j n' d', 0) else (0, 2)) else (0, 1)
theorem div_step {p num den d : Int} (hd : 1 ≤ den) : 1000 * (p * num / den) + (p * num % den * 1000 + d * num) / den = (1000 * p + d) * num / den ∧ (p * num % den * 1000 + d * num) % den = (1000 * p + d) * num % den := by
  have h1 := Int.mul_ediv_add_emod (p * num) den
  generalize p * num / den = q at *
  generalize p * num % den = r at *
  have e : (1000 * p + d) * num = (r * 1000 + d * num) + den * (1000 * q) := by
    have : (1000 * p + d) * num = 1000 * (p * num) + d * num := by grind
    rw [this, ← h1]; grind
  rw [e, Int.add_mul_ediv_left _ _ (by omega), Int.add_mul_emod_self_left]
  exact ⟨by omega, rfl⟩
theorem lap_bd {l : List Fx} (h : isTrk l = true) {k : Nat} (hk : k + 1 < l.length) : 1 ≤ lapZ l k ∧ lapZ l k ≤ 1000000000 ∧ 0 ≤ (fx l k).t ∧ (fx l k).t ≤ 1000000000 := by
  obtain ⟨_, _, a, b, c⟩ := leg_facts h hk
  unfold lapZ
  omega
theorem rest_wrap {x n d : Int} (hd : 1 ≤ d) (hd2 : d ≤ 100000000000000) : IntKind.i64.wrap (IntKind.i64.wrap (x * n) - IntKind.i64.wrap (x * n / d * d)) = x * n % d := by
  have h1 := Int.mul_ediv_add_emod (x * n) d
  have h2 := Int.emod_nonneg (x * n) (show d ≠ 0 by omega)
  have h3 := Int.emod_lt_of_pos (x * n) (show 0 < d by omega)
  rw [Int.mul_comm (x * n / d) d]
  generalize d * (x * n / d) = q at *
  generalize x * n % d = r at *
  rw [← h1]
  simp only [IntKind.wrap_i64]
  omega
set_option maxHeartbeats 400000 in
theorem isPlace_c (n d : Int) (w : World) : Calls Try.prog 85 #[.agg #[.int .i64 n, .int .i64 d]] w fun e w' => e = .returned (.bool (placeOK n d)) ∧ Below w.heap.size w w' := by
  cases h1 : inR d 1 100000000000000
  all_goals
    go_enter Try.func85, Try.ntmps85
    go_wp2_with (go_at_call 53; refine (within_c _ _ _ _).mono ?_; rintro e w' ⟨rfl, rfl⟩)
    go_ret
    exact ⟨by simp [placeOK, h1], (by repeat (first | with_reducible exact Below.refl _ _ | with_reducible assumption | with_reducible refine Below.drew ?_ | with_reducible refine Below.alloc ?_ (by first | exact Nat.le_refl _ | (simp; done) | (simp; omega) | omega) _ | with_reducible refine Below.setCell ?_ (by first | exact Nat.le_refl _ | (simp; done) | (simp; omega) | omega) _ | with_reducible refine Below.trans ?_ (Below.mono (by with_reducible assumption) (by first | exact Nat.le_refl _ | (simp; done) | (simp; omega) | omega))))⟩
theorem div_round {p q r d num den : Int} (hd : 1 ≤ den) (hd2 : den ≤ 100000000000000) (h0 : 0 ≤ num) (h1 : num ≤ den) (hq : q = p * num / den) (hr : r = p * num % den) (hp : 0 ≤ p) (d0 : 0 ≤ d) (d1 : d ≤ 999) (hpn : 1000 * p + d ≤ 1000000000) :
    0 ≤ d * num ∧ d * num ≤ 100000000000000000 ∧ 0 ≤ r * 1000 + d * num ∧ r * 1000 + d * num ≤ 200000000000000000 ∧ 0 ≤ (r * 1000 + d * num) / den ∧ (r * 1000 + d * num) / den ≤ 1000000000 ∧ 1000 * q + (r * 1000 + d * num) / den = (1000 * p + d) * num / den ∧ (r * 1000 + d * num) % den = (1000 * p + d) * num % den ∧
    0 ≤ (1000 * p + d) * num / den ∧ (1000 * p + d) * num / den ≤ 1000000000 ∧ 0 ≤ (r * 1000 + d * num) % den ∧ (r * 1000 + d * num) % den < den := by
  obtain ⟨s1, s2⟩ := @div_step p num den d hd
  rw [← hq, ← hr] at s1
  rw [← hr] at s2
  have m0 := Int.mul_nonneg d0 h0
  have m1 := mul_bd (a := d) (b := num) (m := 999) (n := 100000000000000) (by omega) (by omega) (by omega) (by omega)
  have e1 := Int.emod_nonneg (p * num) (show den ≠ 0 by omega)
  have e2 := Int.emod_lt_of_pos (p * num) (show 0 < den by omega)
  rw [← hr] at e1 e2
  have q0 : 0 ≤ q := by rw [hq]; exact Int.ediv_nonneg (Int.mul_nonneg hp h0) (by omega)
  have x0 : 0 ≤ (r * 1000 + d * num) / den := Int.ediv_nonneg (by omega) (by omega)
  have pb := place_bd (d := 1000 * p + d) (n := num) (m := den) (k := 1000000000) hd h0 h1 (by omega) (by omega) (by omega)
  have f1 := Int.emod_nonneg (r * 1000 + d * num) (show den ≠ 0 by omega)
  have f2 := Int.emod_lt_of_pos (r * 1000 + d * num) (show 0 < den by omega)
  refine ⟨m0, by omega, by omega, by omega, x0, by omega, s1, s2, by omega, pb.2, f1, f2⟩
end Go.Proofs.Ytiinhelljcgeaaa
