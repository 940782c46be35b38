/-
  The position on a track, the reference's. Conditions: the cells lie in the world; what else stands with each.
-/
import Derived.Test.YtiinhelljcgeaaaL03k
import Derived.Test.YtiinhelljcgeaaaH4
namespace Go.Proofs.Ytiinhelljcgeaaa
set_option linter.unusedVariables false
open Go.RowKit Go.Deep

set_option maxHeartbeats 1600000 in
theorem l02At_c (a b n m : Int) (w : World) (a1 : -1000000 ≤ a) (a2 : a ≤ 1000000) (b1 : -1000000 ≤ b) (b2 : b ≤ 1000000) (h0 : 0 ≤ n) (h1 : n ≤ m) (hm : 1 ≤ m) (hm2 : m ≤ 100000000000000) : Calls Try.prog 87 #[.int .i64 a, .int .i64 b, .agg #[.int .i64 n, .int .i64 m]] w fun e w' => e = .returned (.int .i64 (a + (b - a) * n / m)) ∧ Below w.heap.size w w' := by
  have E := Lib.hid (@split_div (b - a) n m hm)
  obtain ⟨d, hd⟩ : ∃ d, b - a = d := ⟨_, rfl⟩
  rw [hd] at E ⊢
  have d1 : -2000000 ≤ d := by omega
  have d2 : d ≤ 2000000 := by omega
  have k1 : -2000 ≤ d / 1000 := by omega
  have k2 : d / 1000 ≤ 2000 := by omega
  have k3 : 0 ≤ d - 1000 * (d / 1000) := by omega
  have k4 : d - 1000 * (d / 1000) ≤ 999 := by omega
  have f1 := fun w => l01Floor_c d 1000 w (by omega) (by omega) (by omega) (by omega)
  generalize d / 1000 = h at *
  have m1 := mul_bd (a := h) (b := n) (m := 2000) (n := 100000000000000) (by omega) (by omega) (by omega) (by omega)
  have q1 := place_bd hm h0 h1 (k := 2000) (by omega) k1 k2
  obtain ⟨p, hp⟩ : ∃ p, h * n = p := ⟨_, rfl⟩
  rw [hp] at E m1 q1
  have f2 := fun w => l01Floor_c p m w (by omega) (by omega) (by omega) (by omega)
  obtain ⟨r1, r2⟩ := div_parts' p m hm
  generalize p / m = q at *
  have m2 := mul_bd (a := q) (b := m) (m := 2000) (n := 100000000000000) (by omega) (by omega) (by omega) (by omega)
  obtain ⟨s, hs⟩ : ∃ s, q * m = s := ⟨_, rfl⟩
  rw [hs] at E r1 r2 m2
  obtain ⟨g, hg⟩ : ∃ g, d - 1000 * h = g := ⟨_, rfl⟩
  rw [hg] at E k3 k4
  have m3 := mul_bd (a := g) (b := n) (m := 999) (n := 100000000000000) (by omega) (by omega) (by omega) (by omega)
  have v0 := Int.mul_nonneg k3 h0
  obtain ⟨v, hv⟩ : ∃ v, g * n = v := ⟨_, rfl⟩
  rw [hv] at E m3 v0
  have f3 := fun w => l01Floor_c (1000 * (p - s) + v) m w (by omega) (by omega) (by omega) (by omega)
  have z1 := div_bd (a := 1000 * (p - s) + v) hm
  have z2 := z1.1 (by omega)
  clear z1
  generalize (1000 * (p - s) + v) / m = z at *
  obtain ⟨m1a, m1b⟩ := m1
  obtain ⟨m2a, m2b⟩ := m2
  obtain ⟨m3a, m3b⟩ := m3
  obtain ⟨q1a, q1b⟩ := q1
  obtain ⟨z2a, z2b⟩ := z2
  have F1 := Lib.hid f1
  have F2 := Lib.hid f2
  have F3 := Lib.hid f3
  clear f1 f2 f3
  go_enter Try.func87, Try.ntmps87
  go_wp2_with (first | (go_at_call_of 56 v; refine (F3.out _).mono ?_; rintro e w' ⟨rfl, rfl⟩) | (go_at_call_of 56 d; refine (F1.out _).mono ?_; rintro e w' ⟨rfl, rfl⟩) | (go_at_call_of 56 p; refine (F2.out _).mono ?_; rintro e w' ⟨rfl, rfl⟩))
  go_ret
  exact ⟨ret_int (by rw [E.out]; omega), (by repeat (first | with_reducible exact Below.refl _ _ | with_reducible assumption | with_reducible refine Below.drew ?_ | with_reducible refine Below.alloc ?_ (by first | exact Nat.le_refl _ | (simp; done) | (simp; omega) | omega) _ | with_reducible refine Below.setCell ?_ (by first | exact Nat.le_refl _ | (simp; done) | (simp; omega) | omega) _ | with_reducible refine Below.trans ?_ (Below.mono (by with_reducible assumption) (by first | exact Nat.le_refl _ | (simp; done) | (simp; omega) | omega))))⟩
end Go.Proofs.Ytiinhelljcgeaaa
