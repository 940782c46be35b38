/-
  mulDiv for small quotients, and the part of a length at a place. Conditions stand with each.
-/
import Derived.Test.YtdepdkpehbkcjaaDiv2
import Derived.Lib.ItoaNum
namespace Go.Proofs.Ytdepdkpehbkcjaa
set_option linter.unusedVariables false
open Go.RowKit Go.Deep Go.Lib Go.Shelf

theorem bitLen_shift' (y : Nat) (h0 : 0 < y) (h : y < 9223372036854775808) :
    ∃ s : Nat, s ≤ 63 ∧ (s : Int) = 64 - (Lib.bitLen y : Int) ∧ 9223372036854775808 ≤ y * 2 ^ s ∧ y * 2 ^ s < 18446744073709551616 := by
  obtain ⟨h1, h2, h3⟩ := Lib.bitLenAux_bounds 64 y (by omega) (by omega)
  have h4 : Lib.bitLen y ≤ 64 := Lib.bitLen_le y 64 (by omega) (by omega)
  have e : Lib.bitLen y = Lib.bitLenAux 64 y := rfl
  rw [← e] at h1 h2 h3
  generalize Lib.bitLen y = n at *
  refine ⟨64 - n, by omega, by omega, ?_, ?_⟩
  · have := Nat.mul_le_mul_right (2 ^ (64 - n)) h2
    rw [← Nat.pow_add, show n - 1 + (64 - n) = 63 by omega] at this
    omega
  · have := Nat.mul_lt_mul_of_pos_right h3 (Nat.two_pow_pos (64 - n))
    rw [← Nat.pow_add, show n + (64 - n) = 64 by omega] at this
    omega
set_option maxHeartbeats 1000000 in
theorem Div64_c (hi lo y : Nat) (w : World) (hlo : lo < 18446744073709551616) (h0 : 0 < y) (hy : y < 9223372036854775808) (hq : hi * 18446744073709551616 + lo < 2147483648 * y) :
    Calls Try.prog 130 #[.int .u64 hi, .int .u64 lo, .int .u64 y] w fun e w' => e = .returned (.tuple #[.int .u64 (((hi * 18446744073709551616 + lo) / y : Nat) : Int), .int .u64 (((hi * 18446744073709551616 + lo) % y : Nat) : Int)]) ∧ Below w.heap.size w w' := by
  by_cases hz : hi = 0
  · subst hz
    have q1 : ¬ (y : Int) = 0 := by omega
    have q2 : ¬ (y : Int) ≤ 0 := by omega
    have e0 : 0 * 18446744073709551616 + lo = lo := by omega
    rw [e0]
    clear hq e0
    have e1 : IntKind.u64.wrap ((lo : Int) / (y : Int)) = ((lo / y : Nat) : Int) := by
      rw [← Int.natCast_ediv]; exact Mul64.wrapN _ (Nat.lt_of_le_of_lt (Nat.div_le_self _ _) hlo)
    have e2 : IntKind.u64.wrap ((lo : Int) % (y : Int)) = ((lo % y : Nat) : Int) := by
      rw [← Int.natCast_emod]; exact Mul64.wrapN _ (Nat.lt_of_le_of_lt (Nat.mod_le _ _) hlo)
    clear hlo h0 hy
    go_enter Try.func130, Try.ntmps130
    go_upto_region 6 with fail
    refine wp_region_later (by kernel_rfl) (by kernel_rfl) ?_
    repeat (first | go_big_quiet_step ((fail)) | quiet_step ((fail)))
    refine wpQuiet_nil ?_
    intro _ hw'
    obtain ⟨s1, hw''⟩ := hw'
    subst hw''
    have hb1 := s1.below
    generalize s1.w = w1 at hb1 ⊢
    clear s1
    try replace hb1 := below_trans (by with_reducible assumption) hb1
    obtain ⟨hc1, hf1⟩ := bcell hb1
    have hz1 := hb1.size
    try simp at hz1
    try have hz10 : w.heap.size ≤ w1.heap.size := by omega
    try have hz11 : w.heap.size < w1.heap.size := by omega
    try have hz12 : w.heap.size + 1 < w1.heap.size := by omega
    try have hz13 : w.heap.size + 1 + 1 < w1.heap.size := by omega
    try have hz14 : w.heap.size + 1 + 1 + 1 < w1.heap.size := by omega
    go_wp2_with fail
    all_goals go_ret2
    all_goals exact ⟨by first | rfl | simp [go_sem], (by repeat (first | with_reducible exact Below.refl _ _ | with_reducible assumption | with_reducible refine Below.drew ?_ | with_reducible refine Below.alloc ?_ (by first | exact Nat.le_refl _ | (simp; done) | (simp; omega) | omega) _ | with_reducible refine Below.setCell ?_ (by first | exact Nat.le_refl _ | (simp; done) | (simp; omega) | omega) _ | with_reducible refine Below.trans ?_ (Below.mono (by with_reducible assumption) (by first | exact Nat.le_refl _ | (simp; done) | (simp; omega) | omega))))⟩
  · obtain ⟨s, s1, s2, s3, s4⟩ := bitLen_shift' y h0 hy
    exact (Div64_big hi lo y s w (by omega) hlo hy (by omega) s1 s2 s3 s4 hq).mono fun e w' h => ⟨h.1, h.2 ▸ Below.refl _ _⟩
set_option maxHeartbeats 1000000 in
theorem mulDiv_nat (a b c : Nat) (w : World) (ha : a < 9223372036854775808) (hb : b < 9223372036854775808) (h0 : 0 < c) (hc : c < 9223372036854775808) (hq : a * b < 2147483648 * c) :
    Calls Try.prog 114 #[.int .i64 a, .int .i64 b, .int .i64 c] w fun e w' => e = .returned (.tuple #[.int .i64 ((a * b / c : Nat) : Int), .bool (decide (0 < a * b % c))]) ∧ Below w.heap.size w w' := by
  have c1 := fun w => Mul64_c a b w (by omega) (by omega)
  have c2 := fun w => Div64_c (a * b / 18446744073709551616) (a * b % 18446744073709551616) c w (Nat.mod_lt _ (by omega)) h0 hc (by rw [Nat.div_add_mod']; exact hq)
  simp only [Nat.div_add_mod'] at c2
  have q1 : a * b / c < 2147483648 := Nat.div_lt_of_lt_mul (by omega)
  have q2 : a * b % c < c := Nat.mod_lt _ h0
  generalize a * b / c = q at *
  generalize a * b % c = r at *
  have C1 := Lib.hid c1
  have C2 := Lib.hid c2
  clear c1 c2 hq
  generalize a * b / 18446744073709551616 = x at *
  generalize a * b % 18446744073709551616 = y at *
  go_enter Try.func114, Try.ntmps114
  go_wp2_with fail
  refine (C1.out _).mono ?_
  rintro e w' ⟨rfl, rfl⟩
  go_wp2_with fail
  refine (C2.out _).mono ?_
  rintro e w1 ⟨rfl, hb⟩
  go_wp2_with fail
  go_ret2
  exact ⟨by simp, (by repeat (first | with_reducible exact Below.refl _ _ | with_reducible assumption | with_reducible refine Below.drew ?_ | with_reducible refine Below.alloc ?_ (by first | exact Nat.le_refl _ | (simp; done) | (simp; omega) | omega) _ | with_reducible refine Below.setCell ?_ (by first | exact Nat.le_refl _ | (simp; done) | (simp; omega) | omega) _ | with_reducible refine Below.trans ?_ (Below.mono (by with_reducible assumption) (by first | exact Nat.le_refl _ | (simp; done) | (simp; omega) | omega))))⟩
theorem mulDiv_c (a b c : Int) (w : World) (ha : 0 ≤ a) (ha2 : a ≤ 9223372036854775807) (hb : 0 ≤ b) (hb2 : b ≤ 9223372036854775807) (h0 : 1 ≤ c) (hc : c ≤ 9223372036854775807) (hq : a * b < 2147483648 * c) :
    Calls Try.prog 114 #[.int .i64 a, .int .i64 b, .int .i64 c] w fun e w' => e = .returned (.tuple #[.int .i64 (a * b / c), .bool (decide (0 < a * b % c))]) ∧ Below w.heap.size w w' := by
  obtain ⟨A, rfl⟩ := Int.eq_ofNat_of_zero_le ha
  obtain ⟨B, rfl⟩ := Int.eq_ofNat_of_zero_le hb
  obtain ⟨C, rfl⟩ := Int.eq_ofNat_of_zero_le (show 0 ≤ c by omega)
  have := mulDiv_nat A B C w (by omega) (by omega) (by omega) (by omega) (by rw [← Int.natCast_mul] at hq; omega)
  have e : decide (0 < (A : Int) * (B : Int) % (C : Int)) = decide (0 < A * B % C) := by
    rw [← Int.natCast_mul, ← Int.natCast_emod]
    exact decide_eq_decide.2 (by omega)
  rw [e, ← Int.natCast_mul, ← Int.natCast_ediv]
  exact this
theorem part_neg {x d : Int} (hd : 1 ≤ d) : -x / d = if 0 < x % d then -(x / d + 1) else -(x / d) := by
  have h1 := Int.mul_ediv_add_emod x d
  have h2 := Int.emod_nonneg x (show d ≠ 0 by omega)
  have h3 := Int.emod_lt_of_pos x (show 0 < d by omega)
  generalize x / d = q at *
  generalize x % d = r at *
  split
  · have := (Int.ediv_emod_unique (a := -x) (b := d) (r := d - r) (q := -(q + 1)) (by omega)).2 ⟨by rw [← h1]; grind, by omega, by omega⟩
    exact this.1
  · have h0 : r = 0 := by omega
    have := (Int.ediv_emod_unique (a := -x) (b := d) (r := 0) (q := -q) (by omega)).2 ⟨by rw [← h1, h0]; grind, by omega, by omega⟩
    exact this.1
theorem part_lt {m n d : Int} (h0 : 0 ≤ m) (h1 : m < 2147483648) (n0 : 0 ≤ n) (n1 : n ≤ d) (hd : 1 ≤ d) : m * n < 2147483648 * d := by
  have := Int.mul_le_mul_of_nonneg_left n1 h0
  have := Int.mul_lt_mul_of_pos_right h1 (show 0 < d by omega)
  omega
theorem part_bd {m n d : Int} (h0 : 0 ≤ m) (h1 : m < 2147483648) (n0 : 0 ≤ n) (n1 : n ≤ d) (hd : 1 ≤ d) : 0 ≤ m * n / d ∧ m * n / d < 2147483648 :=
  ⟨Int.ediv_nonneg (Int.mul_nonneg h0 n0) (by omega), Int.ediv_lt_of_lt_mul (by omega) (part_lt h0 h1 n0 n1 hd)⟩
set_option maxHeartbeats 1000000 in
theorem partOf_c (n num den : Int) (w : World) (hn : -2147483647 ≤ n) (hn2 : n ≤ 2147483647) (h0 : 0 ≤ num) (h1 : num ≤ den) (hd : 1 ≤ den) (hd2 : den ≤ 100000000000000) :
    Calls Try.prog 121 #[.int .i64 n, .agg #[.int .i64 num, .int .i64 den]] w fun e w' => e = .returned (.int .i64 (n * num / den)) ∧ Below w.heap.size w w' := by
  by_cases hs : 0 ≤ n
  · have c := fun w => mulDiv_c n num den w hs (by omega) h0 (by omega) hd (by omega) (part_lt hs (by omega) h0 h1 hd)
    obtain ⟨b1, b2⟩ := part_bd hs (by omega) h0 h1 hd
    generalize n * num / den = q at *
    generalize decide (0 < n * num % den) = t at *
    have C := Lib.hid c
    clear c
    have hm : max n (-n) = n := by omega
    go_enter Try.func121, Try.ntmps121
    go_wp2_with (go_at_call 114; refine (C.out _).mono ?_; rintro e w1 ⟨rfl, hb⟩)
    go_ret
    exact ⟨rfl, (by repeat (first | with_reducible exact Below.refl _ _ | with_reducible assumption | with_reducible refine Below.drew ?_ | with_reducible refine Below.alloc ?_ (by first | exact Nat.le_refl _ | (simp; done) | (simp; omega) | omega) _ | with_reducible refine Below.setCell ?_ (by first | exact Nat.le_refl _ | (simp; done) | (simp; omega) | omega) _ | with_reducible refine Below.trans ?_ (Below.mono (by with_reducible assumption) (by first | exact Nat.le_refl _ | (simp; done) | (simp; omega) | omega))))⟩
  · obtain ⟨m, rfl⟩ : ∃ m, n = -m := ⟨-n, by omega⟩
    have c := fun w => mulDiv_c m num den w (by omega) (by omega) h0 (by omega) hd (by omega) (part_lt (by omega) (by omega) h0 h1 hd)
    obtain ⟨b1, b2⟩ := part_bd (m := m) (by omega) (by omega) h0 h1 hd
    have e := part_neg (x := m * num) hd
    rw [← Int.neg_mul] at e
    have hm : max (-m) m = m := by omega
    have hm2 : max (-m) (- -m) = m := by omega
    by_cases hr : 0 < m * num % den
    · rw [if_pos hr] at e
      rw [e]
      simp only [hr, decide_true] at c
      generalize m * num / den = q at *
      have C := Lib.hid c
      clear c e hr
      go_enter Try.func121, Try.ntmps121
      go_wp2_with (go_at_call 114; refine (C.out _).mono ?_; rintro e w1 ⟨rfl, hb⟩)
      go_ret
      exact ⟨rfl, (by repeat (first | with_reducible exact Below.refl _ _ | with_reducible assumption | with_reducible refine Below.drew ?_ | with_reducible refine Below.alloc ?_ (by first | exact Nat.le_refl _ | (simp; done) | (simp; omega) | omega) _ | with_reducible refine Below.setCell ?_ (by first | exact Nat.le_refl _ | (simp; done) | (simp; omega) | omega) _ | with_reducible refine Below.trans ?_ (Below.mono (by with_reducible assumption) (by first | exact Nat.le_refl _ | (simp; done) | (simp; omega) | omega))))⟩
    · rw [if_neg hr] at e
      rw [e]
      simp only [hr, decide_false] at c
      generalize m * num / den = q at *
      have C := Lib.hid c
      clear c e hr
      go_enter Try.func121, Try.ntmps121
      go_wp2_with (go_at_call 114; refine (C.out _).mono ?_; rintro e w1 ⟨rfl, hb⟩)
      go_ret
      exact ⟨rfl, (by repeat (first | with_reducible exact Below.refl _ _ | with_reducible assumption | with_reducible refine Below.drew ?_ | with_reducible refine Below.alloc ?_ (by first | exact Nat.le_refl _ | (simp; done) | (simp; omega) | omega) _ | with_reducible refine Below.setCell ?_ (by first | exact Nat.le_refl _ | (simp; done) | (simp; omega) | omega) _ | with_reducible refine Below.trans ?_ (Below.mono (by with_reducible assumption) (by first | exact Nat.le_refl _ | (simp; done) | (simp; omega) | omega))))⟩
end Go.Proofs.Ytdepdkpehbkcjaa
