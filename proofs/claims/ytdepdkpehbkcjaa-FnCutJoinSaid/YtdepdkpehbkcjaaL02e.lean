/-
  What the functions that compare products and ratios return: contracts of the program's, the reference's and the library's functions. Their conditions stand with each.
-/
import Derived.Test.YtdepdkpehbkcjaaL02d
import Derived.Shelf.Bits.Mul64
import Derived.Test.YtdepdkpehbkcjaaSqrt
import Derived.Laws.Externs
namespace Go.Proofs.Ytdepdkpehbkcjaa
set_option linter.unusedVariables false
open Go.RowKit Go.Deep Go.Lib

set_option maxHeartbeats 1000000 in
theorem Mul64_c (x y : Nat) (w : World) (hx : x < 18446744073709551616) (hy : y < 18446744073709551616) :
    Calls Try.prog 129 #[.int .u64 x, .int .u64 y] w fun e w' => e = .returned (.tuple #[.int .u64 ((x * y / 18446744073709551616 : Nat) : Int), .int .u64 ((x * y % 18446744073709551616 : Nat) : Int)]) ∧ w = w' := by
  obtain ⟨bd, bt, bw, hhi⟩ := Lib.mul64_hi x y hx hy
  have ba := Lib.half_mul_le (a := x / 4294967296) (b := y / 4294967296) (by omega) (by omega)
  have bb := Lib.half_mul_le (a := x / 4294967296) (b := y % 4294967296) (by omega) (by omega)
  have bc := Lib.half_mul_le (a := x % 4294967296) (b := y / 4294967296) (by omega) (by omega)
  have ba' : x / 4294967296 * (y / 4294967296) < 18446744073709551616 := by omega
  have bb' : x / 4294967296 * (y % 4294967296) < 18446744073709551616 := by omega
  have bc' : x % 4294967296 * (y / 4294967296) < 18446744073709551616 := by omega
  have bh1 : x / 4294967296 * (y / 4294967296) + (x / 4294967296 * (y % 4294967296) + x % 4294967296 * (y % 4294967296) / 4294967296) / 4294967296 < 18446744073709551616 := by omega
  have bh : x / 4294967296 * (y / 4294967296) + (x / 4294967296 * (y % 4294967296) + x % 4294967296 * (y % 4294967296) / 4294967296) / 4294967296 + ((x / 4294967296 * (y % 4294967296) + x % 4294967296 * (y % 4294967296) / 4294967296) % 4294967296 + x % 4294967296 * (y / 4294967296)) / 4294967296 < 18446744073709551616 := by omega
  go_enter Try.func129, Try.ntmps129
  go_wp2
  simp only [Mul64.maskN x hx, Mul64.maskN y hy, Mul64.divN, Mul64.mulN, Mul64.addN, Mul64.wrapN _ bd, Mul64.wrapN _ bb', Mul64.wrapN _ bt, Mul64.maskN _ bt, Mul64.wrapN _ bc', Mul64.wrapN _ bw, Mul64.wrapN _ ba', Mul64.wrapN _ bh1, Mul64.wrapN _ bh, Mul64.wrapM (x * y)]
  rw [hhi]
  go_ret2
  exact ⟨rfl, rfl⟩
theorem cmp_lt {p q : Nat} (h : p / 18446744073709551616 < q / 18446744073709551616 ∨ p / 18446744073709551616 = q / 18446744073709551616 ∧ p % 18446744073709551616 < q % 18446744073709551616) : (-1 : Int) = sgn ((p : Int) - (q : Int)) := by
  rw [sgn_m]; omega
theorem cmp_eq {p q : Nat} (h : p / 18446744073709551616 = q / 18446744073709551616) (h' : p % 18446744073709551616 = q % 18446744073709551616) : (0 : Int) = sgn ((p : Int) - (q : Int)) := by
  rw [show (p : Int) - (q : Int) = 0 by omega]; rfl
theorem cmp_gt {p q : Nat} (h : q / 18446744073709551616 < p / 18446744073709551616 ∨ p / 18446744073709551616 = q / 18446744073709551616 ∧ q % 18446744073709551616 < p % 18446744073709551616) : (1 : Int) = sgn ((p : Int) - (q : Int)) := by
  rw [sgn_1]; omega
set_option maxHeartbeats 1000000 in
theorem compareProducts_nat (a b c d : Nat) (w : World) (ha : a < 9223372036854775808) (hb : b < 9223372036854775808) (hc : c < 9223372036854775808) (hd : d < 9223372036854775808) :
    Calls Try.prog 115 #[.int .i64 a, .int .i64 b, .int .i64 c, .int .i64 d] w fun e w' => e = .returned (.int .i64 (sgn (((a * b : Nat) : Int) - ((c * d : Nat) : Int)))) ∧ w = w' := by
  have c1 := fun w => Mul64_c a b w (by omega) (by omega)
  have c2 := fun w => Mul64_c c d w (by omega) (by omega)
  have C1 := Lib.hid c1
  have C2 := Lib.hid c2
  clear c1 c2
  generalize a * b = p at *
  generalize c * d = q at *
  go_enter Try.func115, Try.ntmps115
  go_wp2_with fail
  refine (C1.out _).mono ?_
  rintro e w' ⟨rfl, rfl⟩
  go_wp2_with fail
  refine (C2.out _).mono ?_
  rintro e w' ⟨rfl, rfl⟩
  go_wp2
  all_goals go_ret
  all_goals
    (try have e0 := eq_of_beq (show ((p : Int) % 18446744073709551616 == (q : Int) % 18446744073709551616) = true by assumption))
    (try have e0 := ne_of_beq_false (show ((p : Int) % 18446744073709551616 == (q : Int) % 18446744073709551616) = false by assumption))
    exact ⟨ret_int (by unfold sgn; split; omega; split <;> omega), rfl⟩
set_option maxHeartbeats 1000000 in
theorem sqrt_c (b r : Nat) (w : World) (h : FloatKind.f64.format.sqrt b = some r) : Calls Try.prog 103 #[.float .f64 b] w fun e w' => e = .returned (.float .f64 r) ∧ w = w' := by
  have hx : ∀ W : World, (callFunc 127 #[.float .f64 b]).run Try.prog W = .ok (.value (.float .f64 r)) W := fun W => by
    rw [run_callFunc_extern (fn := Try.f127) (e := Extern.MathSqrt.sqrt) (by kernel_rfl) (by kernel_rfl) (by kernel_rfl) (by kernel_rfl) (by kernel_rfl)]
    have hs : Extern.MathSqrt.sqrt #[.float .f64 b] = (match FloatKind.f64.format.sqrt b with | some r => pure (.float .f64 r) | none => do pure (.float .f64 (← choose (.nanBits .f64 b b)))) := rfl
    rw [hs, h]
    rfl
  go_enter Try.func103, Try.ntmps103
  go_wp2
  go_ret
  exact ⟨rfl, rfl⟩
/-- the greatest number up to k whose square is at most n -/
def rootNat (n : Nat) : Nat → Nat
  | 0 => 0
  | k + 1 => if (k + 1) * (k + 1) ≤ n then k + 1 else rootNat n k
theorem rootNat_spec (n : Nat) : ∀ k, rootNat n k * rootNat n k ≤ n ∧ (rootNat n k = k ∨ n < (rootNat n k + 1) * (rootNat n k + 1))
  | 0 => ⟨by simp [rootNat], .inl rfl⟩
  | k + 1 => by
    unfold rootNat
    split
    · rename_i h; exact ⟨h, .inl rfl⟩
    · rename_i h
      obtain ⟨h1, h2⟩ := rootNat_spec n k
      refine ⟨h1, .inr ?_⟩
      rcases h2 with h2 | h2
      · rw [h2]; omega
      · exact h2
def rootZ (n : Int) : Int := (rootNat n.toNat n.toNat : Nat)
def IsRoot (n r : Int) : Prop := 0 ≤ r ∧ r * r ≤ n ∧ n < (r + 1) * (r + 1)
theorem rootZ_is {n : Int} (h : 0 ≤ n) : IsRoot n (rootZ n) := by
  obtain ⟨N, rfl⟩ := Int.eq_ofNat_of_zero_le h
  obtain ⟨h1, h2⟩ := rootNat_spec N N
  unfold IsRoot rootZ
  rw [Int.toNat_natCast]
  generalize rootNat N N = r at *
  refine ⟨by omega, by exact_mod_cast h1, ?_⟩
  rcases h2 with h2 | h2
  · subst h2
    have : r < (r + 1) * (r + 1) := by
      have := Nat.le_mul_of_pos_right (r + 1) (show 0 < r + 1 by omega)
      omega
    exact_mod_cast this
  · exact_mod_cast h2
theorem sq_mono {a b : Int} (h0 : 0 ≤ a) (h : a ≤ b) : a * a ≤ b * b := Int.mul_le_mul h h h0 (by omega)
theorem root_unique {n r s : Int} (h : IsRoot n r) (h' : IsRoot n s) : r = s := by
  obtain ⟨a1, a2, a3⟩ := h
  obtain ⟨b1, b2, b3⟩ := h'
  rcases Int.lt_trichotomy r s with g | g | g
  · have := sq_mono (show 0 ≤ r + 1 by omega) (show r + 1 ≤ s by omega); omega
  · exact g
  · have := sq_mono (show 0 ≤ s + 1 by omega) (show s + 1 ≤ r by omega); omega
theorem root_eq {n r : Int} (h0 : 0 ≤ r) (h1 : r * r ≤ n) (h2 : n < (r + 1) * (r + 1)) : r = rootZ n :=
  root_unique ⟨h0, h1, h2⟩ (rootZ_is (Int.le_trans (Int.mul_nonneg h0 h0) h1))
theorem sq_small {r : Int} (h0 : 0 ≤ r) (h : r ≤ 3037000499) : 0 ≤ r * r ∧ r * r ≤ 9223372030926249001 := ⟨Int.mul_nonneg h0 h0, by have := sq_mono h0 h; simpa using this⟩
set_option maxHeartbeats 2000000 in
theorem rootOf_c (n : Int) (w : World) (h0 : 0 ≤ n) (hn : n ≤ 9223372036854775807) : Calls Try.prog 58 #[.int .i64 n] w fun e w' => e = .returned (.int .i64 (rootZ n)) ∧ w = w' := by
  obtain ⟨b, r0, hs, hc, hr0, hr1⟩ := sqrt_int n h0 (by omega)
  have cs := fun w => sqrt_c (floatOfInt .f64 n) b w hs
  have CS := Lib.hid cs
  clear cs hs
  have cv : ∀ W : World, (convert 133 2 (.float .f64 b)).run Try.prog W = .ok (.int .i64 r0) W := fun W => run_convert_float_int W _ _ _ _ _ _ (by kernel_rfl) Try.underlying2 hc
  clear hc
  go_enter Try.func58, Try.ntmps58
  go_wp2_with (go_at_call 103; refine (CS.out _).mono ?_; rintro e w' ⟨rfl, rfl⟩)
  clear cv CS
  go_loop [3] (fun t => ∃ r : Int, t = .int .i64 r ∧ 0 ≤ r ∧ r ≤ 1099511627776) (fun t => (intOf t).toNat)
  case atStart => exact ⟨r0, rfl, hr0, hr1⟩
  case round =>
    obtain ⟨r, rfl, hr, hr'⟩ := hrel
    clear hr0 hr1
    by_cases h1 : 3037000499 < r
    · go_wp2
      go_round
      case rel => exact ⟨r - 1, rfl, by omega, by omega⟩
      case measure => simp [intOf]; omega
    · obtain ⟨m1, m2⟩ := sq_small hr (by omega)
      by_cases h2 : n < r * r
      · have hp : 0 < r := by
          rcases Int.lt_or_le 0 r with h | h
          · exact h
          · obtain rfl : r = 0 := by omega
            simp at h2; omega
        go_wp2
        go_round
        case rel => exact ⟨r - 1, rfl, by omega, by omega⟩
        case measure => simp [intOf]; omega
      · go_wp2
        go_loop [3] (fun t => ∃ s : Int, t = .int .i64 s ∧ 0 ≤ s ∧ s ≤ 3037000499 ∧ s * s ≤ n) (fun t => (3037000499 - intOf t).toNat)
        case atStart => exact ⟨r, rfl, hr, by omega, by omega⟩
        case round =>
          clear h1 h2 m1 m2 hr hr'
          obtain ⟨s, rfl, hs0, hs1, hs2⟩ := hrel
          by_cases h3 : s < 3037000499
          · obtain ⟨m1, m2⟩ := sq_small (show 0 ≤ s + 1 by omega) (by omega)
            by_cases h4 : (s + 1) * (s + 1) ≤ n
            · go_wp2
              go_round
              case rel => exact ⟨s + 1, rfl, by omega, by omega, h4⟩
              case measure => simp [intOf]; omega
            · go_wp2
              go_ret
              exact ⟨ret_int (root_eq hs0 hs2 (by omega)), rfl⟩
          · obtain rfl : s = 3037000499 := by omega
            go_wp2
            go_ret
            exact ⟨ret_int (root_eq hs0 hs2 (by omega)), rfl⟩
set_option maxHeartbeats 2000000 in
theorem l01Root_c (n : Int) (w : World) (h0 : 0 ≤ n) (hn : n ≤ 1000000000000000000) : Calls Try.prog 62 #[.int .i64 n] w fun e w' => e = .returned (.int .i64 (rootZ n)) ∧ w = w' := by
  go_enter Try.func62, Try.ntmps62
  go_wp2
  go_loop [3, 4] (fun l h => ∃ a b : Int, l = .int .i64 a ∧ h = .int .i64 b ∧ 0 ≤ a ∧ a < b ∧ b ≤ 1000000001 ∧ a * a ≤ n ∧ n < b * b) (fun l h => (intOf h - intOf l).toNat)
  case atStart => exact ⟨0, 1000000001, rfl, rfl, by omega, by omega, by omega, by omega, by omega⟩
  case round =>
    obtain ⟨a, b, rfl, rfl, ha, hab, hb, h1, h2⟩ := hrel
    by_cases h3 : a + 1 < b
    · have g1 : a < (a + b) / 2 := by omega
      have g2 : (a + b) / 2 < b := by omega
      have hm : (a + b) / 2 ≤ 3037000499 := by omega
      obtain ⟨m1, m2⟩ := sq_small (show 0 ≤ (a + b) / 2 by omega) hm
      by_cases h4 : (a + b) / 2 * ((a + b) / 2) ≤ n
      · go_wp2
        go_round
        case rel => exact ⟨_, _, rfl, rfl, by omega, by omega, hb, h4, h2⟩
        case measure => simp [intOf]; omega
      · go_wp2
        go_round
        case rel => exact ⟨_, _, rfl, rfl, ha, by omega, by omega, h1, by omega⟩
        case measure => simp [intOf]; omega
    · obtain rfl : b = a + 1 := by omega
      go_wp2
      go_ret
      exact ⟨ret_int (root_eq ha h1 h2), rfl⟩
def rootR (n : Int) : Int × Int := if inR n 0 1000000000000000000 then (rootZ n, 0) else (0, 2)
set_option maxHeartbeats 800000 in
theorem RootOf_c (n : Int) (w : World) : Calls Try.prog 18 #[.int .i64 n] w fun e w' => e = .returned (.tuple #[.int .i64 (rootR n).1, .int .i64 (rootR n).2]) ∧ w = w' := by
  cases h1 : inR n 0 1000000000000000000
  · go_enter Try.func18, Try.ntmps18
    go_wp2_with (go_at_call 65; refine (within_c _ _ _ _).mono ?_; rintro e w' ⟨rfl, rfl⟩)
    go_ret2
    exact ⟨by simp [rootR, h1], rfl⟩
  · have b1 := inR_true h1
    go_enter Try.func18, Try.ntmps18
    go_wp2_with (first | (go_at_call 65; refine (within_c _ _ _ _).mono ?_; rintro e w' ⟨rfl, rfl⟩) | (go_at_call 58; refine (rootOf_c _ _ (by omega) (by omega)).mono ?_; rintro e w' ⟨rfl, rfl⟩))
    go_ret2
    exact ⟨by simp [rootR, h1], rfl⟩
theorem compareProducts_c (a b c d : Int) (w : World) (ha : 0 ≤ a) (hb : 0 ≤ b) (hc : 0 ≤ c) (hd : 0 ≤ d) (ha2 : a ≤ 9223372036854775807) (hb2 : b ≤ 9223372036854775807) (hc2 : c ≤ 9223372036854775807) (hd2 : d ≤ 9223372036854775807) :
    Calls Try.prog 115 #[.int .i64 a, .int .i64 b, .int .i64 c, .int .i64 d] w fun e w' => e = .returned (.int .i64 (sgn (a * b - c * d))) ∧ w = w' := by
  obtain ⟨A, rfl⟩ := Int.eq_ofNat_of_zero_le ha
  obtain ⟨B, rfl⟩ := Int.eq_ofNat_of_zero_le hb
  obtain ⟨C, rfl⟩ := Int.eq_ofNat_of_zero_le hc
  obtain ⟨D, rfl⟩ := Int.eq_ofNat_of_zero_le hd
  have := compareProducts_nat A B C D w (by omega) (by omega) (by omega) (by omega)
  rw [Int.natCast_mul, Int.natCast_mul] at this
  exact this
/-- how two ratios stand -/
def cmpZ (a b c d : Int) : Int := sgn (a * d - c * b)
theorem sgn_minus (x : Int) : sgn (-x) = -sgn x := by unfold sgn; split; split; omega; split <;> omega; split <;> split <;> first | omega | (split <;> omega)
theorem cmpZ_neg (a b c d : Int) : sgn (-c * b - -a * d) = cmpZ a b c d := by unfold cmpZ; congr 1; rw [Int.neg_mul, Int.neg_mul]; omega
theorem cmpZ_lt {a b c d : Int} (ha : a < 0) (hc : 0 ≤ c) (hb : 1 ≤ b) (hd : 1 ≤ d) : cmpZ a b c d = -1 := by
  unfold cmpZ
  refine sgn_m ?_
  have h1 := Int.mul_pos (show 0 < -a by omega) (show 0 < d by omega)
  have h2 := Int.mul_nonneg hc (show 0 ≤ b by omega)
  rw [Int.neg_mul] at h1
  omega
theorem cmpZ_gt {a b c d : Int} (ha : 0 ≤ a) (hc : c < 0) (hb : 1 ≤ b) (hd : 1 ≤ d) : cmpZ a b c d = 1 := by
  unfold cmpZ
  refine sgn_1 ?_
  have h1 := Int.mul_pos (show 0 < -c by omega) (show 0 < b by omega)
  have h2 := Int.mul_nonneg ha (show 0 ≤ d by omega)
  rw [Int.neg_mul] at h1
  omega
set_option maxHeartbeats 1600000 in
theorem compareRatios_c (a b c d : Int) (w : World) (hb : 1 ≤ b) (hb2 : b ≤ 100000000000000) (hd : 1 ≤ d) (hd2 : d ≤ 100000000000000) (ha : -100000000000000 ≤ a) (ha2 : a ≤ 100000000000000) (hc : -100000000000000 ≤ c) (hc2 : c ≤ 100000000000000) :
    Calls Try.prog 83 #[.agg #[.int .i64 a, .int .i64 b], .agg #[.int .i64 c, .int .i64 d]] w fun e w' => e = .returned (.int .i64 (cmpZ a b c d)) ∧ Below w.heap.size w w' := by
  by_cases h1 : a < 0
  · by_cases h2 : c < 0
    · go_enter Try.func83, Try.ntmps83
      go_wp2_with (go_at_call 115; refine (compareProducts_c _ _ _ _ _ (by omega) (by omega) (by omega) (by omega) (by omega) (by omega) (by omega) (by omega)).mono ?_; rintro e w' ⟨rfl, rfl⟩)
      go_ret
      exact ⟨ret_int (cmpZ_neg _ _ _ _), (by repeat (first | with_reducible exact Below.refl _ _ | with_reducible assumption | with_reducible refine Below.drew ?_ | with_reducible refine Below.alloc ?_ (by first | exact Nat.le_refl _ | (simp; done) | (simp; omega) | omega) _ | with_reducible refine Below.setCell ?_ (by first | exact Nat.le_refl _ | (simp; done) | (simp; omega) | omega) _ | with_reducible refine Below.trans ?_ (Below.mono (by with_reducible assumption) (by first | exact Nat.le_refl _ | (simp; done) | (simp; omega) | omega))))⟩
    · have e1 := sgn_m h1
      have HF := Lib.hid (cmpZ_lt h1 (show 0 ≤ c by omega) hb hd)
      rcases Int.lt_or_eq_of_le (show 0 ≤ c by omega) with h3 | h3
      · have e2 := sgn_1 h3
        have e3 : sgn (-2) = -1 := rfl
        go_enter Try.func83, Try.ntmps83
        go_wp2_with fail
        refine wp_region_later (by kernel_rfl) (by kernel_rfl) ?_
        repeat (first | go_big_quiet_step ((go_at_call 82; exact later_of_same _ (sign_c _ _))) | quiet_step ((go_at_call 82; exact later_of_same _ (sign_c _ _))))
        refine wpQuiet_nil ?_
        intro _ hw'
        obtain ⟨s1, hw''⟩ := hw'
        subst hw''
        have hb1 := s1.below
        generalize s1.w = w1 at hb1 ⊢
        clear s1
        try replace hb1 := below_trans (by with_reducible assumption) hb1
        obtain ⟨hc1, hf1⟩ := bcell hb1
        have hz1 := hb1.size
        try simp at hz1
        try have hz10 : w.heap.size ≤ w1.heap.size := by omega
        try have hz11 : w.heap.size < w1.heap.size := by omega
        try have hz12 : w.heap.size + 1 < w1.heap.size := by omega
        try have hz13 : w.heap.size + 1 + 1 < w1.heap.size := by omega
        try have hz14 : w.heap.size + 1 + 1 + 1 < w1.heap.size := by omega
        go_wp2
        go_ret
        exact ⟨ret_int HF.out.symm, (by repeat (first | with_reducible exact Below.refl _ _ | with_reducible assumption | with_reducible refine Below.drew ?_ | with_reducible refine Below.alloc ?_ (by first | exact Nat.le_refl _ | (simp; done) | (simp; omega) | omega) _ | with_reducible refine Below.setCell ?_ (by first | exact Nat.le_refl _ | (simp; done) | (simp; omega) | omega) _ | with_reducible refine Below.trans ?_ (Below.mono (by with_reducible assumption) (by first | exact Nat.le_refl _ | (simp; done) | (simp; omega) | omega))))⟩
      · subst h3
        have e2 : sgn 0 = 0 := rfl
        have e3 : sgn (-1) = -1 := rfl
        go_enter Try.func83, Try.ntmps83
        go_wp2_with fail
        refine wp_region_later (by kernel_rfl) (by kernel_rfl) ?_
        repeat (first | go_big_quiet_step ((go_at_call 82; exact later_of_same _ (sign_c _ _))) | quiet_step ((go_at_call 82; exact later_of_same _ (sign_c _ _))))
        refine wpQuiet_nil ?_
        intro _ hw'
        obtain ⟨s1, hw''⟩ := hw'
        subst hw''
        have hb1 := s1.below
        generalize s1.w = w1 at hb1 ⊢
        clear s1
        try replace hb1 := below_trans (by with_reducible assumption) hb1
        obtain ⟨hc1, hf1⟩ := bcell hb1
        have hz1 := hb1.size
        try simp at hz1
        try have hz10 : w.heap.size ≤ w1.heap.size := by omega
        try have hz11 : w.heap.size < w1.heap.size := by omega
        try have hz12 : w.heap.size + 1 < w1.heap.size := by omega
        try have hz13 : w.heap.size + 1 + 1 < w1.heap.size := by omega
        try have hz14 : w.heap.size + 1 + 1 + 1 < w1.heap.size := by omega
        go_wp2
        go_ret
        exact ⟨ret_int HF.out.symm, (by repeat (first | with_reducible exact Below.refl _ _ | with_reducible assumption | with_reducible refine Below.drew ?_ | with_reducible refine Below.alloc ?_ (by first | exact Nat.le_refl _ | (simp; done) | (simp; omega) | omega) _ | with_reducible refine Below.setCell ?_ (by first | exact Nat.le_refl _ | (simp; done) | (simp; omega) | omega) _ | with_reducible refine Below.trans ?_ (Below.mono (by with_reducible assumption) (by first | exact Nat.le_refl _ | (simp; done) | (simp; omega) | omega))))⟩
  · by_cases h2 : c < 0
    · have e1 := sgn_m h2
      have HF := Lib.hid (cmpZ_gt (show 0 ≤ a by omega) h2 hb hd)
      rcases Int.lt_or_eq_of_le (show 0 ≤ a by omega) with h3 | h3
      · have e2 := sgn_1 h3
        have e3 : sgn 2 = 1 := rfl
        go_enter Try.func83, Try.ntmps83
        go_wp2_with fail
        refine wp_region_later (by kernel_rfl) (by kernel_rfl) ?_
        repeat (first | go_big_quiet_step ((go_at_call 82; exact later_of_same _ (sign_c _ _))) | quiet_step ((go_at_call 82; exact later_of_same _ (sign_c _ _))))
        refine wpQuiet_nil ?_
        intro _ hw'
        obtain ⟨s1, hw''⟩ := hw'
        subst hw''
        have hb1 := s1.below
        generalize s1.w = w1 at hb1 ⊢
        clear s1
        try replace hb1 := below_trans (by with_reducible assumption) hb1
        obtain ⟨hc1, hf1⟩ := bcell hb1
        have hz1 := hb1.size
        try simp at hz1
        try have hz10 : w.heap.size ≤ w1.heap.size := by omega
        try have hz11 : w.heap.size < w1.heap.size := by omega
        try have hz12 : w.heap.size + 1 < w1.heap.size := by omega
        try have hz13 : w.heap.size + 1 + 1 < w1.heap.size := by omega
        try have hz14 : w.heap.size + 1 + 1 + 1 < w1.heap.size := by omega
        go_wp2
        go_ret
        exact ⟨ret_int HF.out.symm, (by repeat (first | with_reducible exact Below.refl _ _ | with_reducible assumption | with_reducible refine Below.drew ?_ | with_reducible refine Below.alloc ?_ (by first | exact Nat.le_refl _ | (simp; done) | (simp; omega) | omega) _ | with_reducible refine Below.setCell ?_ (by first | exact Nat.le_refl _ | (simp; done) | (simp; omega) | omega) _ | with_reducible refine Below.trans ?_ (Below.mono (by with_reducible assumption) (by first | exact Nat.le_refl _ | (simp; done) | (simp; omega) | omega))))⟩
      · subst h3
        have e2 : sgn 0 = 0 := rfl
        have e3 : sgn 1 = 1 := rfl
        go_enter Try.func83, Try.ntmps83
        go_wp2_with fail
        refine wp_region_later (by kernel_rfl) (by kernel_rfl) ?_
        repeat (first | go_big_quiet_step ((go_at_call 82; exact later_of_same _ (sign_c _ _))) | quiet_step ((go_at_call 82; exact later_of_same _ (sign_c _ _))))
        refine wpQuiet_nil ?_
        intro _ hw'
        obtain ⟨s1, hw''⟩ := hw'
        subst hw''
        have hb1 := s1.below
        generalize s1.w = w1 at hb1 ⊢
        clear s1
        try replace hb1 := below_trans (by with_reducible assumption) hb1
        obtain ⟨hc1, hf1⟩ := bcell hb1
        have hz1 := hb1.size
        try simp at hz1
        try have hz10 : w.heap.size ≤ w1.heap.size := by omega
        try have hz11 : w.heap.size < w1.heap.size := by omega
        try have hz12 : w.heap.size + 1 < w1.heap.size := by omega
        try have hz13 : w.heap.size + 1 + 1 < w1.heap.size := by omega
        try have hz14 : w.heap.size + 1 + 1 + 1 < w1.heap.size := by omega
        go_wp2
        go_ret
        exact ⟨ret_int HF.out.symm, (by repeat (first | with_reducible exact Below.refl _ _ | with_reducible assumption | with_reducible refine Below.drew ?_ | with_reducible refine Below.alloc ?_ (by first | exact Nat.le_refl _ | (simp; done) | (simp; omega) | omega) _ | with_reducible refine Below.setCell ?_ (by first | exact Nat.le_refl _ | (simp; done) | (simp; omega) | omega) _ | with_reducible refine Below.trans ?_ (Below.mono (by with_reducible assumption) (by first | exact Nat.le_refl _ | (simp; done) | (simp; omega) | omega))))⟩
    · go_enter Try.func83, Try.ntmps83
      go_wp2_with (go_at_call 115; refine (compareProducts_c _ _ _ _ _ (by omega) (by omega) (by omega) (by omega) (by omega) (by omega) (by omega) (by omega)).mono ?_; rintro e w' ⟨rfl, rfl⟩)
      go_ret
      exact ⟨rfl, (by repeat (first | with_reducible exact Below.refl _ _ | with_reducible assumption | with_reducible refine Below.drew ?_ | with_reducible refine Below.alloc ?_ (by first | exact Nat.le_refl _ | (simp; done) | (simp; omega) | omega) _ | with_reducible refine Below.setCell ?_ (by first | exact Nat.le_refl _ | (simp; done) | (simp; omega) | omega) _ | with_reducible refine Below.trans ?_ (Below.mono (by with_reducible assumption) (by first | exact Nat.le_refl _ | (simp; done) | (simp; omega) | omega))))⟩
theorem cf_ne {a b c d p q : Int} (hb : 1 ≤ b) (hd : 1 ≤ d) (r0 : 0 ≤ a - p * b) (r1 : a - p * b < b) (t0 : 0 ≤ c - q * d) (t1 : c - q * d < d) (h : p ≠ q) : sgn (p - q) = cmpZ a b c d := by
  unfold cmpZ
  obtain ⟨r, hr⟩ : ∃ r, r = a - p * b := ⟨_, rfl⟩
  obtain ⟨t, ht⟩ : ∃ t, t = c - q * d := ⟨_, rfl⟩
  rw [← hr] at r0 r1
  rw [← ht] at t0 t1
  have e : a * d - c * b = (p - q) * (b * d) + r * d - t * b := by
    have ea : a = p * b + r := by omega
    have ec : c = q * d + t := by omega
    rw [ea, ec]; grind
  rw [e]
  rcases Int.lt_or_lt_of_ne h with h | h
  · rw [sgn_m (by omega), sgn_m]
    have m1 := Int.mul_nonneg (show 0 ≤ q - p - 1 by omega) (Int.mul_nonneg (show 0 ≤ b by omega) (show 0 ≤ d by omega))
    have m2 := Int.mul_pos (show 0 < b - r by omega) (show 0 < d by omega)
    have m3 := Int.mul_nonneg t0 (show 0 ≤ b by omega)
    have e2 : (p - q) * (b * d) + r * d - t * b = -((q - p - 1) * (b * d) + (b - r) * d + t * b) := by grind
    omega
  · rw [sgn_1 (by omega), sgn_1]
    have m1 := Int.mul_nonneg (show 0 ≤ p - q - 1 by omega) (Int.mul_nonneg (show 0 ≤ b by omega) (show 0 ≤ d by omega))
    have m2 := Int.mul_pos (show 0 < d - t by omega) (show 0 < b by omega)
    have m3 := Int.mul_nonneg r0 (show 0 ≤ d by omega)
    have e2 : (p - q) * (b * d) + r * d - t * b = (p - q - 1) * (b * d) + (d - t) * b + r * d := by grind
    omega
theorem cf_eq {a b c d p r t : Int} (er : a - p * b = r) (et : c - p * d = t) : cmpZ a b c d = sgn (r * d - t * b) := by
  unfold cmpZ
  have ea : a = p * b + r := by omega
  have ec : c = p * d + t := by omega
  rw [ea, ec]
  congr 1; grind
theorem cf_zero {b d r t : Int} (hb : 1 ≤ b) (hd : 1 ≤ d) (r0 : 0 ≤ r) (t0 : 0 ≤ t) (h : r = 0 ∨ t = 0) : sgn (r - t) = sgn (r * d - t * b) := by
  rcases h with rfl | rfl
  · rw [Int.zero_mul]
    rcases Int.lt_or_eq_of_le t0 with h | h
    · have := Int.mul_pos h (show 0 < b by omega)
      rw [sgn_m (by omega), sgn_m (by omega)]
    · rw [← h, Int.zero_mul]
  · rw [Int.zero_mul]
    rcases Int.lt_or_eq_of_le r0 with h | h
    · have := Int.mul_pos h (show 0 < d by omega)
      rw [sgn_1 (by omega), sgn_1 (by omega)]
    · rw [← h, Int.zero_mul]
theorem cf_turn {b d r t s : Int} : -s * cmpZ b r d t = s * sgn (r * d - t * b) := by
  unfold cmpZ
  rw [show b * t - d * r = -(r * d - t * b) by grind, sgn_minus, Int.neg_mul_neg]
theorem div_parts (a b : Int) (hb : 1 ≤ b) : 0 ≤ a - a / b * b ∧ a - a / b * b < b := by
  have h1 := Int.ediv_mul_le a (show b ≠ 0 by omega)
  have h2 := Int.lt_ediv_add_one_mul_self a (show 0 < b by omega)
  rw [Int.add_mul] at h2
  omega
theorem s_sgn (s x : Int) (h : s = 1 ∨ s = -1) : -1 ≤ s * sgn x ∧ s * sgn x ≤ 1 := by
  have := sgn_bd x
  rcases h with rfl | rfl <;> omega
set_option maxHeartbeats 4000000 in
theorem l02Compare_c (a b c d : Int) (w : World) (hb : 1 ≤ b) (hb2 : b ≤ 100000000000000) (hd : 1 ≤ d) (hd2 : d ≤ 100000000000000) (ha : -100000000000000 ≤ a) (ha2 : a ≤ 100000000000000) (hc : -100000000000000 ≤ c) (hc2 : c ≤ 100000000000000) :
    Calls Try.prog 112 #[.agg #[.int .i64 a, .int .i64 b], .agg #[.int .i64 c, .int .i64 d]] w fun e w' => e = .returned (.int .i64 (cmpZ a b c d)) ∧ Below w.heap.size w w' := by
  go_enter Try.func112, Try.ntmps112
  go_wp2
  refine wp_region_later (by kernel_rfl) (by kernel_rfl) ?_
  repeat (first | go_big_quiet_step (fail) | quiet_step (fail))
  refine wpQuiet_nil ?_
  intro _ hw'
  obtain ⟨s1, hw''⟩ := hw'
  subst hw''
  have hb1 := s1.below
  generalize s1.w = w1 at hb1 ⊢
  clear s1
  try replace hb1 := below_trans (by with_reducible assumption) hb1
  obtain ⟨hc1, hf1⟩ := bcell hb1
  have hz1 := hb1.size
  try simp at hz1
  try have hz10 : w.heap.size ≤ w1.heap.size := by omega
  try have hz11 : w.heap.size < w1.heap.size := by omega
  try have hz12 : w.heap.size + 1 < w1.heap.size := by omega
  try have hz13 : w.heap.size + 1 + 1 < w1.heap.size := by omega
  try have hz14 : w.heap.size + 1 + 1 + 1 < w1.heap.size := by omega
  go_wp2
  have HB : Below w.heap.size w w1 := (by repeat (first | with_reducible exact Below.refl _ _ | with_reducible assumption | with_reducible refine Below.drew ?_ | with_reducible refine Below.alloc ?_ (by first | exact Nat.le_refl _ | (simp; done) | (simp; omega) | omega) _ | with_reducible refine Below.setCell ?_ (by first | exact Nat.le_refl _ | (simp; done) | (simp; omega) | omega) _ | with_reducible refine Below.trans ?_ (Below.mono (by with_reducible assumption) (by first | exact Nat.le_refl _ | (simp; done) | (simp; omega) | omega))))
  clear hb1 hc1 hf1
  obtain ⟨W, rfl⟩ : ∃ x : World, x = w1 := ⟨_, rfl⟩
  go_loop [5, 6, 7, 8, 9] (fun x y z u v => ∃ a' b' c' d' s : Int, x = .int .i64 a' ∧ y = .int .i64 b' ∧ z = .int .i64 c' ∧ u = .int .i64 d' ∧ v = .int .i64 s ∧ (s = 1 ∨ s = -1) ∧ 1 ≤ b' ∧ b' ≤ 100000000000000 ∧ 1 ≤ d' ∧ d' ≤ 100000000000000 ∧ -100000000000000 ≤ a' ∧ a' ≤ 100000000000000 ∧ -100000000000000 ≤ c' ∧ c' ≤ 100000000000000 ∧ Hid (s * cmpZ a' b' c' d' = cmpZ a b c d)) (fun _ y _ _ _ => (intOf y).toNat)
  case atStart => exact ⟨a, b, c, d, 1, rfl, rfl, rfl, rfl, rfl, .inl rfl, hb, hb2, hd, hd2, ha, ha2, hc, hc2, Lib.hid (Int.one_mul _)⟩
  case round =>
    clear hb hb2 hd hd2 ha ha2 hc hc2
    obtain ⟨a', b', c', d', s, rfl, rfl, rfl, rfl, rfl, hs, hb, hb2, hd, hd2, ha, ha2, hc, hc2, HG⟩ := hrel
    have HS := Lib.hid hs
    have s1 : -1 ≤ s := by omega
    have s2 : s ≤ 1 := by omega
    clear hs
    obtain ⟨r0, r1⟩ := div_parts a' b' hb
    obtain ⟨t0, t1⟩ := div_parts c' d' hd
    have p1 := div_bd (a := a') hb
    have q1 := div_bd (a := c') hd
    have P1 : -100000000000000 ≤ a' / b' ∧ a' / b' ≤ 100000000000000 := by omega
    have Q1 : -100000000000000 ≤ c' / d' ∧ c' / d' ≤ 100000000000000 := by omega
    clear p1 q1
    obtain ⟨P1, P2⟩ := P1
    obtain ⟨Q1, Q2⟩ := Q1
    generalize e1 : a' / b' = p at *
    generalize e2 : c' / d' = q at *
    by_cases h : p = q
    · subst h
      generalize e3 : a' - p * b' = r at *
      generalize e4 : c' - p * d' = t at *
      have HE := Lib.hid (cf_eq e3 e4)
      have w1 : -200000000000000 ≤ p * b' ∧ p * b' ≤ 200000000000000 := by omega
      have w2 : -200000000000000 ≤ p * d' ∧ p * d' ≤ 200000000000000 := by omega
      obtain ⟨w1, w1'⟩ := w1
      obtain ⟨w2, w2'⟩ := w2
      by_cases hr : r = 0
      · have HF := Lib.hid (cf_zero hb hd r0 t0 (.inl hr))
        have m := s_sgn s (-t) HS.out
        obtain ⟨m1, m2⟩ := m
        subst hr
        go_wp2_with (first | (go_at_call 120; refine (l01Floor_c _ _ _ (by omega) (by omega) (by omega) (by omega)).mono ?_; rintro e w' ⟨rfl, rfl⟩) | (go_at_call 111; refine (l01Sign_c _ _).mono ?_; rintro e w' ⟨rfl, rfl⟩))
        go_ret
        exact ⟨ret_int (by rw [← HG.out, HE.out, ← HF.out, Int.zero_sub]), HB⟩
      · have hr' : (r == 0) = false := by simpa using hr
        by_cases ht : t = 0
        · have HF := Lib.hid (cf_zero hb hd r0 t0 (.inr ht))
          have m := s_sgn s r HS.out
          obtain ⟨m1, m2⟩ := m
          subst ht
          go_wp2_with (first | (go_at_call 120; refine (l01Floor_c _ _ _ (by omega) (by omega) (by omega) (by omega)).mono ?_; rintro e w' ⟨rfl, rfl⟩) | (go_at_call 111; refine (l01Sign_c _ _).mono ?_; rintro e w' ⟨rfl, rfl⟩))
          go_ret
          exact ⟨ret_int (by rw [← HG.out, HE.out, ← HF.out, Int.sub_zero]), HB⟩
        · have ht' : (t == 0) = false := by simpa using ht
          have g1 : 1 ≤ r := by omega
          have g2 : 1 ≤ t := by omega
          go_wp2_with (first | (go_at_call 120; refine (l01Floor_c _ _ _ (by omega) (by omega) (by omega) (by omega)).mono ?_; rintro e w' ⟨rfl, rfl⟩) | (go_at_call 111; refine (l01Sign_c _ _).mono ?_; rintro e w' ⟨rfl, rfl⟩))
          go_round
          case rel => exact ⟨b', r, d', t, -s, rfl, rfl, rfl, rfl, rfl, by have := HS.out; omega, g1, by omega, g2, by omega, by omega, by omega, by omega, by omega, Lib.hid (by rw [cf_turn, ← HE.out, HG.out])⟩
          case measure => simp [intOf]; omega
    · have HF := Lib.hid (cf_ne hb hd r0 r1 t0 t1 h)
      have m := s_sgn s (p - q) HS.out
      obtain ⟨m1, m2⟩ := m
      have h' : (p == q) = false := by simpa using h
      have h'' : (p != q) = true := by simpa using h
      clear r0 r1 t0 t1
      go_wp2_with (first | (go_at_call 120; refine (l01Floor_c _ _ _ (by omega) (by omega) (by omega) (by omega)).mono ?_; rintro e w' ⟨rfl, rfl⟩) | (go_at_call 111; refine (l01Sign_c _ _).mono ?_; rintro e w' ⟨rfl, rfl⟩))
      go_ret
      exact ⟨ret_int (by rw [← HG.out, ← HF.out]), HB⟩
set_option maxHeartbeats 400000 in
theorem toRatio_c (x y : Int) (w : World) : Calls Try.prog 79 #[.agg #[.int .i64 x, .int .i64 y]] w fun e w' => e = .returned (.agg #[.int .i64 x, .int .i64 y]) ∧ Below w.heap.size w w' := by
  go_enter Try.func79, Try.ntmps79
  go_wp2
  exact bodyPost_ret (v := .agg #[.int .i64 x, .int .i64 y]) (by simp [results, Try.results79, go_sem]) rfl ⟨rfl, (by repeat (first | with_reducible exact Below.refl _ _ | with_reducible assumption | with_reducible refine Below.drew ?_ | with_reducible refine Below.alloc ?_ (by first | exact Nat.le_refl _ | (simp; done) | (simp; omega) | omega) _ | with_reducible refine Below.setCell ?_ (by first | exact Nat.le_refl _ | (simp; done) | (simp; omega) | omega) _ | with_reducible refine Below.trans ?_ (Below.mono (by with_reducible assumption) (by first | exact Nat.le_refl _ | (simp; done) | (simp; omega) | omega))))⟩
end Go.Proofs.Ytdepdkpehbkcjaa
