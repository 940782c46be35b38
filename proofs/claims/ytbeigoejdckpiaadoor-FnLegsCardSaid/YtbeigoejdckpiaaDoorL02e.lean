/-
  What the functions that compare products and ratios return: contracts of the program's, the reference's and the library's functions. Their conditions stand with each.
-/
import Derived.Test.YtbeigoejdckpiaaDoorL02d
import Derived.Shelf.Bits.Mul64
import Derived.Test.YtbeigoejdckpiaaDoorSqrt
import Derived.Laws.Externs
namespace Go.Proofs.YtbeigoejdckpiaaDoor
set_option linter.unusedVariables false
open Go.RowKit Go.Deep Go.Lib

set_option maxHeartbeats 1000000 in
theorem sqrt_c (b r : Nat) (w : World) (h : FloatKind.f64.format.sqrt b = some r) : Calls Tryd.prog 89 #[.float .f64 b] w fun e w' => e = .returned (.float .f64 r) ∧ w = w' := by
  have hx : ∀ W : World, (callFunc 96 #[.float .f64 b]).run Tryd.prog W = .ok (.value (.float .f64 r)) W := fun W => by
    rw [run_callFunc_extern (fn := Tryd.f96) (e := Extern.MathSqrt.sqrt) (by kernel_rfl) (by kernel_rfl) (by kernel_rfl) (by kernel_rfl) (by kernel_rfl)]
    have hs : Extern.MathSqrt.sqrt #[.float .f64 b] = (match FloatKind.f64.format.sqrt b with | some r => pure (.float .f64 r) | none => do pure (.float .f64 (← choose (.nanBits .f64 b b)))) := rfl
    rw [hs, h]
    rfl
  go_enter Tryd.func89, Tryd.ntmps89
  go_wp2
  go_ret
  exact ⟨rfl, rfl⟩
/-- the greatest number up to k whose square is at most n -/
def rootNat (n : Nat) : Nat → Nat
  | 0 => 0
  | k + 1 => if (k + 1) * (k + 1) ≤ n then k + 1 else rootNat n k
theorem rootNat_spec (n : Nat) : ∀ k, rootNat n k * rootNat n k ≤ n ∧ (rootNat n k = k ∨ n < (rootNat n k + 1) * (rootNat n k + 1))
  | 0 => ⟨by simp [rootNat], .inl rfl⟩
  | k + 1 => by
    unfold rootNat
    split
    · rename_i h; exact ⟨h, .inl rfl⟩
    · rename_i h
      obtain ⟨h1, h2⟩ := rootNat_spec n k
      refine ⟨h1, .inr ?_⟩
      rcases h2 with h2 | h2
      · rw [h2]; omega
      · exact h2
def rootZ (n : Int) : Int := (rootNat n.toNat n.toNat : Nat)
def IsRoot (n r : Int) : Prop := 0 ≤ r ∧ r * r ≤ n ∧ n < (r + 1) * (r + 1)
theorem rootZ_is {n : Int} (h : 0 ≤ n) : IsRoot n (rootZ n) := by
  obtain ⟨N, rfl⟩ := Int.eq_ofNat_of_zero_le h
  obtain ⟨h1, h2⟩ := rootNat_spec N N
  unfold IsRoot rootZ
  rw [Int.toNat_natCast]
  generalize rootNat N N = r at *
  refine ⟨by omega, by exact_mod_cast h1, ?_⟩
  rcases h2 with h2 | h2
  · subst h2
    have : r < (r + 1) * (r + 1) := by
      have := Nat.le_mul_of_pos_right (r + 1) (show 0 < r + 1 by omega)
      omega
    exact_mod_cast this
  · exact_mod_cast h2
theorem sq_mono {a b : Int} (h0 : 0 ≤ a) (h : a ≤ b) : a * a ≤ b * b := Int.mul_le_mul h h h0 (by omega)
theorem root_unique {n r s : Int} (h : IsRoot n r) (h' : IsRoot n s) : r = s := by
  obtain ⟨a1, a2, a3⟩ := h
  obtain ⟨b1, b2, b3⟩ := h'
  rcases Int.lt_trichotomy r s with g | g | g
  · have := sq_mono (show 0 ≤ r + 1 by omega) (show r + 1 ≤ s by omega); omega
  · exact g
  · have := sq_mono (show 0 ≤ s + 1 by omega) (show s + 1 ≤ r by omega); omega
theorem root_eq {n r : Int} (h0 : 0 ≤ r) (h1 : r * r ≤ n) (h2 : n < (r + 1) * (r + 1)) : r = rootZ n :=
  root_unique ⟨h0, h1, h2⟩ (rootZ_is (Int.le_trans (Int.mul_nonneg h0 h0) h1))
theorem sq_small {r : Int} (h0 : 0 ≤ r) (h : r ≤ 3037000499) : 0 ≤ r * r ∧ r * r ≤ 9223372030926249001 := ⟨Int.mul_nonneg h0 h0, by have := sq_mono h0 h; simpa using this⟩
set_option maxHeartbeats 2000000 in
theorem rootOf_c (n : Int) (w : World) (h0 : 0 ≤ n) (hn : n ≤ 9223372036854775807) : Calls Tryd.prog 67 #[.int .i64 n] w fun e w' => e = .returned (.int .i64 (rootZ n)) ∧ w = w' := by
  obtain ⟨b, r0, hs, hc, hr0, hr1⟩ := sqrt_int n h0 (by omega)
  have cs := fun w => sqrt_c (floatOfInt .f64 n) b w hs
  have CS := Lib.hid cs
  clear cs hs
  have cv : ∀ W : World, (convert 112 2 (.float .f64 b)).run Tryd.prog W = .ok (.int .i64 r0) W := fun W => run_convert_float_int W _ _ _ _ _ _ (by kernel_rfl) Tryd.underlying2 hc
  clear hc
  go_enter Tryd.func67, Tryd.ntmps67
  go_wp2_with (go_at_call 89; refine (CS.out _).mono ?_; rintro e w' ⟨rfl, rfl⟩)
  clear cv CS
  go_loop [3] (fun t => ∃ r : Int, t = .int .i64 r ∧ 0 ≤ r ∧ r ≤ 1099511627776) (fun t => (intOf t).toNat)
  case atStart => exact ⟨r0, rfl, hr0, hr1⟩
  case round =>
    obtain ⟨r, rfl, hr, hr'⟩ := hrel
    clear hr0 hr1
    by_cases h1 : 3037000499 < r
    · go_wp2
      go_round
      case rel => exact ⟨r - 1, rfl, by omega, by omega⟩
      case measure => simp [intOf]; omega
    · obtain ⟨m1, m2⟩ := sq_small hr (by omega)
      by_cases h2 : n < r * r
      · have hp : 0 < r := by
          rcases Int.lt_or_le 0 r with h | h
          · exact h
          · obtain rfl : r = 0 := by omega
            simp at h2; omega
        go_wp2
        go_round
        case rel => exact ⟨r - 1, rfl, by omega, by omega⟩
        case measure => simp [intOf]; omega
      · go_wp2
        go_loop [3] (fun t => ∃ s : Int, t = .int .i64 s ∧ 0 ≤ s ∧ s ≤ 3037000499 ∧ s * s ≤ n) (fun t => (3037000499 - intOf t).toNat)
        case atStart => exact ⟨r, rfl, hr, by omega, by omega⟩
        case round =>
          clear h1 h2 m1 m2 hr hr'
          obtain ⟨s, rfl, hs0, hs1, hs2⟩ := hrel
          by_cases h3 : s < 3037000499
          · obtain ⟨m1, m2⟩ := sq_small (show 0 ≤ s + 1 by omega) (by omega)
            by_cases h4 : (s + 1) * (s + 1) ≤ n
            · go_wp2
              go_round
              case rel => exact ⟨s + 1, rfl, by omega, by omega, h4⟩
              case measure => simp [intOf]; omega
            · go_wp2
              go_ret
              exact ⟨ret_int (root_eq hs0 hs2 (by omega)), rfl⟩
          · obtain rfl : s = 3037000499 := by omega
            go_wp2
            go_ret
            exact ⟨ret_int (root_eq hs0 hs2 (by omega)), rfl⟩
set_option maxHeartbeats 2000000 in
theorem l01Root_c (n : Int) (w : World) (h0 : 0 ≤ n) (hn : n ≤ 1000000000000000000) : Calls Tryd.prog 69 #[.int .i64 n] w fun e w' => e = .returned (.int .i64 (rootZ n)) ∧ w = w' := by
  go_enter Tryd.func69, Tryd.ntmps69
  go_wp2
  go_loop [3, 4] (fun l h => ∃ a b : Int, l = .int .i64 a ∧ h = .int .i64 b ∧ 0 ≤ a ∧ a < b ∧ b ≤ 1000000001 ∧ a * a ≤ n ∧ n < b * b) (fun l h => (intOf h - intOf l).toNat)
  case atStart => exact ⟨0, 1000000001, rfl, rfl, by omega, by omega, by omega, by omega, by omega⟩
  case round =>
    obtain ⟨a, b, rfl, rfl, ha, hab, hb, h1, h2⟩ := hrel
    by_cases h3 : a + 1 < b
    · have g1 : a < (a + b) / 2 := by omega
      have g2 : (a + b) / 2 < b := by omega
      have hm : (a + b) / 2 ≤ 3037000499 := by omega
      obtain ⟨m1, m2⟩ := sq_small (show 0 ≤ (a + b) / 2 by omega) hm
      by_cases h4 : (a + b) / 2 * ((a + b) / 2) ≤ n
      · go_wp2
        go_round
        case rel => exact ⟨_, _, rfl, rfl, by omega, by omega, hb, h4, h2⟩
        case measure => simp [intOf]; omega
      · go_wp2
        go_round
        case rel => exact ⟨_, _, rfl, rfl, ha, by omega, by omega, h1, by omega⟩
        case measure => simp [intOf]; omega
    · obtain rfl : b = a + 1 := by omega
      go_wp2
      go_ret
      exact ⟨ret_int (root_eq ha h1 h2), rfl⟩
end Go.Proofs.YtbeigoejdckpiaaDoor
