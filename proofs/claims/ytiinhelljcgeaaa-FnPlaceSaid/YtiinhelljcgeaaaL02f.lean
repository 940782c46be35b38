/-
  What the functions on distances from a segment return: contracts of the program's and of the reference's functions. Their conditions stand with each.
-/
import Derived.Test.YtiinhelljcgeaaaL02e
namespace Go.Proofs.Ytiinhelljcgeaaa
set_option linter.unusedVariables false
open Go.RowKit Go.Deep

theorem mul_le2 {a b m n : Int} (h1 : 0 ≤ a) (h2 : a ≤ m) (h3 : 0 ≤ b) (h4 : b ≤ n) : 0 ≤ a * b ∧ a * b ≤ m * n :=
  ⟨Int.mul_nonneg h1 h3, Int.mul_le_mul h2 h4 h3 (by omega)⟩
theorem wide_mul (x y : Int) : x * y = (x / 1048576 * (y / 1048576)) * 1099511627776 + (x / 1048576 * (y % 1048576) + x % 1048576 * (y / 1048576)) * 1048576 + x % 1048576 * (y % 1048576) := by
  have hx : x = x / 1048576 * 1048576 + x % 1048576 := by omega
  have hy : y = y / 1048576 * 1048576 + y % 1048576 := by omega
  generalize x / 1048576 = u at *
  generalize x % 1048576 = v at *
  generalize y / 1048576 = p at *
  generalize y % 1048576 = q at *
  rw [hx, hy]; grind
set_option maxHeartbeats 1000000 in
theorem l02Wide_c (x y : Int) (w : World) (h0 : 0 ≤ x) (h1 : x ≤ 68719476735) (h2 : 0 ≤ y) (h3 : y ≤ 17592186044415) : Calls Try.prog 108 #[.int .i64 x, .int .i64 y] w fun e w' => e = .returned (.tuple #[.int .i64 (x * y / 1099511627776), .int .i64 (x * y % 1099511627776)]) ∧ w = w' := by
  have HM := Lib.hid (wide_mul x y)
  obtain ⟨a1, a2⟩ := @mul_le2 (x % 1048576) (y % 1048576) 1048576 1048576 (by omega) (by omega) (by omega) (by omega)
  obtain ⟨b1, b2⟩ := @mul_le2 (x / 1048576) (y % 1048576) 65536 1048576 (by omega) (by omega) (by omega) (by omega)
  obtain ⟨c1, c2⟩ := @mul_le2 (x % 1048576) (y / 1048576) 1048576 16777216 (by omega) (by omega) (by omega) (by omega)
  obtain ⟨d1, d2⟩ := @mul_le2 (x / 1048576) (y / 1048576) 65536 16777216 (by omega) (by omega) (by omega) (by omega)
  go_enter Try.func108, Try.ntmps108
  go_wp2
  go_ret2
  exact ⟨ret_int2 (by rw [HM.out]; omega) (by rw [HM.out]; omega), rfl⟩
set_option maxHeartbeats 1000000 in
theorem l02Less_c (x d m : Int) (w : World) (h0 : 0 ≤ x) (h1 : x ≤ 68719476735) (h2 : 0 ≤ d) (h3 : d ≤ 10000) (h4 : 0 ≤ m) (h5 : m ≤ 17592186044415) : Calls Try.prog 105 #[.int .i64 x, .int .i64 d, .int .i64 m] w fun e w' => e = .returned (.bool (decide (x * x ≤ d * d * m))) ∧ w = w' := by
  obtain ⟨d1, d2⟩ := @mul_le2 d d 10000 10000 h2 h3 h2 h3
  have c1 := fun w => l02Wide_c x x w h0 h1 h0 (by omega)
  have c2 := fun w => l02Wide_c (d * d) m w d1 (by omega) h4 h5
  generalize x * x = P at *
  generalize d * d * m = Q at *
  have C1 := Lib.hid c1
  have C2 := Lib.hid c2
  clear c1 c2
  go_enter Try.func105, Try.ntmps105
  go_wp2_with fail
  refine (C1.out _).mono ?_
  rintro e w' ⟨rfl, rfl⟩
  go_wp2_with fail
  refine (C2.out _).mono ?_
  rintro e w' ⟨rfl, rfl⟩
  go_wp2
  all_goals go_ret
  all_goals exact ⟨ret_bool (by first | (symm; apply decide_eq_true; omega) | (symm; apply decide_eq_false; omega) | (rw [Bool.eq_iff_iff]; simp; omega)), rfl⟩
theorem root_le {n x : Int} (hn : 0 ≤ n) (h : 0 ≤ x) : x ≤ rootZ n ↔ x * x ≤ n := by
  obtain ⟨r0, r1, r2⟩ := rootZ_is hn
  constructor
  · intro g
    have := sq_mono h g
    omega
  · intro g
    rcases Int.lt_or_le (rootZ n) x with k | k
    · have := sq_mono (show 0 ≤ rootZ n + 1 by omega) (show rootZ n + 1 ≤ x by omega)
      omega
    · exact k
theorem top_bound {d m r : Int} (hd : 0 ≤ d) (hr : 0 ≤ r) (h : m < (r + 1) * (r + 1)) : d * d * m < (d * (r + 1) + 1) * (d * (r + 1) + 1) := by
  have h1 := Int.mul_nonneg (Int.mul_nonneg hd hd) (show 0 ≤ (r + 1) * (r + 1) - m by omega)
  have h2 := Int.mul_nonneg hd (show 0 ≤ r + 1 by omega)
  have e : (d * (r + 1) + 1) * (d * (r + 1) + 1) = d * d * m + d * d * ((r + 1) * (r + 1) - m) + 2 * (d * (r + 1)) + 1 := by grind
  omega
set_option maxHeartbeats 2000000 in
theorem l02RootOf_c (d m : Int) (w : World) (h2 : 0 ≤ d) (h3 : d ≤ 10000) (h4 : 0 ≤ m) (h5 : m ≤ 8000000000000) : Calls Try.prog 100 #[.int .i64 d, .int .i64 m] w fun e w' => e = .returned (.int .i64 (rootZ (d * d * m))) ∧ w = w' := by
  obtain ⟨r0, r1, r2⟩ := rootZ_is h4
  have hr : rootZ m ≤ 3000000 := by
    rcases Int.lt_or_le 3000000 (rootZ m) with h | h
    · have := sq_mono (show (0 : Int) ≤ 3000000 by omega) (show 3000000 ≤ rootZ m by omega); omega
    · exact h
  have cr := fun w => l01Root_c m w h4 (by omega)
  have hb := top_bound h2 r0 r2
  clear r1 r2
  generalize rootZ m = r at *
  obtain ⟨d1, d2⟩ := @mul_le2 d (r + 1) 10000 3000001 h2 h3 (by omega) (by omega)
  have cl := fun x w h0 h1 => l02Less_c x d m w h0 h1 h2 h3 h4 (by omega)
  have hq : 0 ≤ d * d * m := Int.mul_nonneg (Int.mul_nonneg h2 h2) h4
  generalize d * d * m = Q at *
  have CR := Lib.hid cr
  have CL := Lib.hid cl
  have HB := Lib.hid hb
  clear cr cl hb
  go_enter Try.func100, Try.ntmps100
  go_wp2_with (go_at_call 73; refine (CR.out _).mono ?_; rintro e w' ⟨rfl, rfl⟩)
  go_loop [5, 6] (fun l h => ∃ a b : Int, l = .int .i64 a ∧ h = .int .i64 b ∧ 0 ≤ a ∧ a < b ∧ b ≤ 68719476735 ∧ a * a ≤ Q ∧ Hid (Q < b * b)) (fun l h => (intOf h - intOf l).toNat)
  case atStart => exact ⟨0, _, rfl, rfl, by omega, by omega, by omega, by omega, HB⟩
  case round =>
    obtain ⟨a, b, rfl, rfl, ha, hab, hb, h6, h7⟩ := hrel
    by_cases h8 : a + 1 < b
    · have g1 : a < (a + b) / 2 := by omega
      have g2 : (a + b) / 2 < b := by omega
      cases g3 : decide ((a + b) / 2 * ((a + b) / 2) ≤ Q)
      · go_wp2_with (go_at_call 105; refine (CL.out _ _ (by omega) (by omega)).mono ?_; rintro e w' ⟨rfl, rfl⟩)
        go_round
        case rel => exact ⟨_, _, rfl, rfl, ha, by omega, by omega, h6, Lib.hid (by have := of_decide_eq_false g3; omega)⟩
        case measure => simp [intOf]; omega
      · go_wp2_with (go_at_call 105; refine (CL.out _ _ (by omega) (by omega)).mono ?_; rintro e w' ⟨rfl, rfl⟩)
        go_round
        case rel => exact ⟨_, _, rfl, rfl, by omega, by omega, hb, of_decide_eq_true g3, h7⟩
        case measure => simp [intOf]; omega
    · obtain rfl : b = a + 1 := by omega
      go_wp2
      go_ret
      exact ⟨ret_int (root_eq ha h6 h7.out), rfl⟩
/-- is a point of the segment within a distance of p -/
def withinB (ax ay bx cy px py d : Int) : Bool :=
  if farZ ax ay bx cy px py ≤ 0 then decide (sqZ ax ay px py ≤ d * d) else if sqZ ax ay bx cy ≤ farZ ax ay bx cy px py then decide (sqZ bx cy px py ≤ d * d)
  else decide (crossZ ax ay bx cy px py * crossZ ax ay bx cy px py ≤ d * d * sqZ ax ay bx cy)
def withinOK (ax ay bx cy px py : Int) : Bool := isSeg ax ay bx cy && isPt px py
def withinR (ax ay bx cy px py d : Int) : Bool × Int := if withinOK ax ay bx cy px py then (if inR d 0 10000 then (withinB ax ay bx cy px py d, 0) else (false, 2)) else (false, 1)
theorem seg_ident (ax ay bx cy px py : Int) : crossZ ax ay bx cy px py * crossZ ax ay bx cy px py + farZ ax ay bx cy px py * farZ ax ay bx cy px py = sqZ ax ay px py * sqZ ax ay bx cy := by
  unfold crossZ farZ sqZ; grind
theorem seg_other (ax ay bx cy px py : Int) : sqZ bx cy px py = sqZ ax ay px py - 2 * farZ ax ay bx cy px py + sqZ ax ay bx cy := by
  unfold farZ sqZ; grind
theorem within_near {ax ay bx cy px py d : Int} (hs : 0 ≤ sqZ ax ay bx cy) (h : sqZ ax ay px py ≤ d * d ∨ sqZ bx cy px py ≤ d * d) : withinB ax ay bx cy px py d = true := by
  have i1 := seg_ident ax ay bx cy px py
  have i2 := seg_other ax ay bx cy px py
  unfold withinB
  generalize crossZ ax ay bx cy px py = c at *
  generalize farZ ax ay bx cy px py = f at *
  generalize sqZ ax ay px py = sa at *
  generalize sqZ bx cy px py = sb at *
  generalize sqZ ax ay bx cy = s at *
  generalize d * d = D at *
  split
  · apply decide_eq_true; omega
  · split
    · apply decide_eq_true; omega
    · apply decide_eq_true
      rcases h with h | h
      · have h1 := Int.mul_nonneg (show 0 ≤ D - sa by omega) hs
        have h2 := mul_self_nonneg' f
        rw [Int.sub_mul] at h1
        omega
      · have h1 := Int.mul_nonneg (show 0 ≤ D - sb by omega) hs
        have h2 := mul_self_nonneg' (s - f)
        have e : (s - f) * (s - f) + c * c = sb * s := by rw [i2]; grind
        rw [Int.sub_mul] at h1
        omega
theorem ret_bi {a b : Bool} {n : Int} (h : a = b) : Ending.returned (.tuple #[.bool a, .int .i64 n]) = .returned (.tuple #[.bool b, .int .i64 n]) := by rw [h]
theorem within_last {x c D s : Int} (hx : x = c ∨ x = -c) : decide (sgn (x * x - D * s) ≤ 0) = decide (c * c ≤ D * s) := by
  have : x * x = c * c := by rcases hx with rfl | rfl; rfl; rw [Int.neg_mul_neg]
  rw [this, Bool.eq_iff_iff, decide_eq_true_iff, decide_eq_true_iff]
  generalize c * c = a
  generalize D * s = b
  have := @sgn_pos_iff (a - b)
  omega
set_option maxHeartbeats 400000 in
theorem l01AbsZ_c (n : Int) (w : World) (h : -9223372036854775807 ≤ n) (h2 : n ≤ 9223372036854775807) : Calls Try.prog 99 #[.int .i64 n] w fun e w' => e = .returned (.int .i64 (max n (-n))) ∧ w = w' := by
  go_enter Try.func99, Try.ntmps99
  go_wp2
  all_goals go_ret
  all_goals exact ⟨ret_int (by omega), rfl⟩
set_option maxHeartbeats 3000000 in
theorem WithinDistance_c (ax ay bx cy px py d : Int) (w : World) : Calls Try.prog 39 #[.agg #[.int .i64 ax, .int .i64 ay, .int .i64 bx, .int .i64 cy], .agg #[.int .i64 px, .int .i64 py], .int .i64 d] w fun e w' => e = .returned (.tuple #[.bool (withinR ax ay bx cy px py d).1, .int .i64 (withinR ax ay bx cy px py d).2]) ∧ Below w.heap.size w w' := by
  cases h1 : isSeg ax ay bx cy
  · have HF := Lib.hid (show withinR ax ay bx cy px py d = (false, 1) by simp [withinR, withinOK, h1])
    go_enter Try.func39, Try.ntmps39
    go_wp2_with (go_at_call 75; refine (isSegment_c _ _ _ _ _).mono ?_; rintro e w1 ⟨rfl, hb⟩; (try replace hb := below_trans (by with_reducible assumption) hb); obtain ⟨hc, hf⟩ := bcell hb; have hz := hb.size; (try simp at hz); (try have hz0 : w.heap.size ≤ w1.heap.size := by omega); (try have hz1 : w.heap.size < w1.heap.size := by omega); (try have hz2 : w.heap.size + 1 < w1.heap.size := by omega); (try have hz3 : w.heap.size + 1 + 1 < w1.heap.size := by omega); (try have hz4 : w.heap.size + 1 + 1 + 1 < w1.heap.size := by omega))
    go_ret2
    exact ⟨by rw [HF.out]; rfl, (by repeat (first | with_reducible exact Below.refl _ _ | with_reducible assumption | with_reducible refine Below.drew ?_ | with_reducible refine Below.alloc ?_ (by first | exact Nat.le_refl _ | (simp; done) | (simp; omega) | omega) _ | with_reducible refine Below.setCell ?_ (by first | exact Nat.le_refl _ | (simp; done) | (simp; omega) | omega) _ | with_reducible refine Below.trans ?_ (Below.mono (by with_reducible assumption) (by first | exact Nat.le_refl _ | (simp; done) | (simp; omega) | omega))))⟩
  cases h2 : isPt px py
  · have HF := Lib.hid (show withinR ax ay bx cy px py d = (false, 1) by simp [withinR, withinOK, h2])
    go_enter Try.func39, Try.ntmps39
    go_wp2_with (first | (go_at_call 75; refine (isSegment_c _ _ _ _ _).mono ?_; rintro e w1 ⟨rfl, hb⟩; (try replace hb := below_trans (by with_reducible assumption) hb); obtain ⟨hc, hf⟩ := bcell hb; have hz := hb.size; (try simp at hz); (try have hz0 : w.heap.size ≤ w1.heap.size := by omega); (try have hz1 : w.heap.size < w1.heap.size := by omega); (try have hz2 : w.heap.size + 1 < w1.heap.size := by omega); (try have hz3 : w.heap.size + 1 + 1 < w1.heap.size := by omega); (try have hz4 : w.heap.size + 1 + 1 + 1 < w1.heap.size := by omega)) | (go_at_call 58; refine (isPoint_c _ _ _).mono ?_; rintro e w1 ⟨rfl, hb⟩; (try replace hb := below_trans (by with_reducible assumption) hb); obtain ⟨hc, hf⟩ := bcell hb; have hz := hb.size; (try simp at hz); (try have hz0 : w.heap.size ≤ w1.heap.size := by omega); (try have hz1 : w.heap.size < w1.heap.size := by omega); (try have hz2 : w.heap.size + 1 < w1.heap.size := by omega); (try have hz3 : w.heap.size + 1 + 1 < w1.heap.size := by omega); (try have hz4 : w.heap.size + 1 + 1 + 1 < w1.heap.size := by omega)))
    go_ret2
    exact ⟨by rw [HF.out]; rfl, (by repeat (first | with_reducible exact Below.refl _ _ | with_reducible assumption | with_reducible refine Below.drew ?_ | with_reducible refine Below.alloc ?_ (by first | exact Nat.le_refl _ | (simp; done) | (simp; omega) | omega) _ | with_reducible refine Below.setCell ?_ (by first | exact Nat.le_refl _ | (simp; done) | (simp; omega) | omega) _ | with_reducible refine Below.trans ?_ (Below.mono (by with_reducible assumption) (by first | exact Nat.le_refl _ | (simp; done) | (simp; omega) | omega))))⟩
  cases h3 : inR d 0 10000
  · have HF := Lib.hid (show withinR ax ay bx cy px py d = (false, 2) by simp [withinR, withinOK, h1, h2, h3])
    go_enter Try.func39, Try.ntmps39
    go_wp2_with (first | (go_at_call 75; refine (isSegment_c _ _ _ _ _).mono ?_; rintro e w1 ⟨rfl, hb⟩; (try replace hb := below_trans (by with_reducible assumption) hb); obtain ⟨hc, hf⟩ := bcell hb; have hz := hb.size; (try simp at hz); (try have hz0 : w.heap.size ≤ w1.heap.size := by omega); (try have hz1 : w.heap.size < w1.heap.size := by omega); (try have hz2 : w.heap.size + 1 < w1.heap.size := by omega); (try have hz3 : w.heap.size + 1 + 1 < w1.heap.size := by omega); (try have hz4 : w.heap.size + 1 + 1 + 1 < w1.heap.size := by omega)) | (go_at_call 58; refine (isPoint_c _ _ _).mono ?_; rintro e w1 ⟨rfl, hb⟩; (try replace hb := below_trans (by with_reducible assumption) hb); obtain ⟨hc, hf⟩ := bcell hb; have hz := hb.size; (try simp at hz); (try have hz0 : w.heap.size ≤ w1.heap.size := by omega); (try have hz1 : w.heap.size < w1.heap.size := by omega); (try have hz2 : w.heap.size + 1 < w1.heap.size := by omega); (try have hz3 : w.heap.size + 1 + 1 < w1.heap.size := by omega); (try have hz4 : w.heap.size + 1 + 1 + 1 < w1.heap.size := by omega)) | (go_at_call 53; refine (within_c _ _ _ _).mono ?_; rintro e w' ⟨rfl, rfl⟩))
    go_ret2
    exact ⟨by rw [HF.out]; rfl, (by repeat (first | with_reducible exact Below.refl _ _ | with_reducible assumption | with_reducible refine Below.drew ?_ | with_reducible refine Below.alloc ?_ (by first | exact Nat.le_refl _ | (simp; done) | (simp; omega) | omega) _ | with_reducible refine Below.setCell ?_ (by first | exact Nat.le_refl _ | (simp; done) | (simp; omega) | omega) _ | with_reducible refine Below.trans ?_ (Below.mono (by with_reducible assumption) (by first | exact Nat.le_refl _ | (simp; done) | (simp; omega) | omega))))⟩
  obtain ⟨hA, hB, hne⟩ := isSeg_true h1
  obtain ⟨hd0, hd1⟩ := inR_true h3
  have hF : withinR ax ay bx cy px py d = (withinB ax ay bx cy px py d, 0) := by simp [withinR, withinOK, h1, h2, h3]
  have hw : withinB ax ay bx cy px py d = (if farZ ax ay bx cy px py ≤ 0 then decide (sqZ ax ay px py ≤ d * d) else if sqZ ax ay bx cy ≤ farZ ax ay bx cy px py then decide (sqZ bx cy px py ≤ d * d) else decide (crossZ ax ay bx cy px py * crossZ ax ay bx cy px py ≤ d * d * sqZ ax ay bx cy)) := rfl
  rw [hw] at hF
  clear hw hne
  obtain ⟨s1, s2⟩ := sq_bd hA hB
  obtain ⟨f1, f2⟩ := far_bd hA hB h2
  generalize e3 : crossZ ax ay bx cy px py = c at *
  obtain ⟨c1, c2⟩ := cross_bd e3 hA hB h2
  generalize e1 : farZ ax ay bx cy px py = f at *
  generalize e2 : sqZ ax ay bx cy = s at *
  generalize e4 : sqZ ax ay px py = sa at *
  generalize e5 : sqZ bx cy px py = sb at *
  obtain ⟨d1, d2⟩ := @mul_le2 d d 10000 10000 hd0 hd1 hd0 hd1
  generalize e6 : d * d = D at *
  have HF := Lib.hid hF
  clear hF
  by_cases g1 : f ≤ 0
  · go_enter Try.func39, Try.ntmps39
    go_wp2_with (first | (go_at_call 75; refine (isSegment_c _ _ _ _ _).mono ?_; rintro e w1 ⟨rfl, hb⟩; (try replace hb := below_trans (by with_reducible assumption) hb); obtain ⟨hc, hf⟩ := bcell hb; have hz := hb.size; (try simp at hz); (try have hz0 : w.heap.size ≤ w1.heap.size := by omega); (try have hz1 : w.heap.size < w1.heap.size := by omega); (try have hz2 : w.heap.size + 1 < w1.heap.size := by omega); (try have hz3 : w.heap.size + 1 + 1 < w1.heap.size := by omega); (try have hz4 : w.heap.size + 1 + 1 + 1 < w1.heap.size := by omega)) | (go_at_call 58; refine (isPoint_c _ _ _).mono ?_; rintro e w1 ⟨rfl, hb⟩; (try replace hb := below_trans (by with_reducible assumption) hb); obtain ⟨hc, hf⟩ := bcell hb; have hz := hb.size; (try simp at hz); (try have hz0 : w.heap.size ≤ w1.heap.size := by omega); (try have hz1 : w.heap.size < w1.heap.size := by omega); (try have hz2 : w.heap.size + 1 < w1.heap.size := by omega); (try have hz3 : w.heap.size + 1 + 1 < w1.heap.size := by omega); (try have hz4 : w.heap.size + 1 + 1 + 1 < w1.heap.size := by omega)) | (go_at_call 53; refine (within_c _ _ _ _).mono ?_; rintro e w' ⟨rfl, rfl⟩) | (go_at_call 82; refine (along_c _ _ _ _ _ _ _ hA hB h2).mono ?_; rintro e w1 ⟨rfl, hb⟩; (try replace hb := below_trans (by with_reducible assumption) hb); obtain ⟨hc, hf⟩ := bcell hb; have hz := hb.size; (try simp at hz); (try have hz0 : w.heap.size ≤ w1.heap.size := by omega); (try have hz1 : w.heap.size < w1.heap.size := by omega); (try have hz2 : w.heap.size + 1 < w1.heap.size := by omega); (try have hz3 : w.heap.size + 1 + 1 < w1.heap.size := by omega); (try have hz4 : w.heap.size + 1 + 1 + 1 < w1.heap.size := by omega)) | (go_at_call 62; refine (squareDistance_c _ _ _ _ _ (by assumption) (by assumption)).mono ?_; rintro e w1 ⟨rfl, hb⟩; (try replace hb := below_trans (by with_reducible assumption) hb); obtain ⟨hc, hf⟩ := bcell hb; have hz := hb.size; (try simp at hz); (try have hz0 : w.heap.size ≤ w1.heap.size := by omega); (try have hz1 : w.heap.size < w1.heap.size := by omega); (try have hz2 : w.heap.size + 1 < w1.heap.size := by omega); (try have hz3 : w.heap.size + 1 + 1 < w1.heap.size := by omega); (try have hz4 : w.heap.size + 1 + 1 + 1 < w1.heap.size := by omega)))
    go_ret2
    exact ⟨by rw [HF.out, if_pos (by omega)]; rfl, (by repeat (first | with_reducible exact Below.refl _ _ | with_reducible assumption | with_reducible refine Below.drew ?_ | with_reducible refine Below.alloc ?_ (by first | exact Nat.le_refl _ | (simp; done) | (simp; omega) | omega) _ | with_reducible refine Below.setCell ?_ (by first | exact Nat.le_refl _ | (simp; done) | (simp; omega) | omega) _ | with_reducible refine Below.trans ?_ (Below.mono (by with_reducible assumption) (by first | exact Nat.le_refl _ | (simp; done) | (simp; omega) | omega))))⟩
  by_cases g2 : s ≤ f
  · go_enter Try.func39, Try.ntmps39
    go_wp2_with (first | (go_at_call 75; refine (isSegment_c _ _ _ _ _).mono ?_; rintro e w1 ⟨rfl, hb⟩; (try replace hb := below_trans (by with_reducible assumption) hb); obtain ⟨hc, hf⟩ := bcell hb; have hz := hb.size; (try simp at hz); (try have hz0 : w.heap.size ≤ w1.heap.size := by omega); (try have hz1 : w.heap.size < w1.heap.size := by omega); (try have hz2 : w.heap.size + 1 < w1.heap.size := by omega); (try have hz3 : w.heap.size + 1 + 1 < w1.heap.size := by omega); (try have hz4 : w.heap.size + 1 + 1 + 1 < w1.heap.size := by omega)) | (go_at_call 58; refine (isPoint_c _ _ _).mono ?_; rintro e w1 ⟨rfl, hb⟩; (try replace hb := below_trans (by with_reducible assumption) hb); obtain ⟨hc, hf⟩ := bcell hb; have hz := hb.size; (try simp at hz); (try have hz0 : w.heap.size ≤ w1.heap.size := by omega); (try have hz1 : w.heap.size < w1.heap.size := by omega); (try have hz2 : w.heap.size + 1 < w1.heap.size := by omega); (try have hz3 : w.heap.size + 1 + 1 < w1.heap.size := by omega); (try have hz4 : w.heap.size + 1 + 1 + 1 < w1.heap.size := by omega)) | (go_at_call 53; refine (within_c _ _ _ _).mono ?_; rintro e w' ⟨rfl, rfl⟩) | (go_at_call 82; refine (along_c _ _ _ _ _ _ _ hA hB h2).mono ?_; rintro e w1 ⟨rfl, hb⟩; (try replace hb := below_trans (by with_reducible assumption) hb); obtain ⟨hc, hf⟩ := bcell hb; have hz := hb.size; (try simp at hz); (try have hz0 : w.heap.size ≤ w1.heap.size := by omega); (try have hz1 : w.heap.size < w1.heap.size := by omega); (try have hz2 : w.heap.size + 1 < w1.heap.size := by omega); (try have hz3 : w.heap.size + 1 + 1 < w1.heap.size := by omega); (try have hz4 : w.heap.size + 1 + 1 + 1 < w1.heap.size := by omega)) | (go_at_call 62; refine (squareDistance_c _ _ _ _ _ (by assumption) (by assumption)).mono ?_; rintro e w1 ⟨rfl, hb⟩; (try replace hb := below_trans (by with_reducible assumption) hb); obtain ⟨hc, hf⟩ := bcell hb; have hz := hb.size; (try simp at hz); (try have hz0 : w.heap.size ≤ w1.heap.size := by omega); (try have hz1 : w.heap.size < w1.heap.size := by omega); (try have hz2 : w.heap.size + 1 < w1.heap.size := by omega); (try have hz3 : w.heap.size + 1 + 1 < w1.heap.size := by omega); (try have hz4 : w.heap.size + 1 + 1 + 1 < w1.heap.size := by omega)))
    go_ret2
    exact ⟨by rw [HF.out, if_neg (by omega), if_pos (by omega)]; rfl, (by repeat (first | with_reducible exact Below.refl _ _ | with_reducible assumption | with_reducible refine Below.drew ?_ | with_reducible refine Below.alloc ?_ (by first | exact Nat.le_refl _ | (simp; done) | (simp; omega) | omega) _ | with_reducible refine Below.setCell ?_ (by first | exact Nat.le_refl _ | (simp; done) | (simp; omega) | omega) _ | with_reducible refine Below.trans ?_ (Below.mono (by with_reducible assumption) (by first | exact Nat.le_refl _ | (simp; done) | (simp; omega) | omega))))⟩
  go_enter Try.func39, Try.ntmps39
  go_wp2_with (first | (go_at_call 75; refine (isSegment_c _ _ _ _ _).mono ?_; rintro e w1 ⟨rfl, hb⟩; (try replace hb := below_trans (by with_reducible assumption) hb); obtain ⟨hc, hf⟩ := bcell hb; have hz := hb.size; (try simp at hz); (try have hz0 : w.heap.size ≤ w1.heap.size := by omega); (try have hz1 : w.heap.size < w1.heap.size := by omega); (try have hz2 : w.heap.size + 1 < w1.heap.size := by omega); (try have hz3 : w.heap.size + 1 + 1 < w1.heap.size := by omega); (try have hz4 : w.heap.size + 1 + 1 + 1 < w1.heap.size := by omega)) | (go_at_call 58; refine (isPoint_c _ _ _).mono ?_; rintro e w1 ⟨rfl, hb⟩; (try replace hb := below_trans (by with_reducible assumption) hb); obtain ⟨hc, hf⟩ := bcell hb; have hz := hb.size; (try simp at hz); (try have hz0 : w.heap.size ≤ w1.heap.size := by omega); (try have hz1 : w.heap.size < w1.heap.size := by omega); (try have hz2 : w.heap.size + 1 < w1.heap.size := by omega); (try have hz3 : w.heap.size + 1 + 1 < w1.heap.size := by omega); (try have hz4 : w.heap.size + 1 + 1 + 1 < w1.heap.size := by omega)) | (go_at_call 53; refine (within_c _ _ _ _).mono ?_; rintro e w' ⟨rfl, rfl⟩) | (go_at_call 82; refine (along_c _ _ _ _ _ _ _ hA hB h2).mono ?_; rintro e w1 ⟨rfl, hb⟩; (try replace hb := below_trans (by with_reducible assumption) hb); obtain ⟨hc, hf⟩ := bcell hb; have hz := hb.size; (try simp at hz); (try have hz0 : w.heap.size ≤ w1.heap.size := by omega); (try have hz1 : w.heap.size < w1.heap.size := by omega); (try have hz2 : w.heap.size + 1 < w1.heap.size := by omega); (try have hz3 : w.heap.size + 1 + 1 < w1.heap.size := by omega); (try have hz4 : w.heap.size + 1 + 1 + 1 < w1.heap.size := by omega)) | (go_at_call 80; refine (cross_c _ _ _ _ _ _ _ hA hB h2).mono ?_; rintro e w1 ⟨rfl, hb⟩; (try replace hb := below_trans (by with_reducible assumption) hb); obtain ⟨hc, hf⟩ := bcell hb; have hz := hb.size; (try simp at hz); (try have hz0 : w.heap.size ≤ w1.heap.size := by omega); (try have hz1 : w.heap.size < w1.heap.size := by omega); (try have hz2 : w.heap.size + 1 < w1.heap.size := by omega); (try have hz3 : w.heap.size + 1 + 1 < w1.heap.size := by omega); (try have hz4 : w.heap.size + 1 + 1 + 1 < w1.heap.size := by omega)) | (go_at_call 83; refine (compareProducts_c _ _ _ _ _ (by omega) (by omega) (by omega) (by omega) (by omega) (by omega) (by omega) (by omega)).mono ?_; rintro e w' ⟨rfl, rfl⟩))
  all_goals go_ret2
  all_goals exact ⟨by rw [HF.out, if_neg (by omega), if_neg (by omega)]; exact ret_bi (within_last (by omega)), (by repeat (first | with_reducible exact Below.refl _ _ | with_reducible assumption | with_reducible refine Below.drew ?_ | with_reducible refine Below.alloc ?_ (by first | exact Nat.le_refl _ | (simp; done) | (simp; omega) | omega) _ | with_reducible refine Below.setCell ?_ (by first | exact Nat.le_refl _ | (simp; done) | (simp; omega) | omega) _ | with_reducible refine Below.trans ?_ (Below.mono (by with_reducible assumption) (by first | exact Nat.le_refl _ | (simp; done) | (simp; omega) | omega))))⟩
theorem within_mid {ax ay bx cy px py d c : Int} (hq : 0 ≤ d * d * sqZ ax ay bx cy) (e : crossZ ax ay bx cy px py = c) (h1 : 0 < farZ ax ay bx cy px py) (h2 : farZ ax ay bx cy px py < sqZ ax ay bx cy) : decide (max c (-c) ≤ rootZ (d * d * sqZ ax ay bx cy)) = withinB ax ay bx cy px py d := by
  unfold withinB
  rw [if_neg (by omega), if_neg (by omega), e]
  rw [Bool.eq_iff_iff, decide_eq_true_iff, decide_eq_true_iff, root_le hq (by omega)]
  have : max c (-c) * max c (-c) = c * c := by
    rcases Int.le_total 0 c with h | h
    · rw [show max c (-c) = c by omega]
    · rw [show max c (-c) = -c by omega, Int.neg_mul_neg]
  rw [this]
theorem within_out {ax ay bx cy px py d : Int} (ha : ¬ sqZ ax ay px py ≤ d * d) (hb : ¬ sqZ bx cy px py ≤ d * d) (h : farZ ax ay bx cy px py ≤ 0 ∨ sqZ ax ay bx cy ≤ farZ ax ay bx cy px py) : withinB ax ay bx cy px py d = false := by
  unfold withinB
  split
  · exact decide_eq_false ha
  · rw [if_pos (by omega)]; exact decide_eq_false hb
set_option maxHeartbeats 3000000 in
theorem l02Within_c (ax ay bx cy px py d : Int) (w : World) (hA : isPt ax ay = true) (hB : isPt bx cy = true) (hP : isPt px py = true) (hd0 : 0 ≤ d) (hd1 : d ≤ 10000) : Calls Try.prog 84 #[.agg #[.int .i64 ax, .int .i64 ay, .int .i64 bx, .int .i64 cy], .agg #[.int .i64 px, .int .i64 py], .int .i64 d] w fun e w' => e = .returned (.bool (withinB ax ay bx cy px py d)) ∧ Below w.heap.size w w' := by
  have v1 := isVec_sub hB hA
  have v2 := isVec_sub hP hA
  have k1 := fun w => l01Dot_c (bx - ax) (cy - ay) (px - ax) (py - ay) w v1 v2
  have k2 := fun w => l01Dot_c (bx - ax) (cy - ay) (bx - ax) (cy - ay) w v1 v1
  have k3 := fun w => l01Cross_c (bx - ax) (cy - ay) (px - ax) (py - ay) w v1 v2
  rw [show (bx - ax) * (px - ax) + (cy - ay) * (py - ay) = farZ ax ay bx cy px py by unfold farZ; rw [Int.mul_comm (bx - ax), Int.mul_comm (cy - ay)]] at k1
  rw [show (bx - ax) * (bx - ax) + (cy - ay) * (cy - ay) = sqZ ax ay bx cy by unfold sqZ; grind] at k2
  rw [show (bx - ax) * (py - ay) - (cy - ay) * (px - ax) = crossZ ax ay bx cy px py from rfl] at k3
  obtain ⟨s1, s2⟩ := sq_bd hA hB
  obtain ⟨f1, f2⟩ := far_bd hA hB hP
  obtain ⟨d1, d2⟩ := @mul_le2 d d 10000 10000 hd0 hd1 hd0 hd1
  have near := @within_near ax ay bx cy px py d s1
  have outb := @within_out ax ay bx cy px py d
  have mid := @within_mid ax ay bx cy px py d (crossZ ax ay bx cy px py) (Int.mul_nonneg d1 s1) rfl
  have cr := fun w => l02RootOf_c d (sqZ ax ay bx cy) w hd0 hd1 s1 s2
  have rr := (rootZ_is (Int.mul_nonneg d1 s1)).1
  generalize e3 : crossZ ax ay bx cy px py = c at *
  obtain ⟨c1, c2⟩ := cross_bd e3 hA hB hP
  clear e3
  generalize farZ ax ay bx cy px py = f at *
  generalize sqZ ax ay bx cy = s at *
  generalize e4 : sqZ ax ay px py = sa at *
  generalize e5 : sqZ bx cy px py = sb at *
  generalize rootZ (d * d * s) = rt at *
  generalize e6 : d * d = D at *
  generalize withinB ax ay bx cy px py d = W at *
  have K1 := Lib.hid k1
  have K2 := Lib.hid k2
  have K3 := Lib.hid k3
  have NEAR := Lib.hid near
  have OUTB := Lib.hid outb
  have MID := Lib.hid mid
  have CR := Lib.hid cr
  clear k1 k2 k3 near outb mid cr
  by_cases g1 : sa ≤ D
  · go_enter Try.func84, Try.ntmps84
    go_wp2_with (go_at_call 97; refine (l01Square_c _ _ _ _ _ (by assumption) (by assumption)).mono ?_; rintro e w1 ⟨rfl, hb⟩; (try replace hb := below_trans (by with_reducible assumption) hb); obtain ⟨hc, hf⟩ := bcell hb; have hz := hb.size; (try simp at hz); (try have hz0 : w.heap.size ≤ w1.heap.size := by omega); (try have hz1 : w.heap.size < w1.heap.size := by omega); (try have hz2 : w.heap.size + 1 < w1.heap.size := by omega); (try have hz3 : w.heap.size + 1 + 1 < w1.heap.size := by omega); (try have hz4 : w.heap.size + 1 + 1 + 1 < w1.heap.size := by omega))
    go_ret
    exact ⟨ret_bool (NEAR.out (.inl (by omega))).symm, (by repeat (first | with_reducible exact Below.refl _ _ | with_reducible assumption | with_reducible refine Below.drew ?_ | with_reducible refine Below.alloc ?_ (by first | exact Nat.le_refl _ | (simp; done) | (simp; omega) | omega) _ | with_reducible refine Below.setCell ?_ (by first | exact Nat.le_refl _ | (simp; done) | (simp; omega) | omega) _ | with_reducible refine Below.trans ?_ (Below.mono (by with_reducible assumption) (by first | exact Nat.le_refl _ | (simp; done) | (simp; omega) | omega))))⟩
  by_cases g2 : sb ≤ D
  · go_enter Try.func84, Try.ntmps84
    go_wp2_with (go_at_call 97; refine (l01Square_c _ _ _ _ _ (by assumption) (by assumption)).mono ?_; rintro e w1 ⟨rfl, hb⟩; (try replace hb := below_trans (by with_reducible assumption) hb); obtain ⟨hc, hf⟩ := bcell hb; have hz := hb.size; (try simp at hz); (try have hz0 : w.heap.size ≤ w1.heap.size := by omega); (try have hz1 : w.heap.size < w1.heap.size := by omega); (try have hz2 : w.heap.size + 1 < w1.heap.size := by omega); (try have hz3 : w.heap.size + 1 + 1 < w1.heap.size := by omega); (try have hz4 : w.heap.size + 1 + 1 + 1 < w1.heap.size := by omega))
    go_ret
    exact ⟨ret_bool (NEAR.out (.inr (by omega))).symm, (by repeat (first | with_reducible exact Below.refl _ _ | with_reducible assumption | with_reducible refine Below.drew ?_ | with_reducible refine Below.alloc ?_ (by first | exact Nat.le_refl _ | (simp; done) | (simp; omega) | omega) _ | with_reducible refine Below.setCell ?_ (by first | exact Nat.le_refl _ | (simp; done) | (simp; omega) | omega) _ | with_reducible refine Below.trans ?_ (Below.mono (by with_reducible assumption) (by first | exact Nat.le_refl _ | (simp; done) | (simp; omega) | omega))))⟩
  by_cases g3 : f ≤ 0
  · go_enter Try.func84, Try.ntmps84
    go_wp2_with (first | (go_at_call 97; refine (l01Square_c _ _ _ _ _ (by assumption) (by assumption)).mono ?_; rintro e w1 ⟨rfl, hb⟩; (try replace hb := below_trans (by with_reducible assumption) hb); obtain ⟨hc, hf⟩ := bcell hb; have hz := hb.size; (try simp at hz); (try have hz0 : w.heap.size ≤ w1.heap.size := by omega); (try have hz1 : w.heap.size < w1.heap.size := by omega); (try have hz2 : w.heap.size + 1 < w1.heap.size := by omega); (try have hz3 : w.heap.size + 1 + 1 < w1.heap.size := by omega); (try have hz4 : w.heap.size + 1 + 1 + 1 < w1.heap.size := by omega)) | (go_at_call 92; refine (l01Minus_c _ _ _ _ _ hB hA).mono ?_; rintro e w1 ⟨rfl, hb⟩; (try replace hb := below_trans (by with_reducible assumption) hb); obtain ⟨hc, hf⟩ := bcell hb; have hz := hb.size; (try simp at hz); (try have hz0 : w.heap.size ≤ w1.heap.size := by omega); (try have hz1 : w.heap.size < w1.heap.size := by omega); (try have hz2 : w.heap.size + 1 < w1.heap.size := by omega); (try have hz3 : w.heap.size + 1 + 1 < w1.heap.size := by omega); (try have hz4 : w.heap.size + 1 + 1 + 1 < w1.heap.size := by omega)))
    refine wp_region_later (by kernel_rfl) (by kernel_rfl) ?_
    repeat (first | go_big_quiet_step ((first | (go_at_call 92; exact later_of _ (l01Minus_c _ _ _ _ _ hP hA)) | (go_at_call 98; first | (with_reducible exact later_of _ (K1.out _)) | (with_reducible exact later_of _ (K2.out _))))) | quiet_step ((first | (go_at_call 92; exact later_of _ (l01Minus_c _ _ _ _ _ hP hA)) | (go_at_call 98; first | (with_reducible exact later_of _ (K1.out _)) | (with_reducible exact later_of _ (K2.out _))))))
    refine wpQuiet_nil ?_
    intro _ hw'
    obtain ⟨s1, hw''⟩ := hw'
    subst hw''
    have hb1 := s1.below
    generalize s1.w = w1 at hb1 ⊢
    clear s1
    try replace hb1 := below_trans (by with_reducible assumption) hb1
    obtain ⟨hc1, hf1⟩ := bcell hb1
    have hz1 := hb1.size
    try simp at hz1
    try have hz10 : w.heap.size ≤ w1.heap.size := by omega
    try have hz11 : w.heap.size < w1.heap.size := by omega
    try have hz12 : w.heap.size + 1 < w1.heap.size := by omega
    try have hz13 : w.heap.size + 1 + 1 < w1.heap.size := by omega
    try have hz14 : w.heap.size + 1 + 1 + 1 < w1.heap.size := by omega
    go_wp2
    go_ret
    exact ⟨ret_bool (OUTB.out (by omega) (by omega) (.inl (by omega))).symm, (by repeat (first | with_reducible exact Below.refl _ _ | with_reducible assumption | with_reducible refine Below.drew ?_ | with_reducible refine Below.alloc ?_ (by first | exact Nat.le_refl _ | (simp; done) | (simp; omega) | omega) _ | with_reducible refine Below.setCell ?_ (by first | exact Nat.le_refl _ | (simp; done) | (simp; omega) | omega) _ | with_reducible refine Below.trans ?_ (Below.mono (by with_reducible assumption) (by first | exact Nat.le_refl _ | (simp; done) | (simp; omega) | omega))))⟩
  by_cases g4 : s ≤ f
  · go_enter Try.func84, Try.ntmps84
    go_wp2_with (first | (go_at_call 97; refine (l01Square_c _ _ _ _ _ (by assumption) (by assumption)).mono ?_; rintro e w1 ⟨rfl, hb⟩; (try replace hb := below_trans (by with_reducible assumption) hb); obtain ⟨hc, hf⟩ := bcell hb; have hz := hb.size; (try simp at hz); (try have hz0 : w.heap.size ≤ w1.heap.size := by omega); (try have hz1 : w.heap.size < w1.heap.size := by omega); (try have hz2 : w.heap.size + 1 < w1.heap.size := by omega); (try have hz3 : w.heap.size + 1 + 1 < w1.heap.size := by omega); (try have hz4 : w.heap.size + 1 + 1 + 1 < w1.heap.size := by omega)) | (go_at_call 92; refine (l01Minus_c _ _ _ _ _ hB hA).mono ?_; rintro e w1 ⟨rfl, hb⟩; (try replace hb := below_trans (by with_reducible assumption) hb); obtain ⟨hc, hf⟩ := bcell hb; have hz := hb.size; (try simp at hz); (try have hz0 : w.heap.size ≤ w1.heap.size := by omega); (try have hz1 : w.heap.size < w1.heap.size := by omega); (try have hz2 : w.heap.size + 1 < w1.heap.size := by omega); (try have hz3 : w.heap.size + 1 + 1 < w1.heap.size := by omega); (try have hz4 : w.heap.size + 1 + 1 + 1 < w1.heap.size := by omega)))
    refine wp_region_later (by kernel_rfl) (by kernel_rfl) ?_
    repeat (first | go_big_quiet_step ((first | (go_at_call 92; exact later_of _ (l01Minus_c _ _ _ _ _ hP hA)) | (go_at_call 98; first | (with_reducible exact later_of _ (K1.out _)) | (with_reducible exact later_of _ (K2.out _))))) | quiet_step ((first | (go_at_call 92; exact later_of _ (l01Minus_c _ _ _ _ _ hP hA)) | (go_at_call 98; first | (with_reducible exact later_of _ (K1.out _)) | (with_reducible exact later_of _ (K2.out _))))))
    refine wpQuiet_nil ?_
    intro _ hw'
    obtain ⟨s1, hw''⟩ := hw'
    subst hw''
    have hb1 := s1.below
    generalize s1.w = w1 at hb1 ⊢
    clear s1
    try replace hb1 := below_trans (by with_reducible assumption) hb1
    obtain ⟨hc1, hf1⟩ := bcell hb1
    have hz1 := hb1.size
    try simp at hz1
    try have hz10 : w.heap.size ≤ w1.heap.size := by omega
    try have hz11 : w.heap.size < w1.heap.size := by omega
    try have hz12 : w.heap.size + 1 < w1.heap.size := by omega
    try have hz13 : w.heap.size + 1 + 1 < w1.heap.size := by omega
    try have hz14 : w.heap.size + 1 + 1 + 1 < w1.heap.size := by omega
    go_wp2
    go_ret
    exact ⟨ret_bool (OUTB.out (by omega) (by omega) (.inr (by omega))).symm, (by repeat (first | with_reducible exact Below.refl _ _ | with_reducible assumption | with_reducible refine Below.drew ?_ | with_reducible refine Below.alloc ?_ (by first | exact Nat.le_refl _ | (simp; done) | (simp; omega) | omega) _ | with_reducible refine Below.setCell ?_ (by first | exact Nat.le_refl _ | (simp; done) | (simp; omega) | omega) _ | with_reducible refine Below.trans ?_ (Below.mono (by with_reducible assumption) (by first | exact Nat.le_refl _ | (simp; done) | (simp; omega) | omega))))⟩
  have ca : ∀ w, Calls Try.prog 99 #[.int .i64 c] w fun e w' => e = .returned (.int .i64 (max c (-c))) ∧ w = w' := fun w => l01AbsZ_c c w (by omega) (by omega)
  have CA := Lib.hid ca
  clear ca
  go_enter Try.func84, Try.ntmps84
  go_wp2_with (first | (go_at_call 97; refine (l01Square_c _ _ _ _ _ (by assumption) (by assumption)).mono ?_; rintro e w1 ⟨rfl, hb⟩; (try replace hb := below_trans (by with_reducible assumption) hb); obtain ⟨hc, hf⟩ := bcell hb; have hz := hb.size; (try simp at hz); (try have hz0 : w.heap.size ≤ w1.heap.size := by omega); (try have hz1 : w.heap.size < w1.heap.size := by omega); (try have hz2 : w.heap.size + 1 < w1.heap.size := by omega); (try have hz3 : w.heap.size + 1 + 1 < w1.heap.size := by omega); (try have hz4 : w.heap.size + 1 + 1 + 1 < w1.heap.size := by omega)) | (go_at_call 92; refine (l01Minus_c _ _ _ _ _ hB hA).mono ?_; rintro e w1 ⟨rfl, hb⟩; (try replace hb := below_trans (by with_reducible assumption) hb); obtain ⟨hc, hf⟩ := bcell hb; have hz := hb.size; (try simp at hz); (try have hz0 : w.heap.size ≤ w1.heap.size := by omega); (try have hz1 : w.heap.size < w1.heap.size := by omega); (try have hz2 : w.heap.size + 1 < w1.heap.size := by omega); (try have hz3 : w.heap.size + 1 + 1 < w1.heap.size := by omega); (try have hz4 : w.heap.size + 1 + 1 + 1 < w1.heap.size := by omega)))
  refine wp_region_later (by kernel_rfl) (by kernel_rfl) ?_
  repeat (first | go_big_quiet_step ((first | (go_at_call 92; exact later_of _ (l01Minus_c _ _ _ _ _ hP hA)) | (go_at_call 98; first | (with_reducible exact later_of _ (K1.out _)) | (with_reducible exact later_of _ (K2.out _))))) | quiet_step ((first | (go_at_call 92; exact later_of _ (l01Minus_c _ _ _ _ _ hP hA)) | (go_at_call 98; first | (with_reducible exact later_of _ (K1.out _)) | (with_reducible exact later_of _ (K2.out _))))))
  refine wpQuiet_nil ?_
  intro _ hw'
  obtain ⟨s1, hw''⟩ := hw'
  subst hw''
  have hb1 := s1.below
  generalize s1.w = w1 at hb1 ⊢
  clear s1
  try replace hb1 := below_trans (by with_reducible assumption) hb1
  obtain ⟨hc1, hf1⟩ := bcell hb1
  have hz1 := hb1.size
  try simp at hz1
  try have hz10 : w.heap.size ≤ w1.heap.size := by omega
  try have hz11 : w.heap.size < w1.heap.size := by omega
  try have hz12 : w.heap.size + 1 < w1.heap.size := by omega
  try have hz13 : w.heap.size + 1 + 1 < w1.heap.size := by omega
  try have hz14 : w.heap.size + 1 + 1 + 1 < w1.heap.size := by omega
  have hlx := below_lt hb1
  go_wp2_with fail
  refine wp_region_later (by kernel_rfl) (by kernel_rfl) ?_
  repeat (first | go_big_quiet_step ((first | (go_at_call 92; exact later_of _ (l01Minus_c _ _ _ _ _ hP hA)) | (go_at_call 91; exact later_of _ (K3.out _)) | (go_at_call 99; exact later_of_same _ (CA.out _)) | (go_at_call 100; exact later_of_same _ (CR.out _)))) | quiet_step ((first | (go_at_call 92; exact later_of _ (l01Minus_c _ _ _ _ _ hP hA)) | (go_at_call 91; exact later_of _ (K3.out _)) | (go_at_call 99; exact later_of_same _ (CA.out _)) | (go_at_call 100; exact later_of_same _ (CR.out _)))))
  refine wpQuiet_nil ?_
  intro _ hw'
  obtain ⟨s2, hw''⟩ := hw'
  subst hw''
  have hb2 := s2.below
  generalize s2.w = w2 at hb2 ⊢
  clear s2
  try replace hb2 := below_trans (by with_reducible assumption) hb2
  obtain ⟨hc2, hf2⟩ := bcell hb2
  have hz2 := hb2.size
  try simp at hz2
  try have hz20 : w.heap.size ≤ w2.heap.size := by omega
  try have hz21 : w.heap.size < w2.heap.size := by omega
  try have hz22 : w.heap.size + 1 < w2.heap.size := by omega
  try have hz23 : w.heap.size + 1 + 1 < w2.heap.size := by omega
  try have hz24 : w.heap.size + 1 + 1 + 1 < w2.heap.size := by omega
  go_wp2
  go_ret
  exact ⟨ret_bool (MID.out (by omega) (by omega)), (by repeat (first | with_reducible exact Below.refl _ _ | with_reducible assumption | with_reducible refine Below.drew ?_ | with_reducible refine Below.alloc ?_ (by first | exact Nat.le_refl _ | (simp; done) | (simp; omega) | omega) _ | with_reducible refine Below.setCell ?_ (by first | exact Nat.le_refl _ | (simp; done) | (simp; omega) | omega) _ | with_reducible refine Below.trans ?_ (Below.mono (by with_reducible assumption) (by first | exact Nat.le_refl _ | (simp; done) | (simp; omega) | omega))))⟩
set_option maxHeartbeats 3000000 in
theorem WithinDistanceS_c (ax ay bx cy px py d : Int) (w : World) : Calls Try.prog 40 #[.agg #[.int .i64 ax, .int .i64 ay, .int .i64 bx, .int .i64 cy], .agg #[.int .i64 px, .int .i64 py], .int .i64 d] w fun e w' => e = .returned (.tuple #[.bool (withinR ax ay bx cy px py d).1, .int .i64 (withinR ax ay bx cy px py d).2]) ∧ Below w.heap.size w w' := by
  cases h1 : isSeg ax ay bx cy
  · have HF := Lib.hid (show withinR ax ay bx cy px py d = (false, 1) by simp [withinR, withinOK, h1])
    go_enter Try.func40, Try.ntmps40
    go_wp2_with (go_at_call 77; refine (isSegmentS_c _ _ _ _ _).mono ?_; rintro e w1 ⟨rfl, hb⟩; (try replace hb := below_trans (by with_reducible assumption) hb); obtain ⟨hc, hf⟩ := bcell hb; have hz := hb.size; (try simp at hz); (try have hz0 : w.heap.size ≤ w1.heap.size := by omega); (try have hz1 : w.heap.size < w1.heap.size := by omega); (try have hz2 : w.heap.size + 1 < w1.heap.size := by omega); (try have hz3 : w.heap.size + 1 + 1 < w1.heap.size := by omega); (try have hz4 : w.heap.size + 1 + 1 + 1 < w1.heap.size := by omega))
    go_ret2
    exact ⟨by rw [HF.out]; rfl, (by repeat (first | with_reducible exact Below.refl _ _ | with_reducible assumption | with_reducible refine Below.drew ?_ | with_reducible refine Below.alloc ?_ (by first | exact Nat.le_refl _ | (simp; done) | (simp; omega) | omega) _ | with_reducible refine Below.setCell ?_ (by first | exact Nat.le_refl _ | (simp; done) | (simp; omega) | omega) _ | with_reducible refine Below.trans ?_ (Below.mono (by with_reducible assumption) (by first | exact Nat.le_refl _ | (simp; done) | (simp; omega) | omega))))⟩
  cases h2 : isPt px py
  · have HF := Lib.hid (show withinR ax ay bx cy px py d = (false, 1) by simp [withinR, withinOK, h2])
    go_enter Try.func40, Try.ntmps40
    go_wp2_with (first | (go_at_call 77; refine (isSegmentS_c _ _ _ _ _).mono ?_; rintro e w1 ⟨rfl, hb⟩; (try replace hb := below_trans (by with_reducible assumption) hb); obtain ⟨hc, hf⟩ := bcell hb; have hz := hb.size; (try simp at hz); (try have hz0 : w.heap.size ≤ w1.heap.size := by omega); (try have hz1 : w.heap.size < w1.heap.size := by omega); (try have hz2 : w.heap.size + 1 < w1.heap.size := by omega); (try have hz3 : w.heap.size + 1 + 1 < w1.heap.size := by omega); (try have hz4 : w.heap.size + 1 + 1 + 1 < w1.heap.size := by omega)) | (go_at_call 60; refine (isPointS_c _ _ _).mono ?_; rintro e w1 ⟨rfl, hb⟩; (try replace hb := below_trans (by with_reducible assumption) hb); obtain ⟨hc, hf⟩ := bcell hb; have hz := hb.size; (try simp at hz); (try have hz0 : w.heap.size ≤ w1.heap.size := by omega); (try have hz1 : w.heap.size < w1.heap.size := by omega); (try have hz2 : w.heap.size + 1 < w1.heap.size := by omega); (try have hz3 : w.heap.size + 1 + 1 < w1.heap.size := by omega); (try have hz4 : w.heap.size + 1 + 1 + 1 < w1.heap.size := by omega)))
    go_ret2
    exact ⟨by rw [HF.out]; rfl, (by repeat (first | with_reducible exact Below.refl _ _ | with_reducible assumption | with_reducible refine Below.drew ?_ | with_reducible refine Below.alloc ?_ (by first | exact Nat.le_refl _ | (simp; done) | (simp; omega) | omega) _ | with_reducible refine Below.setCell ?_ (by first | exact Nat.le_refl _ | (simp; done) | (simp; omega) | omega) _ | with_reducible refine Below.trans ?_ (Below.mono (by with_reducible assumption) (by first | exact Nat.le_refl _ | (simp; done) | (simp; omega) | omega))))⟩
  cases h3 : inR d 0 10000
  · have HF := Lib.hid (show withinR ax ay bx cy px py d = (false, 2) by simp [withinR, withinOK, h1, h2, h3])
    go_enter Try.func40, Try.ntmps40
    go_wp2_with (first | (go_at_call 77; refine (isSegmentS_c _ _ _ _ _).mono ?_; rintro e w1 ⟨rfl, hb⟩; (try replace hb := below_trans (by with_reducible assumption) hb); obtain ⟨hc, hf⟩ := bcell hb; have hz := hb.size; (try simp at hz); (try have hz0 : w.heap.size ≤ w1.heap.size := by omega); (try have hz1 : w.heap.size < w1.heap.size := by omega); (try have hz2 : w.heap.size + 1 < w1.heap.size := by omega); (try have hz3 : w.heap.size + 1 + 1 < w1.heap.size := by omega); (try have hz4 : w.heap.size + 1 + 1 + 1 < w1.heap.size := by omega)) | (go_at_call 60; refine (isPointS_c _ _ _).mono ?_; rintro e w1 ⟨rfl, hb⟩; (try replace hb := below_trans (by with_reducible assumption) hb); obtain ⟨hc, hf⟩ := bcell hb; have hz := hb.size; (try simp at hz); (try have hz0 : w.heap.size ≤ w1.heap.size := by omega); (try have hz1 : w.heap.size < w1.heap.size := by omega); (try have hz2 : w.heap.size + 1 < w1.heap.size := by omega); (try have hz3 : w.heap.size + 1 + 1 < w1.heap.size := by omega); (try have hz4 : w.heap.size + 1 + 1 + 1 < w1.heap.size := by omega)) | (go_at_call 55; refine (l01In_c _ _ _ _).mono ?_; rintro e w' ⟨rfl, rfl⟩))
    go_ret2
    exact ⟨by rw [HF.out]; rfl, (by repeat (first | with_reducible exact Below.refl _ _ | with_reducible assumption | with_reducible refine Below.drew ?_ | with_reducible refine Below.alloc ?_ (by first | exact Nat.le_refl _ | (simp; done) | (simp; omega) | omega) _ | with_reducible refine Below.setCell ?_ (by first | exact Nat.le_refl _ | (simp; done) | (simp; omega) | omega) _ | with_reducible refine Below.trans ?_ (Below.mono (by with_reducible assumption) (by first | exact Nat.le_refl _ | (simp; done) | (simp; omega) | omega))))⟩
  obtain ⟨hA, hB, _⟩ := isSeg_true h1
  obtain ⟨hd0, hd1⟩ := inR_true h3
  have HF := Lib.hid (show withinR ax ay bx cy px py d = (withinB ax ay bx cy px py d, 0) by simp [withinR, withinOK, h1, h2, h3])
  go_enter Try.func40, Try.ntmps40
  go_wp2_with (first | (go_at_call 77; refine (isSegmentS_c _ _ _ _ _).mono ?_; rintro e w1 ⟨rfl, hb⟩; (try replace hb := below_trans (by with_reducible assumption) hb); obtain ⟨hc, hf⟩ := bcell hb; have hz := hb.size; (try simp at hz); (try have hz0 : w.heap.size ≤ w1.heap.size := by omega); (try have hz1 : w.heap.size < w1.heap.size := by omega); (try have hz2 : w.heap.size + 1 < w1.heap.size := by omega); (try have hz3 : w.heap.size + 1 + 1 < w1.heap.size := by omega); (try have hz4 : w.heap.size + 1 + 1 + 1 < w1.heap.size := by omega)) | (go_at_call 60; refine (isPointS_c _ _ _).mono ?_; rintro e w1 ⟨rfl, hb⟩; (try replace hb := below_trans (by with_reducible assumption) hb); obtain ⟨hc, hf⟩ := bcell hb; have hz := hb.size; (try simp at hz); (try have hz0 : w.heap.size ≤ w1.heap.size := by omega); (try have hz1 : w.heap.size < w1.heap.size := by omega); (try have hz2 : w.heap.size + 1 < w1.heap.size := by omega); (try have hz3 : w.heap.size + 1 + 1 < w1.heap.size := by omega); (try have hz4 : w.heap.size + 1 + 1 + 1 < w1.heap.size := by omega)) | (go_at_call 55; refine (l01In_c _ _ _ _).mono ?_; rintro e w' ⟨rfl, rfl⟩) | (go_at_call 84; refine (l02Within_c _ _ _ _ _ _ _ _ hA hB h2 hd0 hd1).mono ?_; rintro e w1 ⟨rfl, hb⟩; (try replace hb := below_trans (by with_reducible assumption) hb); obtain ⟨hc, hf⟩ := bcell hb; have hz := hb.size; (try simp at hz); (try have hz0 : w.heap.size ≤ w1.heap.size := by omega); (try have hz1 : w.heap.size < w1.heap.size := by omega); (try have hz2 : w.heap.size + 1 < w1.heap.size := by omega); (try have hz3 : w.heap.size + 1 + 1 < w1.heap.size := by omega); (try have hz4 : w.heap.size + 1 + 1 + 1 < w1.heap.size := by omega)))
  go_ret2
  exact ⟨by rw [HF.out]; rfl, (by repeat (first | with_reducible exact Below.refl _ _ | with_reducible assumption | with_reducible refine Below.drew ?_ | with_reducible refine Below.alloc ?_ (by first | exact Nat.le_refl _ | (simp; done) | (simp; omega) | omega) _ | with_reducible refine Below.setCell ?_ (by first | exact Nat.le_refl _ | (simp; done) | (simp; omega) | omega) _ | with_reducible refine Below.trans ?_ (Below.mono (by with_reducible assumption) (by first | exact Nat.le_refl _ | (simp; done) | (simp; omega) | omega))))⟩
end Go.Proofs.Ytiinhelljcgeaaa
