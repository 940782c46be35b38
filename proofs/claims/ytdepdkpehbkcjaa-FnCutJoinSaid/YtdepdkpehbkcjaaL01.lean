/-
  What the functions of layer 1 (numbers, points) return: contracts of the program's and of the reference's functions. Their conditions stand with each.
-/
import Derived.Test.YtdepdkpehbkcjaaProg
import Derived.Test.YtdepdkpehbkcjaaBase
import Derived.Test.YtdepdkpehbkcjaaPlain
namespace Go.Proofs.Ytdepdkpehbkcjaa
set_option linter.unusedVariables false
open Go.RowKit Go.Deep

set_option maxHeartbeats 400000 in
theorem within_c (n lo hi : Int) (w : World) : Calls Try.prog 65 #[.int .i64 n, .int .i64 lo, .int .i64 hi] w fun e w' => e = .returned (.bool (inR n lo hi)) ∧ w = w' := by
  by_cases h1 : lo ≤ n
  all_goals by_cases h2 : n ≤ hi
  all_goals
    go_enter Try.func65, Try.ntmps65
    go_wp2
    go_ret
    exact ⟨by simp [inR, h1, h2], rfl⟩
set_option maxHeartbeats 400000 in
theorem l01In_c (n lo hi : Int) (w : World) : Calls Try.prog 60 #[.int .i64 n, .int .i64 lo, .int .i64 hi] w fun e w' => e = .returned (.bool (inR n lo hi)) ∧ w = w' := by
  by_cases h1 : lo ≤ n
  all_goals by_cases h2 : n ≤ hi
  all_goals
    go_enter Try.func60, Try.ntmps60
    go_wp2
    go_ret
    exact ⟨by simp [inR, h1, h2], rfl⟩
set_option maxHeartbeats 400000 in
theorem toPoint_c (x y : Int) (w : World) : Calls Try.prog 87 #[.agg #[.int .i64 x, .int .i64 y]] w fun e w' => e = .returned (.agg #[.int .i64 x, .int .i64 y]) ∧ Below w.heap.size w w' := by
  go_enter Try.func87, Try.ntmps87
  go_wp2
  exact bodyPost_ret (v := .agg #[.int .i64 x, .int .i64 y]) (by simp [results, Try.results87, go_sem]) rfl ⟨rfl, (by repeat (first | with_reducible exact Below.refl _ _ | with_reducible assumption | with_reducible refine Below.drew ?_ | with_reducible refine Below.alloc ?_ (by first | exact Nat.le_refl _ | (simp; done) | (simp; omega) | omega) _ | with_reducible refine Below.setCell ?_ (by first | exact Nat.le_refl _ | (simp; done) | (simp; omega) | omega) _ | with_reducible refine Below.trans ?_ (Below.mono (by with_reducible assumption) (by first | exact Nat.le_refl _ | (simp; done) | (simp; omega) | omega))))⟩
set_option maxHeartbeats 400000 in
theorem isPoint_c (x y : Int) (w : World) : Calls Try.prog 64 #[.agg #[.int .i64 x, .int .i64 y]] w fun e w' => e = .returned (.bool (isPt x y)) ∧ Below w.heap.size w w' := by
  cases h1 : inR x (-1000000) 1000000
  all_goals cases h2 : inR y (-1000000) 1000000
  all_goals
    go_enter Try.func64, Try.ntmps64
    go_wp2_with (go_at_call 65; refine (within_c _ _ _ _).mono ?_; rintro e w' ⟨rfl, rfl⟩)
    go_ret
    exact ⟨by simp [isPt, h1, h2], (by repeat (first | with_reducible exact Below.refl _ _ | with_reducible assumption | with_reducible refine Below.drew ?_ | with_reducible refine Below.alloc ?_ (by first | exact Nat.le_refl _ | (simp; done) | (simp; omega) | omega) _ | with_reducible refine Below.setCell ?_ (by first | exact Nat.le_refl _ | (simp; done) | (simp; omega) | omega) _ | with_reducible refine Below.trans ?_ (Below.mono (by with_reducible assumption) (by first | exact Nat.le_refl _ | (simp; done) | (simp; omega) | omega))))⟩
set_option maxHeartbeats 400000 in
theorem isPointS_c (x y : Int) (w : World) : Calls Try.prog 104 #[.agg #[.int .i64 x, .int .i64 y]] w fun e w' => e = .returned (.bool (isPt x y)) ∧ Below w.heap.size w w' := by
  cases h1 : inR x (-1000000) 1000000
  all_goals cases h2 : inR y (-1000000) 1000000
  all_goals
    go_enter Try.func104, Try.ntmps104
    go_wp2_with (go_at_call 60; refine (l01In_c _ _ _ _).mono ?_; rintro e w' ⟨rfl, rfl⟩)
    go_ret
    exact ⟨by simp [isPt, h1, h2], (by repeat (first | with_reducible exact Below.refl _ _ | with_reducible assumption | with_reducible refine Below.drew ?_ | with_reducible refine Below.alloc ?_ (by first | exact Nat.le_refl _ | (simp; done) | (simp; omega) | omega) _ | with_reducible refine Below.setCell ?_ (by first | exact Nat.le_refl _ | (simp; done) | (simp; omega) | omega) _ | with_reducible refine Below.trans ?_ (Below.mono (by with_reducible assumption) (by first | exact Nat.le_refl _ | (simp; done) | (simp; omega) | omega))))⟩
set_option maxHeartbeats 400000 in
theorem floorDiv_c (a b : Int) (w : World) (hb : 1 ≤ b) (hb2 : b ≤ 9223372036854775807) (ha : -9223372036854775807 ≤ a) (ha2 : a ≤ 9223372036854775807) : Calls Try.prog 107 #[.int .i64 a, .int .i64 b] w fun e w' => e = .returned (.int .i64 (a / b)) ∧ w = w' := by
  go_enter Try.func107, Try.ntmps107
  go_wp2
  · go_ret
    exact ⟨ret_int (wrap_div_neg hb ha ha2 (by assumption)), rfl⟩
  · go_ret
    exact ⟨ret_int (div_pos hb (by assumption)), rfl⟩
set_option maxHeartbeats 400000 in
theorem l01Floor_c (a b : Int) (w : World) (hb : 1 ≤ b) (hb2 : b ≤ 9223372036854775807) (ha : -9223372036854775807 ≤ a) (ha2 : a ≤ 9223372036854775807) : Calls Try.prog 120 #[.int .i64 a, .int .i64 b] w fun e w' => e = .returned (.int .i64 (a / b)) ∧ w = w' := by
  go_enter Try.func120, Try.ntmps120
  go_wp2
  · go_ret
    exact ⟨ret_int (wrap_div_neg hb ha ha2 (by assumption)), rfl⟩
  · go_ret
    exact ⟨ret_int (div_pos hb (by assumption)), rfl⟩
set_option maxHeartbeats 400000 in
theorem sign_c (n : Int) (w : World) : Calls Try.prog 82 #[.int .i64 n] w fun e w' => e = .returned (.int .i64 (sgn n)) ∧ w = w' := by
  go_enter Try.func82, Try.ntmps82
  go_wp2
  all_goals go_ret
  all_goals exact ⟨ret_int (by unfold sgn; split <;> first | omega | (split <;> omega)), rfl⟩
set_option maxHeartbeats 400000 in
theorem l01Sign_c (n : Int) (w : World) : Calls Try.prog 111 #[.int .i64 n] w fun e w' => e = .returned (.int .i64 (sgn n)) ∧ w = w' := by
  by_cases h1 : 0 < n
  · go_enter Try.func111, Try.ntmps111
    go_wp2
    go_ret
    exact ⟨ret_int (by unfold sgn; split <;> first | omega | (split <;> omega)), rfl⟩
  · by_cases h2 : n < 0
    all_goals
      go_enter Try.func111, Try.ntmps111
      go_wp2
      go_ret
      exact ⟨ret_int (by unfold sgn; split <;> first | omega | (split <;> omega)), rfl⟩
set_option maxHeartbeats 400000 in
theorem squareDistance_c (px py qx qy : Int) (w : World) (hp : isPt px py = true) (hq : isPt qx qy = true) : Calls Try.prog 56 #[.agg #[.int .i64 px, .int .i64 py], .agg #[.int .i64 qx, .int .i64 qy]] w fun e w' => e = .returned (.int .i64 (sqZ px py qx qy)) ∧ Below w.heap.size w w' := by
  obtain ⟨p1, p2, p3, p4⟩ := isPt_true hp
  obtain ⟨q1, q2, q3, q4⟩ := isPt_true hq
  clear hp hq
  obtain ⟨m1, m2⟩ := @mul_bd2 (px - qx) (px - qx) (by omega) (by omega) (by omega) (by omega)
  obtain ⟨m3, m4⟩ := @mul_bd2 (py - qy) (py - qy) (by omega) (by omega) (by omega) (by omega)
  go_enter Try.func56, Try.ntmps56
  go_wp2
  refine wp_region_later (by kernel_rfl) (by kernel_rfl) ?_
  repeat (first | go_big_quiet_step (fail) | quiet_step (fail))
  refine wpQuiet_nil ?_
  intro _ hw'
  obtain ⟨s1, hw''⟩ := hw'
  subst hw''
  have hb1 := s1.below
  generalize s1.w = w1 at hb1 ⊢
  clear s1
  try replace hb1 := below_trans (by with_reducible assumption) hb1
  obtain ⟨hc1, hf1⟩ := bcell hb1
  have hz1 := hb1.size
  try simp at hz1
  try have hz10 : w.heap.size ≤ w1.heap.size := by omega
  try have hz11 : w.heap.size < w1.heap.size := by omega
  try have hz12 : w.heap.size + 1 < w1.heap.size := by omega
  try have hz13 : w.heap.size + 1 + 1 < w1.heap.size := by omega
  try have hz14 : w.heap.size + 1 + 1 + 1 < w1.heap.size := by omega
  go_wp2
  go_ret
  exact ⟨by simp [sqZ], (by repeat (first | with_reducible exact Below.refl _ _ | with_reducible assumption | with_reducible refine Below.drew ?_ | with_reducible refine Below.alloc ?_ (by first | exact Nat.le_refl _ | (simp; done) | (simp; omega) | omega) _ | with_reducible refine Below.setCell ?_ (by first | exact Nat.le_refl _ | (simp; done) | (simp; omega) | omega) _ | with_reducible refine Below.trans ?_ (Below.mono (by with_reducible assumption) (by first | exact Nat.le_refl _ | (simp; done) | (simp; omega) | omega))))⟩
set_option maxHeartbeats 400000 in
theorem l01Minus_c (px py qx qy : Int) (w : World) (hp : isPt px py = true) (hq : isPt qx qy = true) : Calls Try.prog 105 #[.agg #[.int .i64 px, .int .i64 py], .agg #[.int .i64 qx, .int .i64 qy]] w fun e w' => e = .returned (.agg #[.int .i64 (px - qx), .int .i64 (py - qy)]) ∧ Below w.heap.size w w' := by
  obtain ⟨p1, p2, p3, p4⟩ := isPt_true hp
  obtain ⟨q1, q2, q3, q4⟩ := isPt_true hq
  clear hp hq
  go_enter Try.func105, Try.ntmps105
  go_wp2
  exact bodyPost_ret (v := .agg #[.int .i64 (px - qx), .int .i64 (py - qy)]) (by simp [results, Try.results105, go_sem]) rfl ⟨rfl, (by repeat (first | with_reducible exact Below.refl _ _ | with_reducible assumption | with_reducible refine Below.drew ?_ | with_reducible refine Below.alloc ?_ (by first | exact Nat.le_refl _ | (simp; done) | (simp; omega) | omega) _ | with_reducible refine Below.setCell ?_ (by first | exact Nat.le_refl _ | (simp; done) | (simp; omega) | omega) _ | with_reducible refine Below.trans ?_ (Below.mono (by with_reducible assumption) (by first | exact Nat.le_refl _ | (simp; done) | (simp; omega) | omega))))⟩
set_option maxHeartbeats 400000 in
theorem l01Dot_c (px py qx qy : Int) (w : World) (hp : isVec px py = true) (hq : isVec qx qy = true) : Calls Try.prog 63 #[.agg #[.int .i64 px, .int .i64 py], .agg #[.int .i64 qx, .int .i64 qy]] w fun e w' => e = .returned (.int .i64 (px * qx + py * qy)) ∧ Below w.heap.size w w' := by
  obtain ⟨p1, p2, p3, p4⟩ := isVec_true hp
  obtain ⟨q1, q2, q3, q4⟩ := isVec_true hq
  clear hp hq
  obtain ⟨m1, m2⟩ := @mul_bd2 px qx (by omega) (by omega) (by omega) (by omega)
  obtain ⟨m3, m4⟩ := @mul_bd2 py qy (by omega) (by omega) (by omega) (by omega)
  go_enter Try.func63, Try.ntmps63
  go_wp2
  go_ret
  exact ⟨rfl, (by repeat (first | with_reducible exact Below.refl _ _ | with_reducible assumption | with_reducible refine Below.drew ?_ | with_reducible refine Below.alloc ?_ (by first | exact Nat.le_refl _ | (simp; done) | (simp; omega) | omega) _ | with_reducible refine Below.setCell ?_ (by first | exact Nat.le_refl _ | (simp; done) | (simp; omega) | omega) _ | with_reducible refine Below.trans ?_ (Below.mono (by with_reducible assumption) (by first | exact Nat.le_refl _ | (simp; done) | (simp; omega) | omega))))⟩
set_option maxHeartbeats 400000 in
theorem l01Cross_c (px py qx qy : Int) (w : World) (hp : isVec px py = true) (hq : isVec qx qy = true) : Calls Try.prog 133 #[.agg #[.int .i64 px, .int .i64 py], .agg #[.int .i64 qx, .int .i64 qy]] w fun e w' => e = .returned (.int .i64 (px * qy - py * qx)) ∧ Below w.heap.size w w' := by
  obtain ⟨p1, p2, p3, p4⟩ := isVec_true hp
  obtain ⟨q1, q2, q3, q4⟩ := isVec_true hq
  clear hp hq
  obtain ⟨m1, m2⟩ := @mul_bd2 px qy (by omega) (by omega) (by omega) (by omega)
  obtain ⟨m3, m4⟩ := @mul_bd2 py qx (by omega) (by omega) (by omega) (by omega)
  go_enter Try.func133, Try.ntmps133
  go_wp2
  go_ret
  exact ⟨rfl, (by repeat (first | with_reducible exact Below.refl _ _ | with_reducible assumption | with_reducible refine Below.drew ?_ | with_reducible refine Below.alloc ?_ (by first | exact Nat.le_refl _ | (simp; done) | (simp; omega) | omega) _ | with_reducible refine Below.setCell ?_ (by first | exact Nat.le_refl _ | (simp; done) | (simp; omega) | omega) _ | with_reducible refine Below.trans ?_ (Below.mono (by with_reducible assumption) (by first | exact Nat.le_refl _ | (simp; done) | (simp; omega) | omega))))⟩
set_option maxHeartbeats 400000 in
theorem cross_c (px py qx qy rx ry : Int) (w : World) (hp : isPt px py = true) (hq : isPt qx qy = true) (hr : isPt rx ry = true) : Calls Try.prog 135 #[.agg #[.int .i64 px, .int .i64 py], .agg #[.int .i64 qx, .int .i64 qy], .agg #[.int .i64 rx, .int .i64 ry]] w fun e w' => e = .returned (.int .i64 (crossZ px py qx qy rx ry)) ∧ Below w.heap.size w w' := by
  obtain ⟨p1, p2, p3, p4⟩ := isPt_true hp
  obtain ⟨q1, q2, q3, q4⟩ := isPt_true hq
  obtain ⟨r1, r2, r3, r4⟩ := isPt_true hr
  clear hp hq hr
  obtain ⟨m1, m2⟩ := @mul_bd2 (qx - px) (ry - py) (by omega) (by omega) (by omega) (by omega)
  obtain ⟨m3, m4⟩ := @mul_bd2 (qy - py) (rx - px) (by omega) (by omega) (by omega) (by omega)
  go_enter Try.func135, Try.ntmps135
  go_wp2
  go_ret
  exact ⟨by simp [crossZ], (by repeat (first | with_reducible exact Below.refl _ _ | with_reducible assumption | with_reducible refine Below.drew ?_ | with_reducible refine Below.alloc ?_ (by first | exact Nat.le_refl _ | (simp; done) | (simp; omega) | omega) _ | with_reducible refine Below.setCell ?_ (by first | exact Nat.le_refl _ | (simp; done) | (simp; omega) | omega) _ | with_reducible refine Below.trans ?_ (Below.mono (by with_reducible assumption) (by first | exact Nat.le_refl _ | (simp; done) | (simp; omega) | omega))))⟩
set_option maxHeartbeats 400000 in
theorem turn_c (px py qx qy rx ry : Int) (w : World) (hp : isPt px py = true) (hq : isPt qx qy = true) (hr : isPt rx ry = true) : Calls Try.prog 125 #[.agg #[.int .i64 px, .int .i64 py], .agg #[.int .i64 qx, .int .i64 qy], .agg #[.int .i64 rx, .int .i64 ry]] w fun e w' => e = .returned (.int .i64 (turnZ px py qx qy rx ry)) ∧ Below w.heap.size w w' := by
  go_enter Try.func125, Try.ntmps125
  go_wp2_with (first | (go_at_call 135; refine (cross_c _ _ _ _ _ _ _ hp hq hr).mono ?_; rintro e w1 ⟨rfl, hb⟩; (try replace hb := below_trans (by with_reducible assumption) hb); obtain ⟨hc, hf⟩ := bcell hb; have hz := hb.size; (try simp at hz); (try have hz0 : w.heap.size ≤ w1.heap.size := by omega); (try have hz1 : w.heap.size < w1.heap.size := by omega); (try have hz2 : w.heap.size + 1 < w1.heap.size := by omega); (try have hz3 : w.heap.size + 1 + 1 < w1.heap.size := by omega); (try have hz4 : w.heap.size + 1 + 1 + 1 < w1.heap.size := by omega)) | (go_at_call 82; refine (sign_c _ _).mono ?_; rintro e w' ⟨rfl, rfl⟩))
  go_ret
  exact ⟨rfl, (by repeat (first | with_reducible exact Below.refl _ _ | with_reducible assumption | with_reducible refine Below.drew ?_ | with_reducible refine Below.alloc ?_ (by first | exact Nat.le_refl _ | (simp; done) | (simp; omega) | omega) _ | with_reducible refine Below.setCell ?_ (by first | exact Nat.le_refl _ | (simp; done) | (simp; omega) | omega) _ | with_reducible refine Below.trans ?_ (Below.mono (by with_reducible assumption) (by first | exact Nat.le_refl _ | (simp; done) | (simp; omega) | omega))))⟩
set_option maxHeartbeats 400000 in
theorem l01Turn_c (px py qx qy rx ry : Int) (w : World) (hp : isPt px py = true) (hq : isPt qx qy = true) (hr : isPt rx ry = true) : Calls Try.prog 132 #[.agg #[.int .i64 px, .int .i64 py], .agg #[.int .i64 qx, .int .i64 qy], .agg #[.int .i64 rx, .int .i64 ry]] w fun e w' => e = .returned (.int .i64 (turnZ px py qx qy rx ry)) ∧ Below w.heap.size w w' := by
  have hv := isVec_sub hq hp
  have hv2 := isVec_sub hr hp
  go_enter Try.func132, Try.ntmps132
  go_wp2_with fail
  refine wp_region_later (by kernel_rfl) (by kernel_rfl) ?_
  repeat (first | go_big_quiet_step ((first | (go_at_call 105; exact later_of _ (l01Minus_c _ _ _ _ _ (by assumption) (by assumption))) | (go_at_call 133; exact later_of _ (l01Cross_c _ _ _ _ _ hv hv2)) | (go_at_call 111; exact later_of_same _ (l01Sign_c _ _)))) | quiet_step ((first | (go_at_call 105; exact later_of _ (l01Minus_c _ _ _ _ _ (by assumption) (by assumption))) | (go_at_call 133; exact later_of _ (l01Cross_c _ _ _ _ _ hv hv2)) | (go_at_call 111; exact later_of_same _ (l01Sign_c _ _)))))
  refine wpQuiet_nil ?_
  intro _ hw'
  obtain ⟨s1, hw''⟩ := hw'
  subst hw''
  have hb1 := s1.below
  generalize s1.w = w1 at hb1 ⊢
  clear s1
  try replace hb1 := below_trans (by with_reducible assumption) hb1
  obtain ⟨hc1, hf1⟩ := bcell hb1
  have hz1 := hb1.size
  try simp at hz1
  try have hz10 : w.heap.size ≤ w1.heap.size := by omega
  try have hz11 : w.heap.size < w1.heap.size := by omega
  try have hz12 : w.heap.size + 1 < w1.heap.size := by omega
  try have hz13 : w.heap.size + 1 + 1 < w1.heap.size := by omega
  try have hz14 : w.heap.size + 1 + 1 + 1 < w1.heap.size := by omega
  go_wp2
  go_ret
  exact ⟨rfl, (by repeat (first | with_reducible exact Below.refl _ _ | with_reducible assumption | with_reducible refine Below.drew ?_ | with_reducible refine Below.alloc ?_ (by first | exact Nat.le_refl _ | (simp; done) | (simp; omega) | omega) _ | with_reducible refine Below.setCell ?_ (by first | exact Nat.le_refl _ | (simp; done) | (simp; omega) | omega) _ | with_reducible refine Below.trans ?_ (Below.mono (by with_reducible assumption) (by first | exact Nat.le_refl _ | (simp; done) | (simp; omega) | omega))))⟩
set_option maxHeartbeats 400000 in
theorem SquareDistance_c (px py qx qy : Int) (w : World) : Calls Try.prog 17 #[.agg #[.int .i64 px, .int .i64 py], .agg #[.int .i64 qx, .int .i64 qy]] w fun e w' => e = .returned (.tuple #[.int .i64 (sqR px py qx qy).1, .int .i64 (sqR px py qx qy).2]) ∧ Below w.heap.size w w' := by
  cases h1 : isPt px py
  all_goals cases h2 : isPt qx qy
  all_goals
    go_enter Try.func17, Try.ntmps17
    go_wp2_with (first | (go_at_call 64; refine (isPoint_c _ _ _).mono ?_; rintro e w1 ⟨rfl, hb⟩; (try replace hb := below_trans (by with_reducible assumption) hb); obtain ⟨hc, hf⟩ := bcell hb; have hz := hb.size; (try simp at hz); (try have hz0 : w.heap.size ≤ w1.heap.size := by omega); (try have hz1 : w.heap.size < w1.heap.size := by omega); (try have hz2 : w.heap.size + 1 < w1.heap.size := by omega); (try have hz3 : w.heap.size + 1 + 1 < w1.heap.size := by omega); (try have hz4 : w.heap.size + 1 + 1 + 1 < w1.heap.size := by omega)) | (go_at_call 56; refine (squareDistance_c _ _ _ _ _ h1 h2).mono ?_; rintro e w1 ⟨rfl, hb⟩; (try replace hb := below_trans (by with_reducible assumption) hb); obtain ⟨hc, hf⟩ := bcell hb; have hz := hb.size; (try simp at hz); (try have hz0 : w.heap.size ≤ w1.heap.size := by omega); (try have hz1 : w.heap.size < w1.heap.size := by omega); (try have hz2 : w.heap.size + 1 < w1.heap.size := by omega); (try have hz3 : w.heap.size + 1 + 1 < w1.heap.size := by omega); (try have hz4 : w.heap.size + 1 + 1 + 1 < w1.heap.size := by omega)))
    go_ret2
    exact ⟨by simp [sqR, h1, h2], (by repeat (first | with_reducible exact Below.refl _ _ | with_reducible assumption | with_reducible refine Below.drew ?_ | with_reducible refine Below.alloc ?_ (by first | exact Nat.le_refl _ | (simp; done) | (simp; omega) | omega) _ | with_reducible refine Below.setCell ?_ (by first | exact Nat.le_refl _ | (simp; done) | (simp; omega) | omega) _ | with_reducible refine Below.trans ?_ (Below.mono (by with_reducible assumption) (by first | exact Nat.le_refl _ | (simp; done) | (simp; omega) | omega))))⟩
end Go.Proofs.Ytdepdkpehbkcjaa
