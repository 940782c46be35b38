/-
  What the functions of layer 2 (segments, lines, turns) return: contracts of the program's and of the reference's functions. Their conditions stand with each.
-/
import Derived.Test.YtiinhelljcgeaaaL01
namespace Go.Proofs.Ytiinhelljcgeaaa
set_option linter.unusedVariables false
open Go.RowKit Go.Deep

set_option maxHeartbeats 400000 in
theorem toSegment_c (ax ay bx cy : Int) (w : World) : Calls Try.prog 47 #[.agg #[.int .i64 ax, .int .i64 ay, .int .i64 bx, .int .i64 cy]] w fun e w' => e = .returned (.agg #[.int .i64 ax, .int .i64 ay, .int .i64 bx, .int .i64 cy]) ∧ Below w.heap.size w w' := by
  go_enter Try.func47, Try.ntmps47
  go_wp2_with (go_at_call 50; refine (toPoint_c _ _ _).mono ?_; rintro e w1 ⟨rfl, hb⟩; (try replace hb := below_trans (by with_reducible assumption) hb); obtain ⟨hc, hf⟩ := bcell hb; have hz := hb.size; (try simp at hz); (try have hz0 : w.heap.size ≤ w1.heap.size := by omega); (try have hz1 : w.heap.size < w1.heap.size := by omega); (try have hz2 : w.heap.size + 1 < w1.heap.size := by omega); (try have hz3 : w.heap.size + 1 + 1 < w1.heap.size := by omega); (try have hz4 : w.heap.size + 1 + 1 + 1 < w1.heap.size := by omega))
  exact bodyPost_ret (v := .agg #[.int .i64 ax, .int .i64 ay, .int .i64 bx, .int .i64 cy]) (by simp [results, Try.results47, go_sem, *]) rfl ⟨rfl, (by repeat (first | with_reducible exact Below.refl _ _ | with_reducible assumption | with_reducible refine Below.drew ?_ | with_reducible refine Below.alloc ?_ (by first | exact Nat.le_refl _ | (simp; done) | (simp; omega) | omega) _ | with_reducible refine Below.setCell ?_ (by first | exact Nat.le_refl _ | (simp; done) | (simp; omega) | omega) _ | with_reducible refine Below.trans ?_ (Below.mono (by with_reducible assumption) (by first | exact Nat.le_refl _ | (simp; done) | (simp; omega) | omega))))⟩
set_option maxHeartbeats 400000 in
theorem isSegment_c (ax ay bx cy : Int) (w : World) : Calls Try.prog 75 #[.agg #[.int .i64 ax, .int .i64 ay, .int .i64 bx, .int .i64 cy]] w fun e w' => e = .returned (.bool (isSeg ax ay bx cy)) ∧ Below w.heap.size w w' := by
  cases h1 : isPt ax ay
  all_goals cases h2 : isPt bx cy
  all_goals
    go_enter Try.func75, Try.ntmps75
    go_wp2_with (go_at_call 58; refine (isPoint_c _ _ _).mono ?_; rintro e w1 ⟨rfl, hb⟩; (try replace hb := below_trans (by with_reducible assumption) hb); obtain ⟨hc, hf⟩ := bcell hb; have hz := hb.size; (try simp at hz); (try have hz0 : w.heap.size ≤ w1.heap.size := by omega); (try have hz1 : w.heap.size < w1.heap.size := by omega); (try have hz2 : w.heap.size + 1 < w1.heap.size := by omega); (try have hz3 : w.heap.size + 1 + 1 < w1.heap.size := by omega); (try have hz4 : w.heap.size + 1 + 1 + 1 < w1.heap.size := by omega))
    all_goals go_ret
    all_goals exact ⟨ret_bool (by first | exact isSeg_no1 h1 | exact isSeg_no2 h2 | exact isSeg_same (by with_reducible assumption) (by with_reducible assumption) | exact isSeg_ne1 h1 h2 (by with_reducible assumption) | exact isSeg_ne2 h1 h2 (by with_reducible assumption)), (by repeat (first | with_reducible exact Below.refl _ _ | with_reducible assumption | with_reducible refine Below.drew ?_ | with_reducible refine Below.alloc ?_ (by first | exact Nat.le_refl _ | (simp; done) | (simp; omega) | omega) _ | with_reducible refine Below.setCell ?_ (by first | exact Nat.le_refl _ | (simp; done) | (simp; omega) | omega) _ | with_reducible refine Below.trans ?_ (Below.mono (by with_reducible assumption) (by first | exact Nat.le_refl _ | (simp; done) | (simp; omega) | omega))))⟩
set_option maxHeartbeats 400000 in
theorem isSegmentS_c (ax ay bx cy : Int) (w : World) : Calls Try.prog 77 #[.agg #[.int .i64 ax, .int .i64 ay, .int .i64 bx, .int .i64 cy]] w fun e w' => e = .returned (.bool (isSeg ax ay bx cy)) ∧ Below w.heap.size w w' := by
  cases h1 : isPt ax ay
  all_goals cases h2 : isPt bx cy
  all_goals
    go_enter Try.func77, Try.ntmps77
    go_wp2_with (go_at_call 60; refine (isPointS_c _ _ _).mono ?_; rintro e w1 ⟨rfl, hb⟩; (try replace hb := below_trans (by with_reducible assumption) hb); obtain ⟨hc, hf⟩ := bcell hb; have hz := hb.size; (try simp at hz); (try have hz0 : w.heap.size ≤ w1.heap.size := by omega); (try have hz1 : w.heap.size < w1.heap.size := by omega); (try have hz2 : w.heap.size + 1 < w1.heap.size := by omega); (try have hz3 : w.heap.size + 1 + 1 < w1.heap.size := by omega); (try have hz4 : w.heap.size + 1 + 1 + 1 < w1.heap.size := by omega))
    all_goals go_ret
    all_goals exact ⟨ret_bool (by first | exact isSeg_no1 h1 | exact isSeg_no2 h2 | exact isSeg_same (by with_reducible assumption) (by with_reducible assumption) | exact isSeg_ne1 h1 h2 (by with_reducible assumption) | exact isSeg_ne2 h1 h2 (by with_reducible assumption)), (by repeat (first | with_reducible exact Below.refl _ _ | with_reducible assumption | with_reducible refine Below.drew ?_ | with_reducible refine Below.alloc ?_ (by first | exact Nat.le_refl _ | (simp; done) | (simp; omega) | omega) _ | with_reducible refine Below.setCell ?_ (by first | exact Nat.le_refl _ | (simp; done) | (simp; omega) | omega) _ | with_reducible refine Below.trans ?_ (Below.mono (by with_reducible assumption) (by first | exact Nat.le_refl _ | (simp; done) | (simp; omega) | omega))))⟩
set_option maxHeartbeats 400000 in
theorem isLineS_c (ax ay bx cy : Int) (w : World) : Calls Try.prog 69 #[.agg #[.int .i64 ax, .int .i64 ay, .int .i64 bx, .int .i64 cy]] w fun e w' => e = .returned (.bool (isSeg ax ay bx cy)) ∧ Below w.heap.size w w' := by
  cases h1 : isPt ax ay
  all_goals cases h2 : isPt bx cy
  all_goals
    go_enter Try.func69, Try.ntmps69
    go_wp2_with (go_at_call 60; refine (isPointS_c _ _ _).mono ?_; rintro e w1 ⟨rfl, hb⟩; (try replace hb := below_trans (by with_reducible assumption) hb); obtain ⟨hc, hf⟩ := bcell hb; have hz := hb.size; (try simp at hz); (try have hz0 : w.heap.size ≤ w1.heap.size := by omega); (try have hz1 : w.heap.size < w1.heap.size := by omega); (try have hz2 : w.heap.size + 1 < w1.heap.size := by omega); (try have hz3 : w.heap.size + 1 + 1 < w1.heap.size := by omega); (try have hz4 : w.heap.size + 1 + 1 + 1 < w1.heap.size := by omega))
    all_goals go_ret
    all_goals exact ⟨ret_bool (by first | exact isSeg_no1 h1 | exact isSeg_no2 h2 | exact isSeg_same (by with_reducible assumption) (by with_reducible assumption) | exact isSeg_ne1 h1 h2 (by with_reducible assumption) | exact isSeg_ne2 h1 h2 (by with_reducible assumption)), (by repeat (first | with_reducible exact Below.refl _ _ | with_reducible assumption | with_reducible refine Below.drew ?_ | with_reducible refine Below.alloc ?_ (by first | exact Nat.le_refl _ | (simp; done) | (simp; omega) | omega) _ | with_reducible refine Below.setCell ?_ (by first | exact Nat.le_refl _ | (simp; done) | (simp; omega) | omega) _ | with_reducible refine Below.trans ?_ (Below.mono (by with_reducible assumption) (by first | exact Nat.le_refl _ | (simp; done) | (simp; omega) | omega))))⟩
set_option maxHeartbeats 400000 in
theorem isLine_c (ax ay bx cy : Int) (w : World) : Calls Try.prog 67 #[.agg #[.int .i64 ax, .int .i64 ay, .int .i64 bx, .int .i64 cy]] w fun e w' => e = .returned (.bool (isSeg ax ay bx cy)) ∧ Below w.heap.size w w' := by
  go_enter Try.func67, Try.ntmps67
  go_wp2_with (go_at_call 75; refine (isSegment_c _ _ _ _ _).mono ?_; rintro e w1 ⟨rfl, hb⟩; (try replace hb := below_trans (by with_reducible assumption) hb); obtain ⟨hc, hf⟩ := bcell hb; have hz := hb.size; (try simp at hz); (try have hz0 : w.heap.size ≤ w1.heap.size := by omega); (try have hz1 : w.heap.size < w1.heap.size := by omega); (try have hz2 : w.heap.size + 1 < w1.heap.size := by omega); (try have hz3 : w.heap.size + 1 + 1 < w1.heap.size := by omega); (try have hz4 : w.heap.size + 1 + 1 + 1 < w1.heap.size := by omega))
  go_ret
  exact ⟨rfl, (by repeat (first | with_reducible exact Below.refl _ _ | with_reducible assumption | with_reducible refine Below.drew ?_ | with_reducible refine Below.alloc ?_ (by first | exact Nat.le_refl _ | (simp; done) | (simp; omega) | omega) _ | with_reducible refine Below.setCell ?_ (by first | exact Nat.le_refl _ | (simp; done) | (simp; omega) | omega) _ | with_reducible refine Below.trans ?_ (Below.mono (by with_reducible assumption) (by first | exact Nat.le_refl _ | (simp; done) | (simp; omega) | omega))))⟩
set_option maxHeartbeats 400000 in
theorem sideOf_c (ax ay bx cy px py : Int) (w : World) (hA : isPt ax ay = true) (hB : isPt bx cy = true) (hP : isPt px py = true) : Calls Try.prog 71 #[.agg #[.int .i64 ax, .int .i64 ay, .int .i64 bx, .int .i64 cy], .agg #[.int .i64 px, .int .i64 py]] w fun e w' => e = .returned (.int .i64 (turnZ ax ay bx cy px py)) ∧ Below w.heap.size w w' := by
  go_enter Try.func71, Try.ntmps71
  go_wp2_with (go_at_call 59; refine (turn_c _ _ _ _ _ _ _ hA hB hP).mono ?_; rintro e w1 ⟨rfl, hb⟩; (try replace hb := below_trans (by with_reducible assumption) hb); obtain ⟨hc, hf⟩ := bcell hb; have hz := hb.size; (try simp at hz); (try have hz0 : w.heap.size ≤ w1.heap.size := by omega); (try have hz1 : w.heap.size < w1.heap.size := by omega); (try have hz2 : w.heap.size + 1 < w1.heap.size := by omega); (try have hz3 : w.heap.size + 1 + 1 < w1.heap.size := by omega); (try have hz4 : w.heap.size + 1 + 1 + 1 < w1.heap.size := by omega))
  go_ret
  exact ⟨rfl, (by repeat (first | with_reducible exact Below.refl _ _ | with_reducible assumption | with_reducible refine Below.drew ?_ | with_reducible refine Below.alloc ?_ (by first | exact Nat.le_refl _ | (simp; done) | (simp; omega) | omega) _ | with_reducible refine Below.setCell ?_ (by first | exact Nat.le_refl _ | (simp; done) | (simp; omega) | omega) _ | with_reducible refine Below.trans ?_ (Below.mono (by with_reducible assumption) (by first | exact Nat.le_refl _ | (simp; done) | (simp; omega) | omega))))⟩
set_option maxHeartbeats 400000 in
theorem l04Before_c (ax ay bx cy px py : Int) (w : World) (hA : isPt ax ay = true) (hB : isPt bx cy = true) (hP : isPt px py = true) : Calls Try.prog 103 #[.agg #[.int .i64 ax, .int .i64 ay, .int .i64 bx, .int .i64 cy], .agg #[.int .i64 px, .int .i64 py]] w fun e w' => e = .returned (.int .i64 (turnZ ax ay bx cy px py)) ∧ Below w.heap.size w w' := by
  go_enter Try.func103, Try.ntmps103
  go_wp2_with (go_at_call 61; refine (l01Turn_c _ _ _ _ _ _ _ hA hB hP).mono ?_; rintro e w1 ⟨rfl, hb⟩; (try replace hb := below_trans (by with_reducible assumption) hb); obtain ⟨hc, hf⟩ := bcell hb; have hz := hb.size; (try simp at hz); (try have hz0 : w.heap.size ≤ w1.heap.size := by omega); (try have hz1 : w.heap.size < w1.heap.size := by omega); (try have hz2 : w.heap.size + 1 < w1.heap.size := by omega); (try have hz3 : w.heap.size + 1 + 1 < w1.heap.size := by omega); (try have hz4 : w.heap.size + 1 + 1 + 1 < w1.heap.size := by omega))
  go_ret
  exact ⟨rfl, (by repeat (first | with_reducible exact Below.refl _ _ | with_reducible assumption | with_reducible refine Below.drew ?_ | with_reducible refine Below.alloc ?_ (by first | exact Nat.le_refl _ | (simp; done) | (simp; omega) | omega) _ | with_reducible refine Below.setCell ?_ (by first | exact Nat.le_refl _ | (simp; done) | (simp; omega) | omega) _ | with_reducible refine Below.trans ?_ (Below.mono (by with_reducible assumption) (by first | exact Nat.le_refl _ | (simp; done) | (simp; omega) | omega))))⟩
set_option maxHeartbeats 800000 in
theorem BeforeLine_c (ax ay bx cy px py : Int) (w : World) : Calls Try.prog 29 #[.agg #[.int .i64 ax, .int .i64 ay, .int .i64 bx, .int .i64 cy], .agg #[.int .i64 px, .int .i64 py]] w fun e w' => e = .returned (.tuple #[.int .i64 (beforeR ax ay bx cy px py).1, .int .i64 (beforeR ax ay bx cy px py).2]) ∧ Below w.heap.size w w' := by
  cases h1 : isSeg ax ay bx cy
  · go_enter Try.func29, Try.ntmps29
    go_wp2_with (go_at_call 67; refine (isLine_c _ _ _ _ _).mono ?_; rintro e w1 ⟨rfl, hb⟩; (try replace hb := below_trans (by with_reducible assumption) hb); obtain ⟨hc, hf⟩ := bcell hb; have hz := hb.size; (try simp at hz); (try have hz0 : w.heap.size ≤ w1.heap.size := by omega); (try have hz1 : w.heap.size < w1.heap.size := by omega); (try have hz2 : w.heap.size + 1 < w1.heap.size := by omega); (try have hz3 : w.heap.size + 1 + 1 < w1.heap.size := by omega); (try have hz4 : w.heap.size + 1 + 1 + 1 < w1.heap.size := by omega))
    go_ret2
    exact ⟨by simp [beforeR, h1], (by repeat (first | with_reducible exact Below.refl _ _ | with_reducible assumption | with_reducible refine Below.drew ?_ | with_reducible refine Below.alloc ?_ (by first | exact Nat.le_refl _ | (simp; done) | (simp; omega) | omega) _ | with_reducible refine Below.setCell ?_ (by first | exact Nat.le_refl _ | (simp; done) | (simp; omega) | omega) _ | with_reducible refine Below.trans ?_ (Below.mono (by with_reducible assumption) (by first | exact Nat.le_refl _ | (simp; done) | (simp; omega) | omega))))⟩
  · obtain ⟨hA, hB, _⟩ := isSeg_true h1
    cases h2 : isPt px py
    all_goals
      go_enter Try.func29, Try.ntmps29
      go_wp2_with (first | (go_at_call 67; refine (isLine_c _ _ _ _ _).mono ?_; rintro e w1 ⟨rfl, hb⟩; (try replace hb := below_trans (by with_reducible assumption) hb); obtain ⟨hc, hf⟩ := bcell hb; have hz := hb.size; (try simp at hz); (try have hz0 : w.heap.size ≤ w1.heap.size := by omega); (try have hz1 : w.heap.size < w1.heap.size := by omega); (try have hz2 : w.heap.size + 1 < w1.heap.size := by omega); (try have hz3 : w.heap.size + 1 + 1 < w1.heap.size := by omega); (try have hz4 : w.heap.size + 1 + 1 + 1 < w1.heap.size := by omega)) | (go_at_call 58; refine (isPoint_c _ _ _).mono ?_; rintro e w1 ⟨rfl, hb⟩; (try replace hb := below_trans (by with_reducible assumption) hb); obtain ⟨hc, hf⟩ := bcell hb; have hz := hb.size; (try simp at hz); (try have hz0 : w.heap.size ≤ w1.heap.size := by omega); (try have hz1 : w.heap.size < w1.heap.size := by omega); (try have hz2 : w.heap.size + 1 < w1.heap.size := by omega); (try have hz3 : w.heap.size + 1 + 1 < w1.heap.size := by omega); (try have hz4 : w.heap.size + 1 + 1 + 1 < w1.heap.size := by omega)) | (go_at_call 71; refine (sideOf_c _ _ _ _ _ _ _ hA hB h2).mono ?_; rintro e w1 ⟨rfl, hb⟩; (try replace hb := below_trans (by with_reducible assumption) hb); obtain ⟨hc, hf⟩ := bcell hb; have hz := hb.size; (try simp at hz); (try have hz0 : w.heap.size ≤ w1.heap.size := by omega); (try have hz1 : w.heap.size < w1.heap.size := by omega); (try have hz2 : w.heap.size + 1 < w1.heap.size := by omega); (try have hz3 : w.heap.size + 1 + 1 < w1.heap.size := by omega); (try have hz4 : w.heap.size + 1 + 1 + 1 < w1.heap.size := by omega)))
      go_ret2
      exact ⟨by simp [beforeR, h1, h2], (by repeat (first | with_reducible exact Below.refl _ _ | with_reducible assumption | with_reducible refine Below.drew ?_ | with_reducible refine Below.alloc ?_ (by first | exact Nat.le_refl _ | (simp; done) | (simp; omega) | omega) _ | with_reducible refine Below.setCell ?_ (by first | exact Nat.le_refl _ | (simp; done) | (simp; omega) | omega) _ | with_reducible refine Below.trans ?_ (Below.mono (by with_reducible assumption) (by first | exact Nat.le_refl _ | (simp; done) | (simp; omega) | omega))))⟩
set_option maxHeartbeats 400000 in
theorem sides_c (ax ay bx cy px py qx qy : Int) (w : World) (hA : isPt ax ay = true) (hB : isPt bx cy = true) (hP : isPt px py = true) (hQ : isPt qx qy = true) : Calls Try.prog 76 #[.agg #[.int .i64 ax, .int .i64 ay, .int .i64 bx, .int .i64 cy], .agg #[.int .i64 px, .int .i64 py, .int .i64 qx, .int .i64 qy]] w fun e w' => e = .returned (.tuple #[.int .i64 (turnZ ax ay bx cy px py), .int .i64 (turnZ ax ay bx cy qx qy)]) ∧ Below w.heap.size w w' := by
  go_enter Try.func76, Try.ntmps76
  go_wp2_with fail
  refine wp_region_later (by kernel_rfl) (by kernel_rfl) ?_
  repeat (first | go_big_quiet_step ((go_at_call 59; exact later_of _ (turn_c _ _ _ _ _ _ _ (by assumption) (by assumption) (by assumption)))) | quiet_step ((go_at_call 59; exact later_of _ (turn_c _ _ _ _ _ _ _ (by assumption) (by assumption) (by assumption)))))
  refine wpQuiet_nil ?_
  intro _ hw'
  obtain ⟨s1, hw''⟩ := hw'
  subst hw''
  have hb1 := s1.below
  generalize s1.w = w1 at hb1 ⊢
  clear s1
  try replace hb1 := below_trans (by with_reducible assumption) hb1
  obtain ⟨hc1, hf1⟩ := bcell hb1
  have hz1 := hb1.size
  try simp at hz1
  try have hz10 : w.heap.size ≤ w1.heap.size := by omega
  try have hz11 : w.heap.size < w1.heap.size := by omega
  try have hz12 : w.heap.size + 1 < w1.heap.size := by omega
  try have hz13 : w.heap.size + 1 + 1 < w1.heap.size := by omega
  try have hz14 : w.heap.size + 1 + 1 + 1 < w1.heap.size := by omega
  go_wp2
  go_ret2
  exact ⟨rfl, (by repeat (first | with_reducible exact Below.refl _ _ | with_reducible assumption | with_reducible refine Below.drew ?_ | with_reducible refine Below.alloc ?_ (by first | exact Nat.le_refl _ | (simp; done) | (simp; omega) | omega) _ | with_reducible refine Below.setCell ?_ (by first | exact Nat.le_refl _ | (simp; done) | (simp; omega) | omega) _ | with_reducible refine Below.trans ?_ (Below.mono (by with_reducible assumption) (by first | exact Nat.le_refl _ | (simp; done) | (simp; omega) | omega))))⟩
set_option maxHeartbeats 800000 in
theorem SegmentsCross_c (ax ay bx cy px py qx qy : Int) (w : World) : Calls Try.prog 34 #[.agg #[.int .i64 ax, .int .i64 ay, .int .i64 bx, .int .i64 cy], .agg #[.int .i64 px, .int .i64 py, .int .i64 qx, .int .i64 qy]] w fun e w' => e = .returned (.tuple #[.bool (crossR ax ay bx cy px py qx qy).1, .int .i64 (crossR ax ay bx cy px py qx qy).2]) ∧ Below w.heap.size w w' := by
  cases h1 : isSeg ax ay bx cy
  · go_enter Try.func34, Try.ntmps34
    go_wp2_with (go_at_call 75; refine (isSegment_c _ _ _ _ _).mono ?_; rintro e w1 ⟨rfl, hb⟩; (try replace hb := below_trans (by with_reducible assumption) hb); obtain ⟨hc, hf⟩ := bcell hb; have hz := hb.size; (try simp at hz); (try have hz0 : w.heap.size ≤ w1.heap.size := by omega); (try have hz1 : w.heap.size < w1.heap.size := by omega); (try have hz2 : w.heap.size + 1 < w1.heap.size := by omega); (try have hz3 : w.heap.size + 1 + 1 < w1.heap.size := by omega); (try have hz4 : w.heap.size + 1 + 1 + 1 < w1.heap.size := by omega))
    go_ret2
    exact ⟨by simp [crossR, h1], (by repeat (first | with_reducible exact Below.refl _ _ | with_reducible assumption | with_reducible refine Below.drew ?_ | with_reducible refine Below.alloc ?_ (by first | exact Nat.le_refl _ | (simp; done) | (simp; omega) | omega) _ | with_reducible refine Below.setCell ?_ (by first | exact Nat.le_refl _ | (simp; done) | (simp; omega) | omega) _ | with_reducible refine Below.trans ?_ (Below.mono (by with_reducible assumption) (by first | exact Nat.le_refl _ | (simp; done) | (simp; omega) | omega))))⟩
  · cases h2 : isSeg px py qx qy
    · go_enter Try.func34, Try.ntmps34
      go_wp2_with (go_at_call 75; refine (isSegment_c _ _ _ _ _).mono ?_; rintro e w1 ⟨rfl, hb⟩; (try replace hb := below_trans (by with_reducible assumption) hb); obtain ⟨hc, hf⟩ := bcell hb; have hz := hb.size; (try simp at hz); (try have hz0 : w.heap.size ≤ w1.heap.size := by omega); (try have hz1 : w.heap.size < w1.heap.size := by omega); (try have hz2 : w.heap.size + 1 < w1.heap.size := by omega); (try have hz3 : w.heap.size + 1 + 1 < w1.heap.size := by omega); (try have hz4 : w.heap.size + 1 + 1 + 1 < w1.heap.size := by omega))
      go_ret2
      exact ⟨by simp [crossR, h1, h2], (by repeat (first | with_reducible exact Below.refl _ _ | with_reducible assumption | with_reducible refine Below.drew ?_ | with_reducible refine Below.alloc ?_ (by first | exact Nat.le_refl _ | (simp; done) | (simp; omega) | omega) _ | with_reducible refine Below.setCell ?_ (by first | exact Nat.le_refl _ | (simp; done) | (simp; omega) | omega) _ | with_reducible refine Below.trans ?_ (Below.mono (by with_reducible assumption) (by first | exact Nat.le_refl _ | (simp; done) | (simp; omega) | omega))))⟩
    · obtain ⟨hA, hB, _⟩ := isSeg_true h1
      obtain ⟨hP, hQ, _⟩ := isSeg_true h2
      generalize e1 : turnZ ax ay bx cy px py = t1
      generalize e2 : turnZ ax ay bx cy qx qy = t2
      generalize e3 : turnZ px py qx qy ax ay = t3
      generalize e4 : turnZ px py qx qy bx cy = t4
      obtain ⟨m1, m2⟩ := sgn_mul e1 e2
      obtain ⟨m3, m4⟩ := sgn_mul e3 e4
      by_cases h3 : t1 * t2 < 0
      all_goals by_cases h4 : t3 * t4 < 0
      all_goals
        go_enter Try.func34, Try.ntmps34
        go_wp2_with (first | (go_at_call 75; refine (isSegment_c _ _ _ _ _).mono ?_; rintro e w1 ⟨rfl, hb⟩; (try replace hb := below_trans (by with_reducible assumption) hb); obtain ⟨hc, hf⟩ := bcell hb; have hz := hb.size; (try simp at hz); (try have hz0 : w.heap.size ≤ w1.heap.size := by omega); (try have hz1 : w.heap.size < w1.heap.size := by omega); (try have hz2 : w.heap.size + 1 < w1.heap.size := by omega); (try have hz3 : w.heap.size + 1 + 1 < w1.heap.size := by omega); (try have hz4 : w.heap.size + 1 + 1 + 1 < w1.heap.size := by omega)) | (go_at_call 76; refine (sides_c _ _ _ _ _ _ _ _ _ (by assumption) (by assumption) (by assumption) (by assumption)).mono ?_; rintro e w1 ⟨rfl, hb⟩; (try replace hb := below_trans (by with_reducible assumption) hb); obtain ⟨hc, hf⟩ := bcell hb; have hz := hb.size; (try simp at hz); (try have hz0 : w.heap.size ≤ w1.heap.size := by omega); (try have hz1 : w.heap.size < w1.heap.size := by omega); (try have hz2 : w.heap.size + 1 < w1.heap.size := by omega); (try have hz3 : w.heap.size + 1 + 1 < w1.heap.size := by omega); (try have hz4 : w.heap.size + 1 + 1 + 1 < w1.heap.size := by omega)))
        go_ret2
        exact ⟨by simp [crossR, h1, h2, crossB, e1, e2, e3, e4, h3, h4]; try omega, (by repeat (first | with_reducible exact Below.refl _ _ | with_reducible assumption | with_reducible refine Below.drew ?_ | with_reducible refine Below.alloc ?_ (by first | exact Nat.le_refl _ | (simp; done) | (simp; omega) | omega) _ | with_reducible refine Below.setCell ?_ (by first | exact Nat.le_refl _ | (simp; done) | (simp; omega) | omega) _ | with_reducible refine Below.trans ?_ (Below.mono (by with_reducible assumption) (by first | exact Nat.le_refl _ | (simp; done) | (simp; omega) | omega))))⟩
end Go.Proofs.Ytiinhelljcgeaaa
