/-
  What the functions of layer 2 and 5 on crossing, meeting and ways across return: contracts of the program's and of the reference's functions. Their conditions stand with each.
-/
import Derived.Test.YtdepdkpehbkcjaaL02
import Derived.Test.YtdepdkpehbkcjaaPlain2
namespace Go.Proofs.Ytdepdkpehbkcjaa
set_option linter.unusedVariables false
open Go.RowKit Go.Deep

set_option maxHeartbeats 1600000 in
theorem wayAcross_c (ax ay bx cy px py qx qy : Int) (w : World) (hA : isPt ax ay = true) (hB : isPt bx cy = true) (hP : isPt px py = true) (hQ : isPt qx qy = true) : Calls Try.prog 101 #[.agg #[.int .i64 ax, .int .i64 ay, .int .i64 bx, .int .i64 cy], .agg #[.int .i64 px, .int .i64 py], .agg #[.int .i64 qx, .int .i64 qy]] w fun e w' => e = .returned (.int .i64 (wayZ ax ay bx cy px py qx qy)) ∧ Below w.heap.size w w' := by
  generalize e1 : turnZ ax ay bx cy px py = t1
  generalize e2 : turnZ ax ay bx cy qx qy = t2
  generalize e3 : turnZ px py qx qy ax ay = t3
  generalize e4 : turnZ px py qx qy bx cy = t4
  obtain ⟨m3, m4⟩ := sgn_mul e3 e4
  cases g1 : decide (0 < t1)
  all_goals cases g2 : decide (0 < t2)
  all_goals cases g3 : decide (0 < t3 * t4)
  all_goals have HF := Lib.hid (wayZ_of e1 e2 e3 e4 g1 g2 g3)
  all_goals
    go_enter Try.func101, Try.ntmps101
    go_wp2_with fail
    refine wp_region_later (by kernel_rfl) (by kernel_rfl) ?_
    repeat (first | go_big_quiet_step ((go_at_call 124; exact later_of _ (sideOf_c _ _ _ _ _ _ _ hA hB (by assumption)))) | quiet_step ((go_at_call 124; exact later_of _ (sideOf_c _ _ _ _ _ _ _ hA hB (by assumption)))))
    refine wpQuiet_nil ?_
    intro _ hw'
    obtain ⟨s1, hw''⟩ := hw'
    subst hw''
    have hb1 := s1.below
    generalize s1.w = w1 at hb1 ⊢
    clear s1
    try replace hb1 := below_trans (by with_reducible assumption) hb1
    obtain ⟨hc1, hf1⟩ := bcell hb1
    have hz1 := hb1.size
    try simp at hz1
    try have hz10 : w.heap.size ≤ w1.heap.size := by omega
    try have hz11 : w.heap.size < w1.heap.size := by omega
    try have hz12 : w.heap.size + 1 < w1.heap.size := by omega
    try have hz13 : w.heap.size + 1 + 1 < w1.heap.size := by omega
    try have hz14 : w.heap.size + 1 + 1 + 1 < w1.heap.size := by omega
    go_wp2_with fail
    refine wp_region_later (by kernel_rfl) (by kernel_rfl) ?_
    repeat (first | go_big_quiet_step ((go_at_call 125; exact later_of _ (turn_c _ _ _ _ _ _ _ hP hQ (by assumption)))) | quiet_step ((go_at_call 125; exact later_of _ (turn_c _ _ _ _ _ _ _ hP hQ (by assumption)))))
    refine wpQuiet_nil ?_
    intro _ hw'
    obtain ⟨s2, hw''⟩ := hw'
    subst hw''
    have hb2 := s2.below
    generalize s2.w = w2 at hb2 ⊢
    clear s2
    try replace hb2 := below_trans (by with_reducible assumption) hb2
    obtain ⟨hc2, hf2⟩ := bcell hb2
    have hz2 := hb2.size
    try simp at hz2
    try have hz20 : w.heap.size ≤ w2.heap.size := by omega
    try have hz21 : w.heap.size < w2.heap.size := by omega
    try have hz22 : w.heap.size + 1 < w2.heap.size := by omega
    try have hz23 : w.heap.size + 1 + 1 < w2.heap.size := by omega
    try have hz24 : w.heap.size + 1 + 1 + 1 < w2.heap.size := by omega
    go_wp2
    go_ret
    exact ⟨ret_int HF.out, (by repeat (first | with_reducible exact Below.refl _ _ | with_reducible assumption | with_reducible refine Below.drew ?_ | with_reducible refine Below.alloc ?_ (by first | exact Nat.le_refl _ | (simp; done) | (simp; omega) | omega) _ | with_reducible refine Below.setCell ?_ (by first | exact Nat.le_refl _ | (simp; done) | (simp; omega) | omega) _ | with_reducible refine Below.trans ?_ (Below.mono (by with_reducible assumption) (by first | exact Nat.le_refl _ | (simp; done) | (simp; omega) | omega))))⟩
set_option maxHeartbeats 800000 in
theorem WayAcross_c (ax ay bx cy px py qx qy : Int) (w : World) : Calls Try.prog 51 #[.agg #[.int .i64 ax, .int .i64 ay, .int .i64 bx, .int .i64 cy], .agg #[.int .i64 px, .int .i64 py], .agg #[.int .i64 qx, .int .i64 qy]] w fun e w' => e = .returned (.tuple #[.int .i64 (wayR ax ay bx cy px py qx qy).1, .int .i64 (wayR ax ay bx cy px py qx qy).2]) ∧ Below w.heap.size w w' := by
  cases h1 : isSeg ax ay bx cy
  · go_enter Try.func51, Try.ntmps51
    go_wp2_with (go_at_call 100; refine (isLine_c _ _ _ _ _).mono ?_; rintro e w1 ⟨rfl, hb⟩; (try replace hb := below_trans (by with_reducible assumption) hb); obtain ⟨hc, hf⟩ := bcell hb; have hz := hb.size; (try simp at hz); (try have hz0 : w.heap.size ≤ w1.heap.size := by omega); (try have hz1 : w.heap.size < w1.heap.size := by omega); (try have hz2 : w.heap.size + 1 < w1.heap.size := by omega); (try have hz3 : w.heap.size + 1 + 1 < w1.heap.size := by omega); (try have hz4 : w.heap.size + 1 + 1 + 1 < w1.heap.size := by omega))
    go_ret2
    exact ⟨by simp [wayR, h1], (by repeat (first | with_reducible exact Below.refl _ _ | with_reducible assumption | with_reducible refine Below.drew ?_ | with_reducible refine Below.alloc ?_ (by first | exact Nat.le_refl _ | (simp; done) | (simp; omega) | omega) _ | with_reducible refine Below.setCell ?_ (by first | exact Nat.le_refl _ | (simp; done) | (simp; omega) | omega) _ | with_reducible refine Below.trans ?_ (Below.mono (by with_reducible assumption) (by first | exact Nat.le_refl _ | (simp; done) | (simp; omega) | omega))))⟩
  · obtain ⟨hA, hB, _⟩ := isSeg_true h1
    cases h2 : isPt px py
    all_goals cases h3 : isPt qx qy
    all_goals
      go_enter Try.func51, Try.ntmps51
      go_wp2_with (first | (go_at_call 100; refine (isLine_c _ _ _ _ _).mono ?_; rintro e w1 ⟨rfl, hb⟩; (try replace hb := below_trans (by with_reducible assumption) hb); obtain ⟨hc, hf⟩ := bcell hb; have hz := hb.size; (try simp at hz); (try have hz0 : w.heap.size ≤ w1.heap.size := by omega); (try have hz1 : w.heap.size < w1.heap.size := by omega); (try have hz2 : w.heap.size + 1 < w1.heap.size := by omega); (try have hz3 : w.heap.size + 1 + 1 < w1.heap.size := by omega); (try have hz4 : w.heap.size + 1 + 1 + 1 < w1.heap.size := by omega)) | (go_at_call 64; refine (isPoint_c _ _ _).mono ?_; rintro e w1 ⟨rfl, hb⟩; (try replace hb := below_trans (by with_reducible assumption) hb); obtain ⟨hc, hf⟩ := bcell hb; have hz := hb.size; (try simp at hz); (try have hz0 : w.heap.size ≤ w1.heap.size := by omega); (try have hz1 : w.heap.size < w1.heap.size := by omega); (try have hz2 : w.heap.size + 1 < w1.heap.size := by omega); (try have hz3 : w.heap.size + 1 + 1 < w1.heap.size := by omega); (try have hz4 : w.heap.size + 1 + 1 + 1 < w1.heap.size := by omega)) | (go_at_call 101; refine (wayAcross_c _ _ _ _ _ _ _ _ _ hA hB h2 h3).mono ?_; rintro e w1 ⟨rfl, hb⟩; (try replace hb := below_trans (by with_reducible assumption) hb); obtain ⟨hc, hf⟩ := bcell hb; have hz := hb.size; (try simp at hz); (try have hz0 : w.heap.size ≤ w1.heap.size := by omega); (try have hz1 : w.heap.size < w1.heap.size := by omega); (try have hz2 : w.heap.size + 1 < w1.heap.size := by omega); (try have hz3 : w.heap.size + 1 + 1 < w1.heap.size := by omega); (try have hz4 : w.heap.size + 1 + 1 + 1 < w1.heap.size := by omega)))
      go_ret2
      exact ⟨by simp [wayR, h1, h2, h3], (by repeat (first | with_reducible exact Below.refl _ _ | with_reducible assumption | with_reducible refine Below.drew ?_ | with_reducible refine Below.alloc ?_ (by first | exact Nat.le_refl _ | (simp; done) | (simp; omega) | omega) _ | with_reducible refine Below.setCell ?_ (by first | exact Nat.le_refl _ | (simp; done) | (simp; omega) | omega) _ | with_reducible refine Below.trans ?_ (Below.mono (by with_reducible assumption) (by first | exact Nat.le_refl _ | (simp; done) | (simp; omega) | omega))))⟩
set_option maxHeartbeats 400000 in
theorem l05Before_c (ax ay bx cy px py : Int) (w : World) (hA : isPt ax ay = true) (hB : isPt bx cy = true) (hP : isPt px py = true) : Calls Try.prog 131 #[.agg #[.int .i64 ax, .int .i64 ay, .int .i64 bx, .int .i64 cy], .agg #[.int .i64 px, .int .i64 py]] w fun e w' => e = .returned (.bool (!decide (0 < turnZ ax ay bx cy px py))) ∧ Below w.heap.size w w' := by
  go_enter Try.func131, Try.ntmps131
  go_wp2_with (go_at_call 140; refine (l04Before_c _ _ _ _ _ _ _ hA hB hP).mono ?_; rintro e w1 ⟨rfl, hb⟩; (try replace hb := below_trans (by with_reducible assumption) hb); obtain ⟨hc, hf⟩ := bcell hb; have hz := hb.size; (try simp at hz); (try have hz0 : w.heap.size ≤ w1.heap.size := by omega); (try have hz1 : w.heap.size < w1.heap.size := by omega); (try have hz2 : w.heap.size + 1 < w1.heap.size := by omega); (try have hz3 : w.heap.size + 1 + 1 < w1.heap.size := by omega); (try have hz4 : w.heap.size + 1 + 1 + 1 < w1.heap.size := by omega))
  go_ret
  exact ⟨ret_bool (by rw [Bool.eq_iff_iff]; simp), (by repeat (first | with_reducible exact Below.refl _ _ | with_reducible assumption | with_reducible refine Below.drew ?_ | with_reducible refine Below.alloc ?_ (by first | exact Nat.le_refl _ | (simp; done) | (simp; omega) | omega) _ | with_reducible refine Below.setCell ?_ (by first | exact Nat.le_refl _ | (simp; done) | (simp; omega) | omega) _ | with_reducible refine Below.trans ?_ (Below.mono (by with_reducible assumption) (by first | exact Nat.le_refl _ | (simp; done) | (simp; omega) | omega))))⟩
set_option maxHeartbeats 1600000 in
theorem l05Way_c (ax ay bx cy px py qx qy : Int) (w : World) (hA : isPt ax ay = true) (hB : isPt bx cy = true) (hP : isPt px py = true) (hQ : isPt qx qy = true) : Calls Try.prog 117 #[.agg #[.int .i64 ax, .int .i64 ay, .int .i64 bx, .int .i64 cy], .agg #[.int .i64 px, .int .i64 py], .agg #[.int .i64 qx, .int .i64 qy]] w fun e w' => e = .returned (.int .i64 (wayZ ax ay bx cy px py qx qy)) ∧ Below w.heap.size w w' := by
  generalize e1 : turnZ ax ay bx cy px py = t1
  generalize e2 : turnZ ax ay bx cy qx qy = t2
  generalize e3 : turnZ px py qx qy ax ay = t3
  generalize e4 : turnZ px py qx qy bx cy = t4
  obtain ⟨m3, m4⟩ := sgn_mul e3 e4
  cases g1 : decide (0 < t1)
  all_goals cases g2 : decide (0 < t2)
  all_goals cases g3 : decide (0 < t3 * t4)
  all_goals have HF := Lib.hid (wayZ_of e1 e2 e3 e4 g1 g2 g3)
  all_goals
    go_enter Try.func117, Try.ntmps117
    go_wp2_with fail
    refine wp_region_later (by kernel_rfl) (by kernel_rfl) ?_
    repeat (first | go_big_quiet_step ((first | (go_at_call 131; exact later_of _ (l05Before_c _ _ _ _ _ _ _ hA hB (by assumption))) | (go_at_call 132; exact later_of _ (l01Turn_c _ _ _ _ _ _ _ hP hQ (by assumption))))) | quiet_step ((first | (go_at_call 131; exact later_of _ (l05Before_c _ _ _ _ _ _ _ hA hB (by assumption))) | (go_at_call 132; exact later_of _ (l01Turn_c _ _ _ _ _ _ _ hP hQ (by assumption))))))
    refine wpQuiet_nil ?_
    intro _ hw'
    obtain ⟨s1, hw''⟩ := hw'
    subst hw''
    have hb1 := s1.below
    generalize s1.w = w1 at hb1 ⊢
    clear s1
    try replace hb1 := below_trans (by with_reducible assumption) hb1
    obtain ⟨hc1, hf1⟩ := bcell hb1
    have hz1 := hb1.size
    try simp at hz1
    try have hz10 : w.heap.size ≤ w1.heap.size := by omega
    try have hz11 : w.heap.size < w1.heap.size := by omega
    try have hz12 : w.heap.size + 1 < w1.heap.size := by omega
    try have hz13 : w.heap.size + 1 + 1 < w1.heap.size := by omega
    try have hz14 : w.heap.size + 1 + 1 + 1 < w1.heap.size := by omega
    go_wp2_with (go_at_call 131; refine (l05Before_c _ _ _ _ _ _ _ hA hB (by assumption)).mono ?_; rintro e w1 ⟨rfl, hb⟩; (try replace hb := below_trans (by with_reducible assumption) hb); obtain ⟨hc, hf⟩ := bcell hb; have hz := hb.size; (try simp at hz); (try have hz0 : w.heap.size ≤ w1.heap.size := by omega); (try have hz1 : w.heap.size < w1.heap.size := by omega); (try have hz2 : w.heap.size + 1 < w1.heap.size := by omega); (try have hz3 : w.heap.size + 1 + 1 < w1.heap.size := by omega); (try have hz4 : w.heap.size + 1 + 1 + 1 < w1.heap.size := by omega))
    go_ret
    exact ⟨ret_int HF.out, (by repeat (first | with_reducible exact Below.refl _ _ | with_reducible assumption | with_reducible refine Below.drew ?_ | with_reducible refine Below.alloc ?_ (by first | exact Nat.le_refl _ | (simp; done) | (simp; omega) | omega) _ | with_reducible refine Below.setCell ?_ (by first | exact Nat.le_refl _ | (simp; done) | (simp; omega) | omega) _ | with_reducible refine Below.trans ?_ (Below.mono (by with_reducible assumption) (by first | exact Nat.le_refl _ | (simp; done) | (simp; omega) | omega))))⟩
end Go.Proofs.Ytdepdkpehbkcjaa
