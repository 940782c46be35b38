/-
  What the functions of layer 2 and 5 on crossing, meeting and ways across return: contracts of the program's and of the reference's functions. Their conditions stand with each.
-/
import Derived.Test.YtiinhelljcgeaaaL02
import Derived.Test.YtiinhelljcgeaaaPlain2
namespace Go.Proofs.Ytiinhelljcgeaaa
set_option linter.unusedVariables false
open Go.RowKit Go.Deep

set_option maxHeartbeats 800000 in
theorem l02Cross_c (ax ay bx cy px py qx qy : Int) (w : World) (hA : isPt ax ay = true) (hB : isPt bx cy = true) (hP : isPt px py = true) (hQ : isPt qx qy = true) : Calls Try.prog 78 #[.agg #[.int .i64 ax, .int .i64 ay, .int .i64 bx, .int .i64 cy], .agg #[.int .i64 px, .int .i64 py, .int .i64 qx, .int .i64 qy]] w fun e w' => e = .returned (.bool (crossB ax ay bx cy px py qx qy)) ∧ Below w.heap.size w w' := by
  generalize e1 : turnZ ax ay bx cy px py = t1
  generalize e2 : turnZ ax ay bx cy qx qy = t2
  generalize e3 : turnZ px py qx qy ax ay = t3
  generalize e4 : turnZ px py qx qy bx cy = t4
  obtain ⟨m1, m2⟩ := sgn_mul e1 e2
  obtain ⟨m3, m4⟩ := sgn_mul e3 e4
  cases g3 : decide (t1 * t2 < 0)
  all_goals cases g4 : decide (t3 * t4 < 0)
  all_goals have hfin := crossB_of e1 e2 e3 e4 g3 g4
  all_goals have HF := Lib.hid hfin
  all_goals clear hfin
  all_goals
    go_enter Try.func78, Try.ntmps78
    go_wp2_with fail
    refine wp_region_later (by kernel_rfl) (by kernel_rfl) ?_
    repeat (first | go_big_quiet_step ((go_at_call 61; exact later_of _ (l01Turn_c _ _ _ _ _ _ _ (by assumption) (by assumption) (by assumption)))) | quiet_step ((go_at_call 61; exact later_of _ (l01Turn_c _ _ _ _ _ _ _ (by assumption) (by assumption) (by assumption)))))
    refine wpQuiet_nil ?_
    intro _ hw'
    obtain ⟨s1, hw''⟩ := hw'
    subst hw''
    have hb1 := s1.below
    generalize s1.w = w1 at hb1 ⊢
    clear s1
    try replace hb1 := below_trans (by with_reducible assumption) hb1
    obtain ⟨hc1, hf1⟩ := bcell hb1
    have hz1 := hb1.size
    try simp at hz1
    try have hz10 : w.heap.size ≤ w1.heap.size := by omega
    try have hz11 : w.heap.size < w1.heap.size := by omega
    try have hz12 : w.heap.size + 1 < w1.heap.size := by omega
    try have hz13 : w.heap.size + 1 + 1 < w1.heap.size := by omega
    try have hz14 : w.heap.size + 1 + 1 + 1 < w1.heap.size := by omega
    go_wp2
    go_ret
    exact ⟨ret_bool HF.out, (by repeat (first | with_reducible exact Below.refl _ _ | with_reducible assumption | with_reducible refine Below.drew ?_ | with_reducible refine Below.alloc ?_ (by first | exact Nat.le_refl _ | (simp; done) | (simp; omega) | omega) _ | with_reducible refine Below.setCell ?_ (by first | exact Nat.le_refl _ | (simp; done) | (simp; omega) | omega) _ | with_reducible refine Below.trans ?_ (Below.mono (by with_reducible assumption) (by first | exact Nat.le_refl _ | (simp; done) | (simp; omega) | omega))))⟩
set_option maxHeartbeats 800000 in
theorem SegmentsCrossS_c (ax ay bx cy px py qx qy : Int) (w : World) : Calls Try.prog 35 #[.agg #[.int .i64 ax, .int .i64 ay, .int .i64 bx, .int .i64 cy], .agg #[.int .i64 px, .int .i64 py, .int .i64 qx, .int .i64 qy]] w fun e w' => e = .returned (.tuple #[.bool (crossR ax ay bx cy px py qx qy).1, .int .i64 (crossR ax ay bx cy px py qx qy).2]) ∧ Below w.heap.size w w' := by
  cases h1 : isSeg ax ay bx cy
  · go_enter Try.func35, Try.ntmps35
    go_wp2_with (go_at_call 77; refine (isSegmentS_c _ _ _ _ _).mono ?_; rintro e w1 ⟨rfl, hb⟩; (try replace hb := below_trans (by with_reducible assumption) hb); obtain ⟨hc, hf⟩ := bcell hb; have hz := hb.size; (try simp at hz); (try have hz0 : w.heap.size ≤ w1.heap.size := by omega); (try have hz1 : w.heap.size < w1.heap.size := by omega); (try have hz2 : w.heap.size + 1 < w1.heap.size := by omega); (try have hz3 : w.heap.size + 1 + 1 < w1.heap.size := by omega); (try have hz4 : w.heap.size + 1 + 1 + 1 < w1.heap.size := by omega))
    go_ret2
    exact ⟨by simp [crossR, h1], (by repeat (first | with_reducible exact Below.refl _ _ | with_reducible assumption | with_reducible refine Below.drew ?_ | with_reducible refine Below.alloc ?_ (by first | exact Nat.le_refl _ | (simp; done) | (simp; omega) | omega) _ | with_reducible refine Below.setCell ?_ (by first | exact Nat.le_refl _ | (simp; done) | (simp; omega) | omega) _ | with_reducible refine Below.trans ?_ (Below.mono (by with_reducible assumption) (by first | exact Nat.le_refl _ | (simp; done) | (simp; omega) | omega))))⟩
  · cases h2 : isSeg px py qx qy
    · go_enter Try.func35, Try.ntmps35
      go_wp2_with (go_at_call 77; refine (isSegmentS_c _ _ _ _ _).mono ?_; rintro e w1 ⟨rfl, hb⟩; (try replace hb := below_trans (by with_reducible assumption) hb); obtain ⟨hc, hf⟩ := bcell hb; have hz := hb.size; (try simp at hz); (try have hz0 : w.heap.size ≤ w1.heap.size := by omega); (try have hz1 : w.heap.size < w1.heap.size := by omega); (try have hz2 : w.heap.size + 1 < w1.heap.size := by omega); (try have hz3 : w.heap.size + 1 + 1 < w1.heap.size := by omega); (try have hz4 : w.heap.size + 1 + 1 + 1 < w1.heap.size := by omega))
      go_ret2
      exact ⟨by simp [crossR, h1, h2], (by repeat (first | with_reducible exact Below.refl _ _ | with_reducible assumption | with_reducible refine Below.drew ?_ | with_reducible refine Below.alloc ?_ (by first | exact Nat.le_refl _ | (simp; done) | (simp; omega) | omega) _ | with_reducible refine Below.setCell ?_ (by first | exact Nat.le_refl _ | (simp; done) | (simp; omega) | omega) _ | with_reducible refine Below.trans ?_ (Below.mono (by with_reducible assumption) (by first | exact Nat.le_refl _ | (simp; done) | (simp; omega) | omega))))⟩
    · obtain ⟨hA, hB, _⟩ := isSeg_true h1
      obtain ⟨hP, hQ, _⟩ := isSeg_true h2
      go_enter Try.func35, Try.ntmps35
      go_wp2_with (first | (go_at_call 77; refine (isSegmentS_c _ _ _ _ _).mono ?_; rintro e w1 ⟨rfl, hb⟩; (try replace hb := below_trans (by with_reducible assumption) hb); obtain ⟨hc, hf⟩ := bcell hb; have hz := hb.size; (try simp at hz); (try have hz0 : w.heap.size ≤ w1.heap.size := by omega); (try have hz1 : w.heap.size < w1.heap.size := by omega); (try have hz2 : w.heap.size + 1 < w1.heap.size := by omega); (try have hz3 : w.heap.size + 1 + 1 < w1.heap.size := by omega); (try have hz4 : w.heap.size + 1 + 1 + 1 < w1.heap.size := by omega)) | (go_at_call 78; refine (l02Cross_c _ _ _ _ _ _ _ _ _ hA hB hP hQ).mono ?_; rintro e w1 ⟨rfl, hb⟩; (try replace hb := below_trans (by with_reducible assumption) hb); obtain ⟨hc, hf⟩ := bcell hb; have hz := hb.size; (try simp at hz); (try have hz0 : w.heap.size ≤ w1.heap.size := by omega); (try have hz1 : w.heap.size < w1.heap.size := by omega); (try have hz2 : w.heap.size + 1 < w1.heap.size := by omega); (try have hz3 : w.heap.size + 1 + 1 < w1.heap.size := by omega); (try have hz4 : w.heap.size + 1 + 1 + 1 < w1.heap.size := by omega)))
      go_ret2
      exact ⟨by simp [crossR, h1, h2], (by repeat (first | with_reducible exact Below.refl _ _ | with_reducible assumption | with_reducible refine Below.drew ?_ | with_reducible refine Below.alloc ?_ (by first | exact Nat.le_refl _ | (simp; done) | (simp; omega) | omega) _ | with_reducible refine Below.setCell ?_ (by first | exact Nat.le_refl _ | (simp; done) | (simp; omega) | omega) _ | with_reducible refine Below.trans ?_ (Below.mono (by with_reducible assumption) (by first | exact Nat.le_refl _ | (simp; done) | (simp; omega) | omega))))⟩
set_option maxHeartbeats 800000 in
theorem onSegment_c (ax ay bx cy px py : Int) (w : World) : Calls Try.prog 79 #[.agg #[.int .i64 ax, .int .i64 ay, .int .i64 bx, .int .i64 cy], .agg #[.int .i64 px, .int .i64 py]] w fun e w' => e = .returned (.bool (boxB ax ay bx cy px py)) ∧ Below w.heap.size w w' := by
  rcases Int.lt_trichotomy ax bx with i1 | rfl | i1
  · have i2 : min ax bx = ax := by omega
    have i3 : max ax bx = bx := by omega
    rcases Int.lt_trichotomy ay cy with j1 | rfl | j1
    · have HF := Lib.hid (boxB_eq (px := px) (py := py) i2 i3 (show min ay cy = ay by omega) (show max ay cy = cy by omega))
      clear i2 i3
      go_enter Try.func79, Try.ntmps79
      go_wp2_with (go_at_call 53; refine (within_c _ _ _ _).mono ?_; rintro e w' ⟨rfl, rfl⟩)
      all_goals go_ret
      all_goals exact ⟨ret_bool (by rw [HF.out]; simp [*]), (by repeat (first | with_reducible exact Below.refl _ _ | with_reducible assumption | with_reducible refine Below.drew ?_ | with_reducible refine Below.alloc ?_ (by first | exact Nat.le_refl _ | (simp; done) | (simp; omega) | omega) _ | with_reducible refine Below.setCell ?_ (by first | exact Nat.le_refl _ | (simp; done) | (simp; omega) | omega) _ | with_reducible refine Below.trans ?_ (Below.mono (by with_reducible assumption) (by first | exact Nat.le_refl _ | (simp; done) | (simp; omega) | omega))))⟩
    · have HF := Lib.hid (boxB_eq (px := px) (py := py) i2 i3 (show min ay ay = ay by omega) (show max ay ay = ay by omega))
      clear i2 i3
      go_enter Try.func79, Try.ntmps79
      go_wp2_with (go_at_call 53; refine (within_c _ _ _ _).mono ?_; rintro e w' ⟨rfl, rfl⟩)
      all_goals go_ret
      all_goals exact ⟨ret_bool (by rw [HF.out]; simp [*]), (by repeat (first | with_reducible exact Below.refl _ _ | with_reducible assumption | with_reducible refine Below.drew ?_ | with_reducible refine Below.alloc ?_ (by first | exact Nat.le_refl _ | (simp; done) | (simp; omega) | omega) _ | with_reducible refine Below.setCell ?_ (by first | exact Nat.le_refl _ | (simp; done) | (simp; omega) | omega) _ | with_reducible refine Below.trans ?_ (Below.mono (by with_reducible assumption) (by first | exact Nat.le_refl _ | (simp; done) | (simp; omega) | omega))))⟩
    · have HF := Lib.hid (boxB_eq (px := px) (py := py) i2 i3 (show min ay cy = cy by omega) (show max ay cy = ay by omega))
      clear i2 i3
      go_enter Try.func79, Try.ntmps79
      go_wp2_with (go_at_call 53; refine (within_c _ _ _ _).mono ?_; rintro e w' ⟨rfl, rfl⟩)
      all_goals go_ret
      all_goals exact ⟨ret_bool (by rw [HF.out]; simp [*]), (by repeat (first | with_reducible exact Below.refl _ _ | with_reducible assumption | with_reducible refine Below.drew ?_ | with_reducible refine Below.alloc ?_ (by first | exact Nat.le_refl _ | (simp; done) | (simp; omega) | omega) _ | with_reducible refine Below.setCell ?_ (by first | exact Nat.le_refl _ | (simp; done) | (simp; omega) | omega) _ | with_reducible refine Below.trans ?_ (Below.mono (by with_reducible assumption) (by first | exact Nat.le_refl _ | (simp; done) | (simp; omega) | omega))))⟩
  · have i2 : min ax ax = ax := by omega
    have i3 : max ax ax = ax := by omega
    rcases Int.lt_trichotomy ay cy with j1 | rfl | j1
    · have HF := Lib.hid (boxB_eq (px := px) (py := py) i2 i3 (show min ay cy = ay by omega) (show max ay cy = cy by omega))
      clear i2 i3
      go_enter Try.func79, Try.ntmps79
      go_wp2_with (go_at_call 53; refine (within_c _ _ _ _).mono ?_; rintro e w' ⟨rfl, rfl⟩)
      all_goals go_ret
      all_goals exact ⟨ret_bool (by rw [HF.out]; simp [*]), (by repeat (first | with_reducible exact Below.refl _ _ | with_reducible assumption | with_reducible refine Below.drew ?_ | with_reducible refine Below.alloc ?_ (by first | exact Nat.le_refl _ | (simp; done) | (simp; omega) | omega) _ | with_reducible refine Below.setCell ?_ (by first | exact Nat.le_refl _ | (simp; done) | (simp; omega) | omega) _ | with_reducible refine Below.trans ?_ (Below.mono (by with_reducible assumption) (by first | exact Nat.le_refl _ | (simp; done) | (simp; omega) | omega))))⟩
    · have HF := Lib.hid (boxB_eq (px := px) (py := py) i2 i3 (show min ay ay = ay by omega) (show max ay ay = ay by omega))
      clear i2 i3
      go_enter Try.func79, Try.ntmps79
      go_wp2_with (go_at_call 53; refine (within_c _ _ _ _).mono ?_; rintro e w' ⟨rfl, rfl⟩)
      all_goals go_ret
      all_goals exact ⟨ret_bool (by rw [HF.out]; simp [*]), (by repeat (first | with_reducible exact Below.refl _ _ | with_reducible assumption | with_reducible refine Below.drew ?_ | with_reducible refine Below.alloc ?_ (by first | exact Nat.le_refl _ | (simp; done) | (simp; omega) | omega) _ | with_reducible refine Below.setCell ?_ (by first | exact Nat.le_refl _ | (simp; done) | (simp; omega) | omega) _ | with_reducible refine Below.trans ?_ (Below.mono (by with_reducible assumption) (by first | exact Nat.le_refl _ | (simp; done) | (simp; omega) | omega))))⟩
    · have HF := Lib.hid (boxB_eq (px := px) (py := py) i2 i3 (show min ay cy = cy by omega) (show max ay cy = ay by omega))
      clear i2 i3
      go_enter Try.func79, Try.ntmps79
      go_wp2_with (go_at_call 53; refine (within_c _ _ _ _).mono ?_; rintro e w' ⟨rfl, rfl⟩)
      all_goals go_ret
      all_goals exact ⟨ret_bool (by rw [HF.out]; simp [*]), (by repeat (first | with_reducible exact Below.refl _ _ | with_reducible assumption | with_reducible refine Below.drew ?_ | with_reducible refine Below.alloc ?_ (by first | exact Nat.le_refl _ | (simp; done) | (simp; omega) | omega) _ | with_reducible refine Below.setCell ?_ (by first | exact Nat.le_refl _ | (simp; done) | (simp; omega) | omega) _ | with_reducible refine Below.trans ?_ (Below.mono (by with_reducible assumption) (by first | exact Nat.le_refl _ | (simp; done) | (simp; omega) | omega))))⟩
  · have i2 : min ax bx = bx := by omega
    have i3 : max ax bx = ax := by omega
    rcases Int.lt_trichotomy ay cy with j1 | rfl | j1
    · have HF := Lib.hid (boxB_eq (px := px) (py := py) i2 i3 (show min ay cy = ay by omega) (show max ay cy = cy by omega))
      clear i2 i3
      go_enter Try.func79, Try.ntmps79
      go_wp2_with (go_at_call 53; refine (within_c _ _ _ _).mono ?_; rintro e w' ⟨rfl, rfl⟩)
      all_goals go_ret
      all_goals exact ⟨ret_bool (by rw [HF.out]; simp [*]), (by repeat (first | with_reducible exact Below.refl _ _ | with_reducible assumption | with_reducible refine Below.drew ?_ | with_reducible refine Below.alloc ?_ (by first | exact Nat.le_refl _ | (simp; done) | (simp; omega) | omega) _ | with_reducible refine Below.setCell ?_ (by first | exact Nat.le_refl _ | (simp; done) | (simp; omega) | omega) _ | with_reducible refine Below.trans ?_ (Below.mono (by with_reducible assumption) (by first | exact Nat.le_refl _ | (simp; done) | (simp; omega) | omega))))⟩
    · have HF := Lib.hid (boxB_eq (px := px) (py := py) i2 i3 (show min ay ay = ay by omega) (show max ay ay = ay by omega))
      clear i2 i3
      go_enter Try.func79, Try.ntmps79
      go_wp2_with (go_at_call 53; refine (within_c _ _ _ _).mono ?_; rintro e w' ⟨rfl, rfl⟩)
      all_goals go_ret
      all_goals exact ⟨ret_bool (by rw [HF.out]; simp [*]), (by repeat (first | with_reducible exact Below.refl _ _ | with_reducible assumption | with_reducible refine Below.drew ?_ | with_reducible refine Below.alloc ?_ (by first | exact Nat.le_refl _ | (simp; done) | (simp; omega) | omega) _ | with_reducible refine Below.setCell ?_ (by first | exact Nat.le_refl _ | (simp; done) | (simp; omega) | omega) _ | with_reducible refine Below.trans ?_ (Below.mono (by with_reducible assumption) (by first | exact Nat.le_refl _ | (simp; done) | (simp; omega) | omega))))⟩
    · have HF := Lib.hid (boxB_eq (px := px) (py := py) i2 i3 (show min ay cy = cy by omega) (show max ay cy = ay by omega))
      clear i2 i3
      go_enter Try.func79, Try.ntmps79
      go_wp2_with (go_at_call 53; refine (within_c _ _ _ _).mono ?_; rintro e w' ⟨rfl, rfl⟩)
      all_goals go_ret
      all_goals exact ⟨ret_bool (by rw [HF.out]; simp [*]), (by repeat (first | with_reducible exact Below.refl _ _ | with_reducible assumption | with_reducible refine Below.drew ?_ | with_reducible refine Below.alloc ?_ (by first | exact Nat.le_refl _ | (simp; done) | (simp; omega) | omega) _ | with_reducible refine Below.setCell ?_ (by first | exact Nat.le_refl _ | (simp; done) | (simp; omega) | omega) _ | with_reducible refine Below.trans ?_ (Below.mono (by with_reducible assumption) (by first | exact Nat.le_refl _ | (simp; done) | (simp; omega) | omega))))⟩
set_option maxHeartbeats 2000000 in
theorem SegmentsMeet_c (ax ay bx cy px py qx qy : Int) (w : World) : Calls Try.prog 36 #[.agg #[.int .i64 ax, .int .i64 ay, .int .i64 bx, .int .i64 cy], .agg #[.int .i64 px, .int .i64 py, .int .i64 qx, .int .i64 qy]] w fun e w' => e = .returned (.tuple #[.bool (meetR ax ay bx cy px py qx qy).1, .int .i64 (meetR ax ay bx cy px py qx qy).2]) ∧ Below w.heap.size w w' := by
  cases h1 : isSeg ax ay bx cy
  · go_enter Try.func36, Try.ntmps36
    go_wp2_with (go_at_call 75; refine (isSegment_c _ _ _ _ _).mono ?_; rintro e w1 ⟨rfl, hb⟩; (try replace hb := below_trans (by with_reducible assumption) hb); obtain ⟨hc, hf⟩ := bcell hb; have hz := hb.size; (try simp at hz); (try have hz0 : w.heap.size ≤ w1.heap.size := by omega); (try have hz1 : w.heap.size < w1.heap.size := by omega); (try have hz2 : w.heap.size + 1 < w1.heap.size := by omega); (try have hz3 : w.heap.size + 1 + 1 < w1.heap.size := by omega); (try have hz4 : w.heap.size + 1 + 1 + 1 < w1.heap.size := by omega))
    go_ret2
    exact ⟨by simp [meetR, h1], (by repeat (first | with_reducible exact Below.refl _ _ | with_reducible assumption | with_reducible refine Below.drew ?_ | with_reducible refine Below.alloc ?_ (by first | exact Nat.le_refl _ | (simp; done) | (simp; omega) | omega) _ | with_reducible refine Below.setCell ?_ (by first | exact Nat.le_refl _ | (simp; done) | (simp; omega) | omega) _ | with_reducible refine Below.trans ?_ (Below.mono (by with_reducible assumption) (by first | exact Nat.le_refl _ | (simp; done) | (simp; omega) | omega))))⟩
  · cases h2 : isSeg px py qx qy
    · go_enter Try.func36, Try.ntmps36
      go_wp2_with (go_at_call 75; refine (isSegment_c _ _ _ _ _).mono ?_; rintro e w1 ⟨rfl, hb⟩; (try replace hb := below_trans (by with_reducible assumption) hb); obtain ⟨hc, hf⟩ := bcell hb; have hz := hb.size; (try simp at hz); (try have hz0 : w.heap.size ≤ w1.heap.size := by omega); (try have hz1 : w.heap.size < w1.heap.size := by omega); (try have hz2 : w.heap.size + 1 < w1.heap.size := by omega); (try have hz3 : w.heap.size + 1 + 1 < w1.heap.size := by omega); (try have hz4 : w.heap.size + 1 + 1 + 1 < w1.heap.size := by omega))
      go_ret2
      exact ⟨by simp [meetR, h1, h2], (by repeat (first | with_reducible exact Below.refl _ _ | with_reducible assumption | with_reducible refine Below.drew ?_ | with_reducible refine Below.alloc ?_ (by first | exact Nat.le_refl _ | (simp; done) | (simp; omega) | omega) _ | with_reducible refine Below.setCell ?_ (by first | exact Nat.le_refl _ | (simp; done) | (simp; omega) | omega) _ | with_reducible refine Below.trans ?_ (Below.mono (by with_reducible assumption) (by first | exact Nat.le_refl _ | (simp; done) | (simp; omega) | omega))))⟩
    · obtain ⟨hA, hB, hne1⟩ := isSeg_true h1
      obtain ⟨hP, hQ, hne2⟩ := isSeg_true h2
      have hfin := meetR_of h1 h2
      rw [hfin]
      clear hfin hne1 hne2
      generalize e1 : turnZ ax ay bx cy px py = t1
      generalize e2 : turnZ ax ay bx cy qx qy = t2
      generalize e3 : turnZ px py qx qy ax ay = t3
      generalize e4 : turnZ px py qx qy bx cy = t4
      obtain ⟨m1, m2⟩ := sgn_mul e1 e2
      obtain ⟨m3, m4⟩ := sgn_mul e3 e4
      cases g3 : decide (t1 * t2 < 0)
      · go_enter Try.func36, Try.ntmps36
        go_wp2_with (first | (go_at_call 75; refine (isSegment_c _ _ _ _ _).mono ?_; rintro e w1 ⟨rfl, hb⟩; (try replace hb := below_trans (by with_reducible assumption) hb); obtain ⟨hc, hf⟩ := bcell hb; have hz := hb.size; (try simp at hz); (try have hz0 : w.heap.size ≤ w1.heap.size := by omega); (try have hz1 : w.heap.size < w1.heap.size := by omega); (try have hz2 : w.heap.size + 1 < w1.heap.size := by omega); (try have hz3 : w.heap.size + 1 + 1 < w1.heap.size := by omega); (try have hz4 : w.heap.size + 1 + 1 + 1 < w1.heap.size := by omega)) | (go_at_call 76; refine (sides_c _ _ _ _ _ _ _ _ _ (by assumption) (by assumption) (by assumption) (by assumption)).mono ?_; rintro e w1 ⟨rfl, hb⟩; (try replace hb := below_trans (by with_reducible assumption) hb); obtain ⟨hc, hf⟩ := bcell hb; have hz := hb.size; (try simp at hz); (try have hz0 : w.heap.size ≤ w1.heap.size := by omega); (try have hz1 : w.heap.size < w1.heap.size := by omega); (try have hz2 : w.heap.size + 1 < w1.heap.size := by omega); (try have hz3 : w.heap.size + 1 + 1 < w1.heap.size := by omega); (try have hz4 : w.heap.size + 1 + 1 + 1 < w1.heap.size := by omega)) | (go_at_call 79; refine (onSegment_c _ _ _ _ _ _ _).mono ?_; rintro e w1 ⟨rfl, hb⟩; (try replace hb := below_trans (by with_reducible assumption) hb); obtain ⟨hc, hf⟩ := bcell hb; have hz := hb.size; (try simp at hz); (try have hz0 : w.heap.size ≤ w1.heap.size := by omega); (try have hz1 : w.heap.size < w1.heap.size := by omega); (try have hz2 : w.heap.size + 1 < w1.heap.size := by omega); (try have hz3 : w.heap.size + 1 + 1 < w1.heap.size := by omega); (try have hz4 : w.heap.size + 1 + 1 + 1 < w1.heap.size := by omega)))
        all_goals go_ret2
        all_goals exact ⟨by simp [*], (by repeat (first | with_reducible exact Below.refl _ _ | with_reducible assumption | with_reducible refine Below.drew ?_ | with_reducible refine Below.alloc ?_ (by first | exact Nat.le_refl _ | (simp; done) | (simp; omega) | omega) _ | with_reducible refine Below.setCell ?_ (by first | exact Nat.le_refl _ | (simp; done) | (simp; omega) | omega) _ | with_reducible refine Below.trans ?_ (Below.mono (by with_reducible assumption) (by first | exact Nat.le_refl _ | (simp; done) | (simp; omega) | omega))))⟩
      · cases g4 : decide (t3 * t4 < 0)
        all_goals
          go_enter Try.func36, Try.ntmps36
          go_wp2_with (first | (go_at_call 75; refine (isSegment_c _ _ _ _ _).mono ?_; rintro e w1 ⟨rfl, hb⟩; (try replace hb := below_trans (by with_reducible assumption) hb); obtain ⟨hc, hf⟩ := bcell hb; have hz := hb.size; (try simp at hz); (try have hz0 : w.heap.size ≤ w1.heap.size := by omega); (try have hz1 : w.heap.size < w1.heap.size := by omega); (try have hz2 : w.heap.size + 1 < w1.heap.size := by omega); (try have hz3 : w.heap.size + 1 + 1 < w1.heap.size := by omega); (try have hz4 : w.heap.size + 1 + 1 + 1 < w1.heap.size := by omega)) | (go_at_call 76; refine (sides_c _ _ _ _ _ _ _ _ _ (by assumption) (by assumption) (by assumption) (by assumption)).mono ?_; rintro e w1 ⟨rfl, hb⟩; (try replace hb := below_trans (by with_reducible assumption) hb); obtain ⟨hc, hf⟩ := bcell hb; have hz := hb.size; (try simp at hz); (try have hz0 : w.heap.size ≤ w1.heap.size := by omega); (try have hz1 : w.heap.size < w1.heap.size := by omega); (try have hz2 : w.heap.size + 1 < w1.heap.size := by omega); (try have hz3 : w.heap.size + 1 + 1 < w1.heap.size := by omega); (try have hz4 : w.heap.size + 1 + 1 + 1 < w1.heap.size := by omega)) | (go_at_call 79; refine (onSegment_c _ _ _ _ _ _ _).mono ?_; rintro e w1 ⟨rfl, hb⟩; (try replace hb := below_trans (by with_reducible assumption) hb); obtain ⟨hc, hf⟩ := bcell hb; have hz := hb.size; (try simp at hz); (try have hz0 : w.heap.size ≤ w1.heap.size := by omega); (try have hz1 : w.heap.size < w1.heap.size := by omega); (try have hz2 : w.heap.size + 1 < w1.heap.size := by omega); (try have hz3 : w.heap.size + 1 + 1 < w1.heap.size := by omega); (try have hz4 : w.heap.size + 1 + 1 + 1 < w1.heap.size := by omega)))
          all_goals go_ret2
          all_goals exact ⟨by simp [*], (by repeat (first | with_reducible exact Below.refl _ _ | with_reducible assumption | with_reducible refine Below.drew ?_ | with_reducible refine Below.alloc ?_ (by first | exact Nat.le_refl _ | (simp; done) | (simp; omega) | omega) _ | with_reducible refine Below.setCell ?_ (by first | exact Nat.le_refl _ | (simp; done) | (simp; omega) | omega) _ | with_reducible refine Below.trans ?_ (Below.mono (by with_reducible assumption) (by first | exact Nat.le_refl _ | (simp; done) | (simp; omega) | omega))))⟩
set_option maxHeartbeats 1600000 in
theorem wayAcross_c (ax ay bx cy px py qx qy : Int) (w : World) (hA : isPt ax ay = true) (hB : isPt bx cy = true) (hP : isPt px py = true) (hQ : isPt qx qy = true) : Calls Try.prog 68 #[.agg #[.int .i64 ax, .int .i64 ay, .int .i64 bx, .int .i64 cy], .agg #[.int .i64 px, .int .i64 py], .agg #[.int .i64 qx, .int .i64 qy]] w fun e w' => e = .returned (.int .i64 (wayZ ax ay bx cy px py qx qy)) ∧ Below w.heap.size w w' := by
  generalize e1 : turnZ ax ay bx cy px py = t1
  generalize e2 : turnZ ax ay bx cy qx qy = t2
  generalize e3 : turnZ px py qx qy ax ay = t3
  generalize e4 : turnZ px py qx qy bx cy = t4
  obtain ⟨m3, m4⟩ := sgn_mul e3 e4
  cases g1 : decide (0 < t1)
  all_goals cases g2 : decide (0 < t2)
  all_goals cases g3 : decide (0 < t3 * t4)
  all_goals have HF := Lib.hid (wayZ_of e1 e2 e3 e4 g1 g2 g3)
  all_goals
    go_enter Try.func68, Try.ntmps68
    go_wp2_with fail
    refine wp_region_later (by kernel_rfl) (by kernel_rfl) ?_
    repeat (first | go_big_quiet_step ((go_at_call 71; exact later_of _ (sideOf_c _ _ _ _ _ _ _ hA hB (by assumption)))) | quiet_step ((go_at_call 71; exact later_of _ (sideOf_c _ _ _ _ _ _ _ hA hB (by assumption)))))
    refine wpQuiet_nil ?_
    intro _ hw'
    obtain ⟨s1, hw''⟩ := hw'
    subst hw''
    have hb1 := s1.below
    generalize s1.w = w1 at hb1 ⊢
    clear s1
    try replace hb1 := below_trans (by with_reducible assumption) hb1
    obtain ⟨hc1, hf1⟩ := bcell hb1
    have hz1 := hb1.size
    try simp at hz1
    try have hz10 : w.heap.size ≤ w1.heap.size := by omega
    try have hz11 : w.heap.size < w1.heap.size := by omega
    try have hz12 : w.heap.size + 1 < w1.heap.size := by omega
    try have hz13 : w.heap.size + 1 + 1 < w1.heap.size := by omega
    try have hz14 : w.heap.size + 1 + 1 + 1 < w1.heap.size := by omega
    go_wp2_with fail
    refine wp_region_later (by kernel_rfl) (by kernel_rfl) ?_
    repeat (first | go_big_quiet_step ((go_at_call 59; exact later_of _ (turn_c _ _ _ _ _ _ _ hP hQ (by assumption)))) | quiet_step ((go_at_call 59; exact later_of _ (turn_c _ _ _ _ _ _ _ hP hQ (by assumption)))))
    refine wpQuiet_nil ?_
    intro _ hw'
    obtain ⟨s2, hw''⟩ := hw'
    subst hw''
    have hb2 := s2.below
    generalize s2.w = w2 at hb2 ⊢
    clear s2
    try replace hb2 := below_trans (by with_reducible assumption) hb2
    obtain ⟨hc2, hf2⟩ := bcell hb2
    have hz2 := hb2.size
    try simp at hz2
    try have hz20 : w.heap.size ≤ w2.heap.size := by omega
    try have hz21 : w.heap.size < w2.heap.size := by omega
    try have hz22 : w.heap.size + 1 < w2.heap.size := by omega
    try have hz23 : w.heap.size + 1 + 1 < w2.heap.size := by omega
    try have hz24 : w.heap.size + 1 + 1 + 1 < w2.heap.size := by omega
    go_wp2
    go_ret
    exact ⟨ret_int HF.out, (by repeat (first | with_reducible exact Below.refl _ _ | with_reducible assumption | with_reducible refine Below.drew ?_ | with_reducible refine Below.alloc ?_ (by first | exact Nat.le_refl _ | (simp; done) | (simp; omega) | omega) _ | with_reducible refine Below.setCell ?_ (by first | exact Nat.le_refl _ | (simp; done) | (simp; omega) | omega) _ | with_reducible refine Below.trans ?_ (Below.mono (by with_reducible assumption) (by first | exact Nat.le_refl _ | (simp; done) | (simp; omega) | omega))))⟩
set_option maxHeartbeats 800000 in
theorem WayAcross_c (ax ay bx cy px py qx qy : Int) (w : World) : Calls Try.prog 27 #[.agg #[.int .i64 ax, .int .i64 ay, .int .i64 bx, .int .i64 cy], .agg #[.int .i64 px, .int .i64 py], .agg #[.int .i64 qx, .int .i64 qy]] w fun e w' => e = .returned (.tuple #[.int .i64 (wayR ax ay bx cy px py qx qy).1, .int .i64 (wayR ax ay bx cy px py qx qy).2]) ∧ Below w.heap.size w w' := by
  cases h1 : isSeg ax ay bx cy
  · go_enter Try.func27, Try.ntmps27
    go_wp2_with (go_at_call 67; refine (isLine_c _ _ _ _ _).mono ?_; rintro e w1 ⟨rfl, hb⟩; (try replace hb := below_trans (by with_reducible assumption) hb); obtain ⟨hc, hf⟩ := bcell hb; have hz := hb.size; (try simp at hz); (try have hz0 : w.heap.size ≤ w1.heap.size := by omega); (try have hz1 : w.heap.size < w1.heap.size := by omega); (try have hz2 : w.heap.size + 1 < w1.heap.size := by omega); (try have hz3 : w.heap.size + 1 + 1 < w1.heap.size := by omega); (try have hz4 : w.heap.size + 1 + 1 + 1 < w1.heap.size := by omega))
    go_ret2
    exact ⟨by simp [wayR, h1], (by repeat (first | with_reducible exact Below.refl _ _ | with_reducible assumption | with_reducible refine Below.drew ?_ | with_reducible refine Below.alloc ?_ (by first | exact Nat.le_refl _ | (simp; done) | (simp; omega) | omega) _ | with_reducible refine Below.setCell ?_ (by first | exact Nat.le_refl _ | (simp; done) | (simp; omega) | omega) _ | with_reducible refine Below.trans ?_ (Below.mono (by with_reducible assumption) (by first | exact Nat.le_refl _ | (simp; done) | (simp; omega) | omega))))⟩
  · obtain ⟨hA, hB, _⟩ := isSeg_true h1
    cases h2 : isPt px py
    all_goals cases h3 : isPt qx qy
    all_goals
      go_enter Try.func27, Try.ntmps27
      go_wp2_with (first | (go_at_call 67; refine (isLine_c _ _ _ _ _).mono ?_; rintro e w1 ⟨rfl, hb⟩; (try replace hb := below_trans (by with_reducible assumption) hb); obtain ⟨hc, hf⟩ := bcell hb; have hz := hb.size; (try simp at hz); (try have hz0 : w.heap.size ≤ w1.heap.size := by omega); (try have hz1 : w.heap.size < w1.heap.size := by omega); (try have hz2 : w.heap.size + 1 < w1.heap.size := by omega); (try have hz3 : w.heap.size + 1 + 1 < w1.heap.size := by omega); (try have hz4 : w.heap.size + 1 + 1 + 1 < w1.heap.size := by omega)) | (go_at_call 58; refine (isPoint_c _ _ _).mono ?_; rintro e w1 ⟨rfl, hb⟩; (try replace hb := below_trans (by with_reducible assumption) hb); obtain ⟨hc, hf⟩ := bcell hb; have hz := hb.size; (try simp at hz); (try have hz0 : w.heap.size ≤ w1.heap.size := by omega); (try have hz1 : w.heap.size < w1.heap.size := by omega); (try have hz2 : w.heap.size + 1 < w1.heap.size := by omega); (try have hz3 : w.heap.size + 1 + 1 < w1.heap.size := by omega); (try have hz4 : w.heap.size + 1 + 1 + 1 < w1.heap.size := by omega)) | (go_at_call 68; refine (wayAcross_c _ _ _ _ _ _ _ _ _ hA hB h2 h3).mono ?_; rintro e w1 ⟨rfl, hb⟩; (try replace hb := below_trans (by with_reducible assumption) hb); obtain ⟨hc, hf⟩ := bcell hb; have hz := hb.size; (try simp at hz); (try have hz0 : w.heap.size ≤ w1.heap.size := by omega); (try have hz1 : w.heap.size < w1.heap.size := by omega); (try have hz2 : w.heap.size + 1 < w1.heap.size := by omega); (try have hz3 : w.heap.size + 1 + 1 < w1.heap.size := by omega); (try have hz4 : w.heap.size + 1 + 1 + 1 < w1.heap.size := by omega)))
      go_ret2
      exact ⟨by simp [wayR, h1, h2, h3], (by repeat (first | with_reducible exact Below.refl _ _ | with_reducible assumption | with_reducible refine Below.drew ?_ | with_reducible refine Below.alloc ?_ (by first | exact Nat.le_refl _ | (simp; done) | (simp; omega) | omega) _ | with_reducible refine Below.setCell ?_ (by first | exact Nat.le_refl _ | (simp; done) | (simp; omega) | omega) _ | with_reducible refine Below.trans ?_ (Below.mono (by with_reducible assumption) (by first | exact Nat.le_refl _ | (simp; done) | (simp; omega) | omega))))⟩
set_option maxHeartbeats 400000 in
theorem l05Before_c (ax ay bx cy px py : Int) (w : World) (hA : isPt ax ay = true) (hB : isPt bx cy = true) (hP : isPt px py = true) : Calls Try.prog 94 #[.agg #[.int .i64 ax, .int .i64 ay, .int .i64 bx, .int .i64 cy], .agg #[.int .i64 px, .int .i64 py]] w fun e w' => e = .returned (.bool (!decide (0 < turnZ ax ay bx cy px py))) ∧ Below w.heap.size w w' := by
  go_enter Try.func94, Try.ntmps94
  go_wp2_with (go_at_call 103; refine (l04Before_c _ _ _ _ _ _ _ hA hB hP).mono ?_; rintro e w1 ⟨rfl, hb⟩; (try replace hb := below_trans (by with_reducible assumption) hb); obtain ⟨hc, hf⟩ := bcell hb; have hz := hb.size; (try simp at hz); (try have hz0 : w.heap.size ≤ w1.heap.size := by omega); (try have hz1 : w.heap.size < w1.heap.size := by omega); (try have hz2 : w.heap.size + 1 < w1.heap.size := by omega); (try have hz3 : w.heap.size + 1 + 1 < w1.heap.size := by omega); (try have hz4 : w.heap.size + 1 + 1 + 1 < w1.heap.size := by omega))
  go_ret
  exact ⟨ret_bool (by rw [Bool.eq_iff_iff]; simp), (by repeat (first | with_reducible exact Below.refl _ _ | with_reducible assumption | with_reducible refine Below.drew ?_ | with_reducible refine Below.alloc ?_ (by first | exact Nat.le_refl _ | (simp; done) | (simp; omega) | omega) _ | with_reducible refine Below.setCell ?_ (by first | exact Nat.le_refl _ | (simp; done) | (simp; omega) | omega) _ | with_reducible refine Below.trans ?_ (Below.mono (by with_reducible assumption) (by first | exact Nat.le_refl _ | (simp; done) | (simp; omega) | omega))))⟩
set_option maxHeartbeats 1600000 in
theorem l05Way_c (ax ay bx cy px py qx qy : Int) (w : World) (hA : isPt ax ay = true) (hB : isPt bx cy = true) (hP : isPt px py = true) (hQ : isPt qx qy = true) : Calls Try.prog 70 #[.agg #[.int .i64 ax, .int .i64 ay, .int .i64 bx, .int .i64 cy], .agg #[.int .i64 px, .int .i64 py], .agg #[.int .i64 qx, .int .i64 qy]] w fun e w' => e = .returned (.int .i64 (wayZ ax ay bx cy px py qx qy)) ∧ Below w.heap.size w w' := by
  generalize e1 : turnZ ax ay bx cy px py = t1
  generalize e2 : turnZ ax ay bx cy qx qy = t2
  generalize e3 : turnZ px py qx qy ax ay = t3
  generalize e4 : turnZ px py qx qy bx cy = t4
  obtain ⟨m3, m4⟩ := sgn_mul e3 e4
  cases g1 : decide (0 < t1)
  all_goals cases g2 : decide (0 < t2)
  all_goals cases g3 : decide (0 < t3 * t4)
  all_goals have HF := Lib.hid (wayZ_of e1 e2 e3 e4 g1 g2 g3)
  all_goals
    go_enter Try.func70, Try.ntmps70
    go_wp2_with fail
    refine wp_region_later (by kernel_rfl) (by kernel_rfl) ?_
    repeat (first | go_big_quiet_step ((first | (go_at_call 94; exact later_of _ (l05Before_c _ _ _ _ _ _ _ hA hB (by assumption))) | (go_at_call 61; exact later_of _ (l01Turn_c _ _ _ _ _ _ _ hP hQ (by assumption))))) | quiet_step ((first | (go_at_call 94; exact later_of _ (l05Before_c _ _ _ _ _ _ _ hA hB (by assumption))) | (go_at_call 61; exact later_of _ (l01Turn_c _ _ _ _ _ _ _ hP hQ (by assumption))))))
    refine wpQuiet_nil ?_
    intro _ hw'
    obtain ⟨s1, hw''⟩ := hw'
    subst hw''
    have hb1 := s1.below
    generalize s1.w = w1 at hb1 ⊢
    clear s1
    try replace hb1 := below_trans (by with_reducible assumption) hb1
    obtain ⟨hc1, hf1⟩ := bcell hb1
    have hz1 := hb1.size
    try simp at hz1
    try have hz10 : w.heap.size ≤ w1.heap.size := by omega
    try have hz11 : w.heap.size < w1.heap.size := by omega
    try have hz12 : w.heap.size + 1 < w1.heap.size := by omega
    try have hz13 : w.heap.size + 1 + 1 < w1.heap.size := by omega
    try have hz14 : w.heap.size + 1 + 1 + 1 < w1.heap.size := by omega
    go_wp2_with (go_at_call 94; refine (l05Before_c _ _ _ _ _ _ _ hA hB (by assumption)).mono ?_; rintro e w1 ⟨rfl, hb⟩; (try replace hb := below_trans (by with_reducible assumption) hb); obtain ⟨hc, hf⟩ := bcell hb; have hz := hb.size; (try simp at hz); (try have hz0 : w.heap.size ≤ w1.heap.size := by omega); (try have hz1 : w.heap.size < w1.heap.size := by omega); (try have hz2 : w.heap.size + 1 < w1.heap.size := by omega); (try have hz3 : w.heap.size + 1 + 1 < w1.heap.size := by omega); (try have hz4 : w.heap.size + 1 + 1 + 1 < w1.heap.size := by omega))
    go_ret
    exact ⟨ret_int HF.out, (by repeat (first | with_reducible exact Below.refl _ _ | with_reducible assumption | with_reducible refine Below.drew ?_ | with_reducible refine Below.alloc ?_ (by first | exact Nat.le_refl _ | (simp; done) | (simp; omega) | omega) _ | with_reducible refine Below.setCell ?_ (by first | exact Nat.le_refl _ | (simp; done) | (simp; omega) | omega) _ | with_reducible refine Below.trans ?_ (Below.mono (by with_reducible assumption) (by first | exact Nat.le_refl _ | (simp; done) | (simp; omega) | omega))))⟩
set_option maxHeartbeats 800000 in
theorem WayAcrossS_c (ax ay bx cy px py qx qy : Int) (w : World) : Calls Try.prog 28 #[.agg #[.int .i64 ax, .int .i64 ay, .int .i64 bx, .int .i64 cy], .agg #[.int .i64 px, .int .i64 py], .agg #[.int .i64 qx, .int .i64 qy]] w fun e w' => e = .returned (.tuple #[.int .i64 (wayR ax ay bx cy px py qx qy).1, .int .i64 (wayR ax ay bx cy px py qx qy).2]) ∧ Below w.heap.size w w' := by
  cases h1 : isSeg ax ay bx cy
  · go_enter Try.func28, Try.ntmps28
    go_wp2_with (go_at_call 69; refine (isLineS_c _ _ _ _ _).mono ?_; rintro e w1 ⟨rfl, hb⟩; (try replace hb := below_trans (by with_reducible assumption) hb); obtain ⟨hc, hf⟩ := bcell hb; have hz := hb.size; (try simp at hz); (try have hz0 : w.heap.size ≤ w1.heap.size := by omega); (try have hz1 : w.heap.size < w1.heap.size := by omega); (try have hz2 : w.heap.size + 1 < w1.heap.size := by omega); (try have hz3 : w.heap.size + 1 + 1 < w1.heap.size := by omega); (try have hz4 : w.heap.size + 1 + 1 + 1 < w1.heap.size := by omega))
    go_ret2
    exact ⟨by simp [wayR, h1], (by repeat (first | with_reducible exact Below.refl _ _ | with_reducible assumption | with_reducible refine Below.drew ?_ | with_reducible refine Below.alloc ?_ (by first | exact Nat.le_refl _ | (simp; done) | (simp; omega) | omega) _ | with_reducible refine Below.setCell ?_ (by first | exact Nat.le_refl _ | (simp; done) | (simp; omega) | omega) _ | with_reducible refine Below.trans ?_ (Below.mono (by with_reducible assumption) (by first | exact Nat.le_refl _ | (simp; done) | (simp; omega) | omega))))⟩
  · obtain ⟨hA, hB, _⟩ := isSeg_true h1
    cases h2 : isPt px py
    all_goals cases h3 : isPt qx qy
    all_goals
      go_enter Try.func28, Try.ntmps28
      go_wp2_with (first | (go_at_call 69; refine (isLineS_c _ _ _ _ _).mono ?_; rintro e w1 ⟨rfl, hb⟩; (try replace hb := below_trans (by with_reducible assumption) hb); obtain ⟨hc, hf⟩ := bcell hb; have hz := hb.size; (try simp at hz); (try have hz0 : w.heap.size ≤ w1.heap.size := by omega); (try have hz1 : w.heap.size < w1.heap.size := by omega); (try have hz2 : w.heap.size + 1 < w1.heap.size := by omega); (try have hz3 : w.heap.size + 1 + 1 < w1.heap.size := by omega); (try have hz4 : w.heap.size + 1 + 1 + 1 < w1.heap.size := by omega)) | (go_at_call 60; refine (isPointS_c _ _ _).mono ?_; rintro e w1 ⟨rfl, hb⟩; (try replace hb := below_trans (by with_reducible assumption) hb); obtain ⟨hc, hf⟩ := bcell hb; have hz := hb.size; (try simp at hz); (try have hz0 : w.heap.size ≤ w1.heap.size := by omega); (try have hz1 : w.heap.size < w1.heap.size := by omega); (try have hz2 : w.heap.size + 1 < w1.heap.size := by omega); (try have hz3 : w.heap.size + 1 + 1 < w1.heap.size := by omega); (try have hz4 : w.heap.size + 1 + 1 + 1 < w1.heap.size := by omega)) | (go_at_call 70; refine (l05Way_c _ _ _ _ _ _ _ _ _ hA hB h2 h3).mono ?_; rintro e w1 ⟨rfl, hb⟩; (try replace hb := below_trans (by with_reducible assumption) hb); obtain ⟨hc, hf⟩ := bcell hb; have hz := hb.size; (try simp at hz); (try have hz0 : w.heap.size ≤ w1.heap.size := by omega); (try have hz1 : w.heap.size < w1.heap.size := by omega); (try have hz2 : w.heap.size + 1 < w1.heap.size := by omega); (try have hz3 : w.heap.size + 1 + 1 < w1.heap.size := by omega); (try have hz4 : w.heap.size + 1 + 1 + 1 < w1.heap.size := by omega)))
      go_ret2
      exact ⟨by simp [wayR, h1, h2, h3], (by repeat (first | with_reducible exact Below.refl _ _ | with_reducible assumption | with_reducible refine Below.drew ?_ | with_reducible refine Below.alloc ?_ (by first | exact Nat.le_refl _ | (simp; done) | (simp; omega) | omega) _ | with_reducible refine Below.setCell ?_ (by first | exact Nat.le_refl _ | (simp; done) | (simp; omega) | omega) _ | with_reducible refine Below.trans ?_ (Below.mono (by with_reducible assumption) (by first | exact Nat.le_refl _ | (simp; done) | (simp; omega) | omega))))⟩
end Go.Proofs.Ytiinhelljcgeaaa
