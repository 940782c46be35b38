/-
  The speed of a leg: SpeedOf, the program's and the reference's. Conditions: the cells lie in the world.
-/
import Derived.Test.YtdepdkpehbkcjaaL03j
namespace Go.Proofs.Ytdepdkpehbkcjaa
set_option linter.unusedVariables false
open Go.RowKit Go.Deep

theorem speed_eq {N d : Int} (hN : 0 ≤ N) (hd : 1 ≤ d) : min 1000000 (rootZ N / d) = rootZ (min 1000000000000 (N / (d * d))) := by
  obtain ⟨r0, r1, r2⟩ := rootZ_is hN
  generalize rootZ N = R at *
  have hq0 : 0 ≤ R / d := Int.ediv_nonneg r0 (by omega)
  have hq1 : R / d * d ≤ R := Int.ediv_mul_le R (by omega)
  have hq2 : R < (R / d + 1) * d := Int.lt_ediv_add_one_mul_self R (by omega)
  generalize R / d = q at *
  have hdd : 0 < d * d := Int.mul_pos (by omega) (by omega)
  have lo : q * q ≤ N / (d * d) := by
    rw [Int.le_ediv_iff_mul_le hdd]
    have := sq_mono (Int.mul_nonneg hq0 (show 0 ≤ d by omega)) hq1
    have e : q * d * (q * d) = q * q * (d * d) := by grind
    omega
  have hi : N / (d * d) < (q + 1) * (q + 1) := by
    rw [Int.ediv_lt_iff_lt_mul hdd]
    have := sq_mono (show 0 ≤ R + 1 by omega) (show R + 1 ≤ (q + 1) * d by omega)
    have e : (q + 1) * d * ((q + 1) * d) = (q + 1) * (q + 1) * (d * d) := by grind
    omega
  refine root_eq (by omega) ?_ ?_
  · rcases Int.le_total q 1000000 with h | h
    · rw [Int.min_eq_right h]
      have := sq_mono hq0 h
      omega
    · rw [Int.min_eq_left h]
      have := sq_mono (show (0 : Int) ≤ 1000000 by omega) h
      omega
  · rcases Int.le_total q 1000000 with h | h
    · rw [Int.min_eq_right h]
      omega
    · rw [Int.min_eq_left h]
      omega
def spdN (l : List Fx) (k : Nat) : Int := 1000000 * sqZ 0 0 ((fx l (k + 1)).x - (fx l k).x) ((fx l (k + 1)).y - (fx l k).y)
def spdZ (l : List Fx) (k : Nat) : Int := min 1000000 (rootZ (spdN l k) / ((fx l (k + 1)).t - (fx l k).t))
def speedR (l : List Fx) (leg : Int) : Int × Int := if isTrk l = true then (if inR leg 0 ((l.length : Int) - 2) = true then (spdZ l leg.toNat, 0) else (0, 4)) else (0, 1)
theorem leg_facts {l : List Fx} (h : isTrk l = true) {k : Nat} (hk : k + 1 < l.length) : isPt (fx l k).x (fx l k).y = true ∧ isPt (fx l (k + 1)).x (fx l (k + 1)).y = true ∧ 0 ≤ (fx l k).t ∧ (fx l (k + 1)).t ≤ 1000000000 ∧ (fx l k).t < (fx l (k + 1)).t := by
  have ho := (isTrk_true h).2.2
  have h1 := okAt_true (okUpto_lt ho k (by omega))
  have h2 := okAt_true (okUpto_lt ho (k + 1) hk)
  refine ⟨h1.2.2.1, h2.2.2.1, h1.1, h2.2.1, ?_⟩
  have := h2.2.2.2
  simp at this
  exact this
set_option maxHeartbeats 400000 in
theorem squareVec_c (qx qy : Int) (w : World) (h1 : -2000000 ≤ qx) (h2 : qx ≤ 2000000) (h3 : -2000000 ≤ qy) (h4 : qy ≤ 2000000) : Calls Try.prog 56 #[.agg #[.int .i64 0, .int .i64 0], .agg #[.int .i64 qx, .int .i64 qy]] w fun e w' => e = .returned (.int .i64 (sqZ 0 0 qx qy)) ∧ Below w.heap.size w w' := by
  obtain ⟨m1, m2⟩ := @mul_bd2 (-qx) (-qx) (by omega) (by omega) (by omega) (by omega)
  obtain ⟨m3, m4⟩ := @mul_bd2 (-qy) (-qy) (by omega) (by omega) (by omega) (by omega)
  go_enter Try.func56, Try.ntmps56
  go_wp2
  refine wp_region_later (by kernel_rfl) (by kernel_rfl) ?_
  repeat (first | go_big_quiet_step (fail) | quiet_step (fail))
  refine wpQuiet_nil ?_
  intro _ hw'
  obtain ⟨s1, hw''⟩ := hw'
  subst hw''
  have hb1 := s1.below
  generalize s1.w = w1 at hb1 ⊢
  clear s1
  try replace hb1 := below_trans (by with_reducible assumption) hb1
  obtain ⟨hc1, hf1⟩ := bcell hb1
  have hz1 := hb1.size
  try simp at hz1
  try have hz10 : w.heap.size ≤ w1.heap.size := by omega
  try have hz11 : w.heap.size < w1.heap.size := by omega
  try have hz12 : w.heap.size + 1 < w1.heap.size := by omega
  try have hz13 : w.heap.size + 1 + 1 < w1.heap.size := by omega
  try have hz14 : w.heap.size + 1 + 1 + 1 < w1.heap.size := by omega
  go_wp2
  go_ret
  exact ⟨by simp [sqZ], (by repeat (first | with_reducible exact Below.refl _ _ | with_reducible assumption | with_reducible refine Below.drew ?_ | with_reducible refine Below.alloc ?_ (by first | exact Nat.le_refl _ | (simp; done) | (simp; omega) | omega) _ | with_reducible refine Below.setCell ?_ (by first | exact Nat.le_refl _ | (simp; done) | (simp; omega) | omega) _ | with_reducible refine Below.trans ?_ (Below.mono (by with_reducible assumption) (by first | exact Nat.le_refl _ | (simp; done) | (simp; omega) | omega))))⟩
set_option maxHeartbeats 400000 in
theorem isLeg_c (a : Option Addr) (n cap : Nat) (leg : Int) (w : World) (hn : n ≤ 4611686018427387904) : Calls Try.prog 55 #[.agg #[.slice a n cap], .int .i64 leg] w fun e w' => e = .returned (.bool (inR leg 0 ((n : Int) - 2))) ∧ Below w.heap.size w w' := by
  go_enter Try.func55, Try.ntmps55
  go_wp2_with (go_at_call 65; refine (within_c _ _ _ _).mono ?_; rintro e w' ⟨rfl, rfl⟩)
  go_ret
  exact ⟨rfl, (by repeat (first | with_reducible exact Below.refl _ _ | with_reducible assumption | with_reducible refine Below.drew ?_ | with_reducible refine Below.alloc ?_ (by first | exact Nat.le_refl _ | (simp; done) | (simp; omega) | omega) _ | with_reducible refine Below.setCell ?_ (by first | exact Nat.le_refl _ | (simp; done) | (simp; omega) | omega) _ | with_reducible refine Below.trans ?_ (Below.mono (by with_reducible assumption) (by first | exact Nat.le_refl _ | (simp; done) | (simp; omega) | omega))))⟩
set_option maxHeartbeats 3000000 in
theorem SpeedOf_c (a : Option Addr) (cap : Nat) (l : List Fx) (leg : Int) (w : World) (hl : l.length ≤ 4611686018427387904) (hf : FixAt w a l) : Calls Try.prog 15 #[.agg #[.slice a l.length cap], .int .i64 leg] w fun e w' => e = .returned (.tuple #[.int .i64 (speedR l leg).1, .int .i64 (speedR l leg).2]) ∧ Below w.heap.size w w' := by
  cases e1 : isTrk l
  · have HF := Lib.hid (show speedR l leg = (0, 1) by simp [speedR, e1])
    go_enter Try.func15, Try.ntmps15
    go_wp2_with (first | (go_at_call 24; refine (IsTrack_c _ _ l _ hl (FixAt.below (by assumption) (by repeat (first | with_reducible exact Below.refl _ _ | with_reducible assumption | with_reducible refine Below.drew ?_ | with_reducible refine Below.alloc ?_ (by first | exact Nat.le_refl _ | (simp; done) | (simp; omega) | omega) _ | with_reducible refine Below.setCell ?_ (by first | exact Nat.le_refl _ | (simp; done) | (simp; omega) | omega) _ | with_reducible refine Below.trans ?_ (Below.mono (by with_reducible assumption) (by first | exact Nat.le_refl _ | (simp; done) | (simp; omega) | omega)))))).mono ?_; rintro e w1 ⟨rfl, hb⟩; (try replace hb := below_trans (by with_reducible assumption) hb); obtain ⟨hc, hf⟩ := bcell hb; have hz := hb.size; (try simp at hz); (try have hz0 : w.heap.size ≤ w1.heap.size := by omega); (try have hz1 : w.heap.size < w1.heap.size := by omega); (try have hz2 : w.heap.size + 1 < w1.heap.size := by omega); (try have hz3 : w.heap.size + 1 + 1 < w1.heap.size := by omega); (try have hz4 : w.heap.size + 1 + 1 + 1 < w1.heap.size := by omega)))
    go_ret2
    exact ⟨by rw [HF.out]; rfl, (by repeat (first | with_reducible exact Below.refl _ _ | with_reducible assumption | with_reducible refine Below.drew ?_ | with_reducible refine Below.alloc ?_ (by first | exact Nat.le_refl _ | (simp; done) | (simp; omega) | omega) _ | with_reducible refine Below.setCell ?_ (by first | exact Nat.le_refl _ | (simp; done) | (simp; omega) | omega) _ | with_reducible refine Below.trans ?_ (Below.mono (by with_reducible assumption) (by first | exact Nat.le_refl _ | (simp; done) | (simp; omega) | omega))))⟩
  cases e2 : inR leg 0 ((l.length : Int) - 2)
  · have HF := Lib.hid (show speedR l leg = (0, 4) by simp [speedR, e1, e2])
    go_enter Try.func15, Try.ntmps15
    go_wp2_with (first | (go_at_call 24; refine (IsTrack_c _ _ l _ hl (FixAt.below (by assumption) (by repeat (first | with_reducible exact Below.refl _ _ | with_reducible assumption | with_reducible refine Below.drew ?_ | with_reducible refine Below.alloc ?_ (by first | exact Nat.le_refl _ | (simp; done) | (simp; omega) | omega) _ | with_reducible refine Below.setCell ?_ (by first | exact Nat.le_refl _ | (simp; done) | (simp; omega) | omega) _ | with_reducible refine Below.trans ?_ (Below.mono (by with_reducible assumption) (by first | exact Nat.le_refl _ | (simp; done) | (simp; omega) | omega)))))).mono ?_; rintro e w1 ⟨rfl, hb⟩; (try replace hb := below_trans (by with_reducible assumption) hb); obtain ⟨hc, hf⟩ := bcell hb; have hz := hb.size; (try simp at hz); (try have hz0 : w.heap.size ≤ w1.heap.size := by omega); (try have hz1 : w.heap.size < w1.heap.size := by omega); (try have hz2 : w.heap.size + 1 < w1.heap.size := by omega); (try have hz3 : w.heap.size + 1 + 1 < w1.heap.size := by omega); (try have hz4 : w.heap.size + 1 + 1 + 1 < w1.heap.size := by omega)) | (go_at_call 55; refine (isLeg_c _ _ _ _ _ hl).mono ?_; rintro e w1 ⟨rfl, hb⟩; (try replace hb := below_trans (by with_reducible assumption) hb); obtain ⟨hc, hf⟩ := bcell hb; have hz := hb.size; (try simp at hz); (try have hz0 : w.heap.size ≤ w1.heap.size := by omega); (try have hz1 : w.heap.size < w1.heap.size := by omega); (try have hz2 : w.heap.size + 1 < w1.heap.size := by omega); (try have hz3 : w.heap.size + 1 + 1 < w1.heap.size := by omega); (try have hz4 : w.heap.size + 1 + 1 + 1 < w1.heap.size := by omega)))
    go_ret2
    exact ⟨by rw [HF.out]; rfl, (by repeat (first | with_reducible exact Below.refl _ _ | with_reducible assumption | with_reducible refine Below.drew ?_ | with_reducible refine Below.alloc ?_ (by first | exact Nat.le_refl _ | (simp; done) | (simp; omega) | omega) _ | with_reducible refine Below.setCell ?_ (by first | exact Nat.le_refl _ | (simp; done) | (simp; omega) | omega) _ | with_reducible refine Below.trans ?_ (Below.mono (by with_reducible assumption) (by first | exact Nat.le_refl _ | (simp; done) | (simp; omega) | omega))))⟩
  have hr := inR_true e2
  obtain ⟨k, rfl⟩ : ∃ k : Nat, leg = (k : Int) := ⟨leg.toNat, by omega⟩
  have hk : k + 1 < l.length := by omega
  have HF := Lib.hid (show speedR l (k : Int) = (spdZ l k, 0) by simp [speedR, e1, e2])
  obtain ⟨hp, hq, t0, t1, t2⟩ := leg_facts e1 hk
  obtain ⟨p1, p2, p3, p4⟩ := isPt_true hp
  obtain ⟨q1, q2, q3, q4⟩ := isPt_true hq
  have hS : 0 ≤ sqZ 0 0 ((fx l (k + 1)).x - (fx l k).x) ((fx l (k + 1)).y - (fx l k).y) ∧ sqZ 0 0 ((fx l (k + 1)).x - (fx l k).x) ((fx l (k + 1)).y - (fx l k).y) ≤ 8000000000000 := by
    have m1 := @mul_bd2 (0 - ((fx l (k + 1)).x - (fx l k).x)) (0 - ((fx l (k + 1)).x - (fx l k).x)) (by omega) (by omega) (by omega) (by omega)
    have m2 := @mul_bd2 (0 - ((fx l (k + 1)).y - (fx l k).y)) (0 - ((fx l (k + 1)).y - (fx l k).y)) (by omega) (by omega) (by omega) (by omega)
    have n1 := mul_self_nonneg' (0 - ((fx l (k + 1)).x - (fx l k).x))
    have n2 := mul_self_nonneg' (0 - ((fx l (k + 1)).y - (fx l k).y))
    unfold sqZ
    omega
  obtain ⟨s0, s1⟩ := hS
  have hW := fun w h => wayOf_c a cap l k w hl hk hp hq h
  have HW := Lib.hid hW
  clear hW hr
  have HS := Lib.hid (fun w => squareVec_c ((fx l (k + 1)).x - (fx l k).x) ((fx l (k + 1)).y - (fx l k).y) w (by omega) (by omega) (by omega) (by omega))
  have hF0 := Lib.hid hf
  obtain ⟨b, off, rfl, hlt, hcs⟩ := hf.head (by omega)
  obtain ⟨c0, _, _⟩ := hcs k (by omega)
  obtain ⟨m, hm⟩ : ∃ m, m = k + 1 := ⟨_, rfl⟩
  obtain ⟨d0, _, _⟩ := hcs m (by omega)
  clear hcs hf p1 p2 p3 p4 q1 q2 q3 q4 hp hq
  have g1 : (k : Int) < (l.length : Int) := by omega
  have g2 : (m : Int) < (l.length : Int) := by omega
  have g3 : (k : Int) + 1 = (m : Int) := by omega
  have g4 : IntKind.i64.wrap (m : Int) = (m : Int) := by rw [IntKind.wrap_i64]; omega
  unfold spdZ spdN at HF
  simp only [← hm] at *
  clear hm
  generalize sqZ 0 0 ((fx l m).x - (fx l k).x) ((fx l m).y - (fx l k).y) = S at *
  have R1 := Lib.hid (fun w => rootOf_c (1000000 * S) w (by omega) (by omega))
  obtain ⟨r0, r1, r2⟩ := rootZ_is (show 0 ≤ 1000000 * S by omega)
  have r3 : rootZ (1000000 * S) ≤ 3037000499 := by
    rcases Int.lt_or_le 3037000499 (rootZ (1000000 * S)) with h | h
    · have := sq_mono (show (0 : Int) ≤ 3037000500 by omega) h
      omega
    · exact h
  clear r1 r2
  generalize rootZ (1000000 * S) = R at *
  have r4 := (div_bd (a := R) (b := (fx l m).t - (fx l k).t) (by omega)).1 r0
  by_cases hq : R / ((fx l m).t - (fx l k).t) < 1000000
  · have HE := Lib.hid (show min 1000000 (R / ((fx l m).t - (fx l k).t)) = R / ((fx l m).t - (fx l k).t) by omega)
    go_enter Try.func15, Try.ntmps15
    go_wp2_with (first | (go_at_call 24; refine (IsTrack_c _ _ l _ hl (FixAt.below hF0.out (by repeat (first | with_reducible exact Below.refl _ _ | with_reducible assumption | with_reducible refine Below.drew ?_ | with_reducible refine Below.alloc ?_ (by first | exact Nat.le_refl _ | (simp; done) | (simp; omega) | omega) _ | with_reducible refine Below.setCell ?_ (by first | exact Nat.le_refl _ | (simp; done) | (simp; omega) | omega) _ | with_reducible refine Below.trans ?_ (Below.mono (by with_reducible assumption) (by first | exact Nat.le_refl _ | (simp; done) | (simp; omega) | omega)))))).mono ?_; rintro e w1 ⟨rfl, hb⟩; (try replace hb := below_trans (by with_reducible assumption) hb); obtain ⟨hc, hf⟩ := bcell hb; have hz := hb.size; (try simp at hz); (try have hz0 : w.heap.size ≤ w1.heap.size := by omega); (try have hz1 : w.heap.size < w1.heap.size := by omega); (try have hz2 : w.heap.size + 1 < w1.heap.size := by omega); (try have hz3 : w.heap.size + 1 + 1 < w1.heap.size := by omega); (try have hz4 : w.heap.size + 1 + 1 + 1 < w1.heap.size := by omega)) | (go_at_call 55; refine (isLeg_c _ _ _ _ _ hl).mono ?_; rintro e w1 ⟨rfl, hb⟩; (try replace hb := below_trans (by with_reducible assumption) hb); obtain ⟨hc, hf⟩ := bcell hb; have hz := hb.size; (try simp at hz); (try have hz0 : w.heap.size ≤ w1.heap.size := by omega); (try have hz1 : w.heap.size < w1.heap.size := by omega); (try have hz2 : w.heap.size + 1 < w1.heap.size := by omega); (try have hz3 : w.heap.size + 1 + 1 < w1.heap.size := by omega); (try have hz4 : w.heap.size + 1 + 1 + 1 < w1.heap.size := by omega)) | (go_at_call 57; refine (HW.out _ (FixAt.below hF0.out (by repeat (first | with_reducible exact Below.refl _ _ | with_reducible assumption | with_reducible refine Below.drew ?_ | with_reducible refine Below.alloc ?_ (by first | exact Nat.le_refl _ | (simp; done) | (simp; omega) | omega) _ | with_reducible refine Below.setCell ?_ (by first | exact Nat.le_refl _ | (simp; done) | (simp; omega) | omega) _ | with_reducible refine Below.trans ?_ (Below.mono (by with_reducible assumption) (by first | exact Nat.le_refl _ | (simp; done) | (simp; omega) | omega)))))).mono ?_; rintro e w1 ⟨rfl, hb⟩; (try replace hb := below_trans (by with_reducible assumption) hb); obtain ⟨hc, hf⟩ := bcell hb; have hz := hb.size; (try simp at hz); (try have hz0 : w.heap.size ≤ w1.heap.size := by omega); (try have hz1 : w.heap.size < w1.heap.size := by omega); (try have hz2 : w.heap.size + 1 < w1.heap.size := by omega); (try have hz3 : w.heap.size + 1 + 1 < w1.heap.size := by omega); (try have hz4 : w.heap.size + 1 + 1 + 1 < w1.heap.size := by omega)) | (go_at_call 56; refine (HS.out _).mono ?_; rintro e w1 ⟨rfl, hb⟩; (try replace hb := below_trans (by with_reducible assumption) hb); obtain ⟨hc, hf⟩ := bcell hb; have hz := hb.size; (try simp at hz); (try have hz0 : w.heap.size ≤ w1.heap.size := by omega); (try have hz1 : w.heap.size < w1.heap.size := by omega); (try have hz2 : w.heap.size + 1 < w1.heap.size := by omega); (try have hz3 : w.heap.size + 1 + 1 < w1.heap.size := by omega); (try have hz4 : w.heap.size + 1 + 1 + 1 < w1.heap.size := by omega)))
    have hlt9 : b < w1.heap.size := by omega
    refine wp_region_later (by kernel_rfl) (by kernel_rfl) ?_
    repeat (first | go_big_quiet_step ((go_at_call 58; exact later_of_same _ (R1.out _))) | quiet_step ((go_at_call 58; exact later_of_same _ (R1.out _))))
    refine wpQuiet_nil ?_
    intro _ hw'
    obtain ⟨s6, hw''⟩ := hw'
    subst hw''
    have hb6 := s6.below
    generalize s6.w = w6 at hb6 ⊢
    clear s6
    try replace hb6 := below_trans (by with_reducible assumption) hb6
    obtain ⟨hc6, hf6⟩ := bcell hb6
    have hz6 := hb6.size
    try simp at hz6
    try have hz60 : w.heap.size ≤ w6.heap.size := by omega
    try have hz61 : w.heap.size < w6.heap.size := by omega
    try have hz62 : w.heap.size + 1 < w6.heap.size := by omega
    try have hz63 : w.heap.size + 1 + 1 < w6.heap.size := by omega
    try have hz64 : w.heap.size + 1 + 1 + 1 < w6.heap.size := by omega
    go_wp2
    go_ret2
    exact ⟨by rw [HF.out, HE.out]; rfl, (by repeat (first | with_reducible exact Below.refl _ _ | with_reducible assumption | with_reducible refine Below.drew ?_ | with_reducible refine Below.alloc ?_ (by first | exact Nat.le_refl _ | (simp; done) | (simp; omega) | omega) _ | with_reducible refine Below.setCell ?_ (by first | exact Nat.le_refl _ | (simp; done) | (simp; omega) | omega) _ | with_reducible refine Below.trans ?_ (Below.mono (by with_reducible assumption) (by first | exact Nat.le_refl _ | (simp; done) | (simp; omega) | omega))))⟩
  · have HE := Lib.hid (show min 1000000 (R / ((fx l m).t - (fx l k).t)) = 1000000 by omega)
    go_enter Try.func15, Try.ntmps15
    go_wp2_with (first | (go_at_call 24; refine (IsTrack_c _ _ l _ hl (FixAt.below hF0.out (by repeat (first | with_reducible exact Below.refl _ _ | with_reducible assumption | with_reducible refine Below.drew ?_ | with_reducible refine Below.alloc ?_ (by first | exact Nat.le_refl _ | (simp; done) | (simp; omega) | omega) _ | with_reducible refine Below.setCell ?_ (by first | exact Nat.le_refl _ | (simp; done) | (simp; omega) | omega) _ | with_reducible refine Below.trans ?_ (Below.mono (by with_reducible assumption) (by first | exact Nat.le_refl _ | (simp; done) | (simp; omega) | omega)))))).mono ?_; rintro e w1 ⟨rfl, hb⟩; (try replace hb := below_trans (by with_reducible assumption) hb); obtain ⟨hc, hf⟩ := bcell hb; have hz := hb.size; (try simp at hz); (try have hz0 : w.heap.size ≤ w1.heap.size := by omega); (try have hz1 : w.heap.size < w1.heap.size := by omega); (try have hz2 : w.heap.size + 1 < w1.heap.size := by omega); (try have hz3 : w.heap.size + 1 + 1 < w1.heap.size := by omega); (try have hz4 : w.heap.size + 1 + 1 + 1 < w1.heap.size := by omega)) | (go_at_call 55; refine (isLeg_c _ _ _ _ _ hl).mono ?_; rintro e w1 ⟨rfl, hb⟩; (try replace hb := below_trans (by with_reducible assumption) hb); obtain ⟨hc, hf⟩ := bcell hb; have hz := hb.size; (try simp at hz); (try have hz0 : w.heap.size ≤ w1.heap.size := by omega); (try have hz1 : w.heap.size < w1.heap.size := by omega); (try have hz2 : w.heap.size + 1 < w1.heap.size := by omega); (try have hz3 : w.heap.size + 1 + 1 < w1.heap.size := by omega); (try have hz4 : w.heap.size + 1 + 1 + 1 < w1.heap.size := by omega)) | (go_at_call 57; refine (HW.out _ (FixAt.below hF0.out (by repeat (first | with_reducible exact Below.refl _ _ | with_reducible assumption | with_reducible refine Below.drew ?_ | with_reducible refine Below.alloc ?_ (by first | exact Nat.le_refl _ | (simp; done) | (simp; omega) | omega) _ | with_reducible refine Below.setCell ?_ (by first | exact Nat.le_refl _ | (simp; done) | (simp; omega) | omega) _ | with_reducible refine Below.trans ?_ (Below.mono (by with_reducible assumption) (by first | exact Nat.le_refl _ | (simp; done) | (simp; omega) | omega)))))).mono ?_; rintro e w1 ⟨rfl, hb⟩; (try replace hb := below_trans (by with_reducible assumption) hb); obtain ⟨hc, hf⟩ := bcell hb; have hz := hb.size; (try simp at hz); (try have hz0 : w.heap.size ≤ w1.heap.size := by omega); (try have hz1 : w.heap.size < w1.heap.size := by omega); (try have hz2 : w.heap.size + 1 < w1.heap.size := by omega); (try have hz3 : w.heap.size + 1 + 1 < w1.heap.size := by omega); (try have hz4 : w.heap.size + 1 + 1 + 1 < w1.heap.size := by omega)) | (go_at_call 56; refine (HS.out _).mono ?_; rintro e w1 ⟨rfl, hb⟩; (try replace hb := below_trans (by with_reducible assumption) hb); obtain ⟨hc, hf⟩ := bcell hb; have hz := hb.size; (try simp at hz); (try have hz0 : w.heap.size ≤ w1.heap.size := by omega); (try have hz1 : w.heap.size < w1.heap.size := by omega); (try have hz2 : w.heap.size + 1 < w1.heap.size := by omega); (try have hz3 : w.heap.size + 1 + 1 < w1.heap.size := by omega); (try have hz4 : w.heap.size + 1 + 1 + 1 < w1.heap.size := by omega)))
    have hlt9 : b < w1.heap.size := by omega
    refine wp_region_later (by kernel_rfl) (by kernel_rfl) ?_
    repeat (first | go_big_quiet_step ((go_at_call 58; exact later_of_same _ (R1.out _))) | quiet_step ((go_at_call 58; exact later_of_same _ (R1.out _))))
    refine wpQuiet_nil ?_
    intro _ hw'
    obtain ⟨s6, hw''⟩ := hw'
    subst hw''
    have hb6 := s6.below
    generalize s6.w = w6 at hb6 ⊢
    clear s6
    try replace hb6 := below_trans (by with_reducible assumption) hb6
    obtain ⟨hc6, hf6⟩ := bcell hb6
    have hz6 := hb6.size
    try simp at hz6
    try have hz60 : w.heap.size ≤ w6.heap.size := by omega
    try have hz61 : w.heap.size < w6.heap.size := by omega
    try have hz62 : w.heap.size + 1 < w6.heap.size := by omega
    try have hz63 : w.heap.size + 1 + 1 < w6.heap.size := by omega
    try have hz64 : w.heap.size + 1 + 1 + 1 < w6.heap.size := by omega
    go_wp2
    go_ret2
    exact ⟨by rw [HF.out, HE.out]; rfl, (by repeat (first | with_reducible exact Below.refl _ _ | with_reducible assumption | with_reducible refine Below.drew ?_ | with_reducible refine Below.alloc ?_ (by first | exact Nat.le_refl _ | (simp; done) | (simp; omega) | omega) _ | with_reducible refine Below.setCell ?_ (by first | exact Nat.le_refl _ | (simp; done) | (simp; omega) | omega) _ | with_reducible refine Below.trans ?_ (Below.mono (by with_reducible assumption) (by first | exact Nat.le_refl _ | (simp; done) | (simp; omega) | omega))))⟩
set_option maxHeartbeats 3000000 in
theorem SpeedOfS_c (a : Option Addr) (cap : Nat) (l : List Fx) (leg : Int) (w : World) (hl : l.length ≤ 4611686018427387904) (hf : FixAt w a l) : Calls Try.prog 16 #[.agg #[.slice a l.length cap], .int .i64 leg] w fun e w' => e = .returned (.tuple #[.int .i64 (speedR l leg).1, .int .i64 (speedR l leg).2]) ∧ Below w.heap.size w w' := by
  cases e1 : isTrk l
  · have HF := Lib.hid (show speedR l leg = (0, 1) by simp [speedR, e1])
    go_enter Try.func16, Try.ntmps16
    go_wp2_with (first | (go_at_call 59; refine (IsTrackS_c _ _ l _ hl (FixAt.below (by assumption) (by repeat (first | with_reducible exact Below.refl _ _ | with_reducible assumption | with_reducible refine Below.drew ?_ | with_reducible refine Below.alloc ?_ (by first | exact Nat.le_refl _ | (simp; done) | (simp; omega) | omega) _ | with_reducible refine Below.setCell ?_ (by first | exact Nat.le_refl _ | (simp; done) | (simp; omega) | omega) _ | with_reducible refine Below.trans ?_ (Below.mono (by with_reducible assumption) (by first | exact Nat.le_refl _ | (simp; done) | (simp; omega) | omega)))))).mono ?_; rintro e w1 ⟨rfl, hb⟩; (try replace hb := below_trans (by with_reducible assumption) hb); obtain ⟨hc, hf⟩ := bcell hb; have hz := hb.size; (try simp at hz); (try have hz0 : w.heap.size ≤ w1.heap.size := by omega); (try have hz1 : w.heap.size < w1.heap.size := by omega); (try have hz2 : w.heap.size + 1 < w1.heap.size := by omega); (try have hz3 : w.heap.size + 1 + 1 < w1.heap.size := by omega); (try have hz4 : w.heap.size + 1 + 1 + 1 < w1.heap.size := by omega)))
    go_ret2
    exact ⟨by rw [HF.out]; rfl, (by repeat (first | with_reducible exact Below.refl _ _ | with_reducible assumption | with_reducible refine Below.drew ?_ | with_reducible refine Below.alloc ?_ (by first | exact Nat.le_refl _ | (simp; done) | (simp; omega) | omega) _ | with_reducible refine Below.setCell ?_ (by first | exact Nat.le_refl _ | (simp; done) | (simp; omega) | omega) _ | with_reducible refine Below.trans ?_ (Below.mono (by with_reducible assumption) (by first | exact Nat.le_refl _ | (simp; done) | (simp; omega) | omega))))⟩
  cases e2 : inR leg 0 ((l.length : Int) - 2)
  · have HF := Lib.hid (show speedR l leg = (0, 4) by simp [speedR, e1, e2])
    go_enter Try.func16, Try.ntmps16
    go_wp2_with (first | (go_at_call 59; refine (IsTrackS_c _ _ l _ hl (FixAt.below (by assumption) (by repeat (first | with_reducible exact Below.refl _ _ | with_reducible assumption | with_reducible refine Below.drew ?_ | with_reducible refine Below.alloc ?_ (by first | exact Nat.le_refl _ | (simp; done) | (simp; omega) | omega) _ | with_reducible refine Below.setCell ?_ (by first | exact Nat.le_refl _ | (simp; done) | (simp; omega) | omega) _ | with_reducible refine Below.trans ?_ (Below.mono (by with_reducible assumption) (by first | exact Nat.le_refl _ | (simp; done) | (simp; omega) | omega)))))).mono ?_; rintro e w1 ⟨rfl, hb⟩; (try replace hb := below_trans (by with_reducible assumption) hb); obtain ⟨hc, hf⟩ := bcell hb; have hz := hb.size; (try simp at hz); (try have hz0 : w.heap.size ≤ w1.heap.size := by omega); (try have hz1 : w.heap.size < w1.heap.size := by omega); (try have hz2 : w.heap.size + 1 < w1.heap.size := by omega); (try have hz3 : w.heap.size + 1 + 1 < w1.heap.size := by omega); (try have hz4 : w.heap.size + 1 + 1 + 1 < w1.heap.size := by omega)) | (go_at_call 60; refine (l01In_c _ _ _ _).mono ?_; rintro e w' ⟨rfl, rfl⟩))
    go_ret2
    exact ⟨by rw [HF.out]; rfl, (by repeat (first | with_reducible exact Below.refl _ _ | with_reducible assumption | with_reducible refine Below.drew ?_ | with_reducible refine Below.alloc ?_ (by first | exact Nat.le_refl _ | (simp; done) | (simp; omega) | omega) _ | with_reducible refine Below.setCell ?_ (by first | exact Nat.le_refl _ | (simp; done) | (simp; omega) | omega) _ | with_reducible refine Below.trans ?_ (Below.mono (by with_reducible assumption) (by first | exact Nat.le_refl _ | (simp; done) | (simp; omega) | omega))))⟩
  have hr := inR_true e2
  obtain ⟨k, rfl⟩ : ∃ k : Nat, leg = (k : Int) := ⟨leg.toNat, by omega⟩
  have hk : k + 1 < l.length := by omega
  obtain ⟨hp, hq, t0, t1, t2⟩ := leg_facts e1 hk
  obtain ⟨p1, p2, p3, p4⟩ := isPt_true hp
  obtain ⟨q1, q2, q3, q4⟩ := isPt_true hq
  have hW := fun w h => l03Heading_c a cap l k w hl hk hp hq h
  have hF0 := Lib.hid hf
  obtain ⟨b, off, rfl, hlt, hcs⟩ := hf.head (by omega)
  obtain ⟨c0, _, _⟩ := hcs k (by omega)
  obtain ⟨m, hm⟩ : ∃ m, m = k + 1 := ⟨_, rfl⟩
  obtain ⟨d0, _, _⟩ := hcs m (by omega)
  have HF := Lib.hid (show speedR l (k : Int) = (rootZ (min 1000000000000 (1000000 * (((fx l m).x - (fx l k).x) * ((fx l m).x - (fx l k).x) + ((fx l m).y - (fx l k).y) * ((fx l m).y - (fx l k).y)) / (((fx l m).t - (fx l k).t) * ((fx l m).t - (fx l k).t)))), 0) by
    have hs : spdN l k = 1000000 * (((fx l m).x - (fx l k).x) * ((fx l m).x - (fx l k).x) + ((fx l m).y - (fx l k).y) * ((fx l m).y - (fx l k).y)) := by
      unfold spdN sqZ; rw [hm]; congr 1; grind
    have h0 : 0 ≤ spdN l k := by
      rw [hs]
      have n1 := mul_self_nonneg' ((fx l m).x - (fx l k).x)
      have n2 := mul_self_nonneg' ((fx l m).y - (fx l k).y)
      omega
    rw [← hs, hm, ← speed_eq h0 (by omega)]
    simp [speedR, e1, e2, spdZ])
  clear hcs hf hr
  have g1 : (k : Int) < (l.length : Int) := by omega
  have g2 : (m : Int) < (l.length : Int) := by omega
  have g3 : (k : Int) + 1 = (m : Int) := by omega
  have g4 : IntKind.i64.wrap (m : Int) = (m : Int) := by rw [IntKind.wrap_i64]; omega
  simp only [← hm] at *
  clear hm hp hq
  have HW := Lib.hid hW
  clear hW
  have hv : isVec ((fx l m).x - (fx l k).x) ((fx l m).y - (fx l k).y) = true := by simp [isVec, inR]; omega
  have HV := Lib.hid (fun w => l01Dot_c ((fx l m).x - (fx l k).x) ((fx l m).y - (fx l k).y) ((fx l m).x - (fx l k).x) ((fx l m).y - (fx l k).y) w hv hv)
  clear hv
  have b1 := mul_bd2 (a := (fx l m).x - (fx l k).x) (b := (fx l m).x - (fx l k).x) (by omega) (by omega) (by omega) (by omega)
  have b2 := mul_bd2 (a := (fx l m).y - (fx l k).y) (b := (fx l m).y - (fx l k).y) (by omega) (by omega) (by omega) (by omega)
  have b3 := mul_self_nonneg' ((fx l m).x - (fx l k).x)
  have b4 := mul_self_nonneg' ((fx l m).y - (fx l k).y)
  have s0 : 0 ≤ ((fx l m).x - (fx l k).x) * ((fx l m).x - (fx l k).x) + ((fx l m).y - (fx l k).y) * ((fx l m).y - (fx l k).y) := by omega
  have s1 : ((fx l m).x - (fx l k).x) * ((fx l m).x - (fx l k).x) + ((fx l m).y - (fx l k).y) * ((fx l m).y - (fx l k).y) ≤ 8000000000000 := by omega
  clear b1 b2 b3 b4
  generalize ((fx l m).x - (fx l k).x) * ((fx l m).x - (fx l k).x) + ((fx l m).y - (fx l k).y) * ((fx l m).y - (fx l k).y) = S at *
  have n1 := mul_bd (a := (fx l m).t - (fx l k).t) (b := (fx l m).t - (fx l k).t) (m := 1000000000) (n := 1000000000) (by omega) (by omega) (by omega) (by omega)
  have n2 := Int.mul_pos (a := (fx l m).t - (fx l k).t) (b := (fx l m).t - (fx l k).t) (by omega) (by omega)
  have n3 := (div_bd (a := 1000000 * S) (b := ((fx l m).t - (fx l k).t) * ((fx l m).t - (fx l k).t)) (by omega)).1 (by omega)
  obtain ⟨n1a, n1b⟩ := n1
  obtain ⟨n3a, n3b⟩ := n3
  by_cases hq : 1000000 * S / (((fx l m).t - (fx l k).t) * ((fx l m).t - (fx l k).t)) < 1000000000000
  · have HE := Lib.hid (show min 1000000000000 (1000000 * S / (((fx l m).t - (fx l k).t) * ((fx l m).t - (fx l k).t))) = 1000000 * S / (((fx l m).t - (fx l k).t) * ((fx l m).t - (fx l k).t)) by omega)
    have HR := Lib.hid (fun w => l01Root_c (1000000 * S / (((fx l m).t - (fx l k).t) * ((fx l m).t - (fx l k).t))) w n3a (by omega))
    go_enter Try.func16, Try.ntmps16
    go_wp2_with (first | (go_at_call 59; refine (IsTrackS_c _ _ l _ hl (FixAt.below hF0.out (by repeat (first | with_reducible exact Below.refl _ _ | with_reducible assumption | with_reducible refine Below.drew ?_ | with_reducible refine Below.alloc ?_ (by first | exact Nat.le_refl _ | (simp; done) | (simp; omega) | omega) _ | with_reducible refine Below.setCell ?_ (by first | exact Nat.le_refl _ | (simp; done) | (simp; omega) | omega) _ | with_reducible refine Below.trans ?_ (Below.mono (by with_reducible assumption) (by first | exact Nat.le_refl _ | (simp; done) | (simp; omega) | omega)))))).mono ?_; rintro e w1 ⟨rfl, hb⟩; (try replace hb := below_trans (by with_reducible assumption) hb); obtain ⟨hc, hf⟩ := bcell hb; have hz := hb.size; (try simp at hz); (try have hz0 : w.heap.size ≤ w1.heap.size := by omega); (try have hz1 : w.heap.size < w1.heap.size := by omega); (try have hz2 : w.heap.size + 1 < w1.heap.size := by omega); (try have hz3 : w.heap.size + 1 + 1 < w1.heap.size := by omega); (try have hz4 : w.heap.size + 1 + 1 + 1 < w1.heap.size := by omega)) | (go_at_call 60; refine (l01In_c _ _ _ _).mono ?_; rintro e w' ⟨rfl, rfl⟩) | (go_at_call 61; refine (HW.out _ (FixAt.below hF0.out (by repeat (first | with_reducible exact Below.refl _ _ | with_reducible assumption | with_reducible refine Below.drew ?_ | with_reducible refine Below.alloc ?_ (by first | exact Nat.le_refl _ | (simp; done) | (simp; omega) | omega) _ | with_reducible refine Below.setCell ?_ (by first | exact Nat.le_refl _ | (simp; done) | (simp; omega) | omega) _ | with_reducible refine Below.trans ?_ (Below.mono (by with_reducible assumption) (by first | exact Nat.le_refl _ | (simp; done) | (simp; omega) | omega)))))).mono ?_; rintro e w1 ⟨rfl, hb⟩; (try replace hb := below_trans (by with_reducible assumption) hb); obtain ⟨hc, hf⟩ := bcell hb; have hz := hb.size; (try simp at hz); (try have hz0 : w.heap.size ≤ w1.heap.size := by omega); (try have hz1 : w.heap.size < w1.heap.size := by omega); (try have hz2 : w.heap.size + 1 < w1.heap.size := by omega); (try have hz3 : w.heap.size + 1 + 1 < w1.heap.size := by omega); (try have hz4 : w.heap.size + 1 + 1 + 1 < w1.heap.size := by omega)) | (go_at_call 63; refine (HV.out _).mono ?_; rintro e w1 ⟨rfl, hb⟩; (try replace hb := below_trans (by with_reducible assumption) hb); obtain ⟨hc, hf⟩ := bcell hb; have hz := hb.size; (try simp at hz); (try have hz0 : w.heap.size ≤ w1.heap.size := by omega); (try have hz1 : w.heap.size < w1.heap.size := by omega); (try have hz2 : w.heap.size + 1 < w1.heap.size := by omega); (try have hz3 : w.heap.size + 1 + 1 < w1.heap.size := by omega); (try have hz4 : w.heap.size + 1 + 1 + 1 < w1.heap.size := by omega)) | (go_at_call 62; refine (HR.out _).mono ?_; rintro e w' ⟨rfl, rfl⟩))
    have hlt9 : b < w1.heap.size := by omega
    refine wp_region_later (by kernel_rfl) (by kernel_rfl) ?_
    repeat (first | go_big_quiet_step (fail) | quiet_step (fail))
    refine wpQuiet_nil ?_
    intro _ hw'
    obtain ⟨s6, hw''⟩ := hw'
    subst hw''
    have hb6 := s6.below
    generalize s6.w = w6 at hb6 ⊢
    clear s6
    try replace hb6 := below_trans (by with_reducible assumption) hb6
    obtain ⟨hc6, hf6⟩ := bcell hb6
    have hz6 := hb6.size
    try simp at hz6
    try have hz60 : w.heap.size ≤ w6.heap.size := by omega
    try have hz61 : w.heap.size < w6.heap.size := by omega
    try have hz62 : w.heap.size + 1 < w6.heap.size := by omega
    try have hz63 : w.heap.size + 1 + 1 < w6.heap.size := by omega
    try have hz64 : w.heap.size + 1 + 1 + 1 < w6.heap.size := by omega
    have hlt8 : b < w6.heap.size := by omega
    go_wp2_with (first | (go_at_call 63; refine (HV.out _).mono ?_; rintro e w1 ⟨rfl, hb⟩; (try replace hb := below_trans (by with_reducible assumption) hb); obtain ⟨hc, hf⟩ := bcell hb; have hz := hb.size; (try simp at hz); (try have hz0 : w.heap.size ≤ w1.heap.size := by omega); (try have hz1 : w.heap.size < w1.heap.size := by omega); (try have hz2 : w.heap.size + 1 < w1.heap.size := by omega); (try have hz3 : w.heap.size + 1 + 1 < w1.heap.size := by omega); (try have hz4 : w.heap.size + 1 + 1 + 1 < w1.heap.size := by omega)) | (go_at_call 62; refine (HR.out _).mono ?_; rintro e w' ⟨rfl, rfl⟩))
    go_ret2
    exact ⟨by rw [HF.out, HE.out]; rfl, (by repeat (first | with_reducible exact Below.refl _ _ | with_reducible assumption | with_reducible refine Below.drew ?_ | with_reducible refine Below.alloc ?_ (by first | exact Nat.le_refl _ | (simp; done) | (simp; omega) | omega) _ | with_reducible refine Below.setCell ?_ (by first | exact Nat.le_refl _ | (simp; done) | (simp; omega) | omega) _ | with_reducible refine Below.trans ?_ (Below.mono (by with_reducible assumption) (by first | exact Nat.le_refl _ | (simp; done) | (simp; omega) | omega))))⟩
  · have HE := Lib.hid (show min 1000000000000 (1000000 * S / (((fx l m).t - (fx l k).t) * ((fx l m).t - (fx l k).t))) = 1000000000000 by omega)
    have HR := Lib.hid (fun w => l01Root_c 1000000000000 w (by omega) (by omega))
    go_enter Try.func16, Try.ntmps16
    go_wp2_with (first | (go_at_call 59; refine (IsTrackS_c _ _ l _ hl (FixAt.below hF0.out (by repeat (first | with_reducible exact Below.refl _ _ | with_reducible assumption | with_reducible refine Below.drew ?_ | with_reducible refine Below.alloc ?_ (by first | exact Nat.le_refl _ | (simp; done) | (simp; omega) | omega) _ | with_reducible refine Below.setCell ?_ (by first | exact Nat.le_refl _ | (simp; done) | (simp; omega) | omega) _ | with_reducible refine Below.trans ?_ (Below.mono (by with_reducible assumption) (by first | exact Nat.le_refl _ | (simp; done) | (simp; omega) | omega)))))).mono ?_; rintro e w1 ⟨rfl, hb⟩; (try replace hb := below_trans (by with_reducible assumption) hb); obtain ⟨hc, hf⟩ := bcell hb; have hz := hb.size; (try simp at hz); (try have hz0 : w.heap.size ≤ w1.heap.size := by omega); (try have hz1 : w.heap.size < w1.heap.size := by omega); (try have hz2 : w.heap.size + 1 < w1.heap.size := by omega); (try have hz3 : w.heap.size + 1 + 1 < w1.heap.size := by omega); (try have hz4 : w.heap.size + 1 + 1 + 1 < w1.heap.size := by omega)) | (go_at_call 60; refine (l01In_c _ _ _ _).mono ?_; rintro e w' ⟨rfl, rfl⟩) | (go_at_call 61; refine (HW.out _ (FixAt.below hF0.out (by repeat (first | with_reducible exact Below.refl _ _ | with_reducible assumption | with_reducible refine Below.drew ?_ | with_reducible refine Below.alloc ?_ (by first | exact Nat.le_refl _ | (simp; done) | (simp; omega) | omega) _ | with_reducible refine Below.setCell ?_ (by first | exact Nat.le_refl _ | (simp; done) | (simp; omega) | omega) _ | with_reducible refine Below.trans ?_ (Below.mono (by with_reducible assumption) (by first | exact Nat.le_refl _ | (simp; done) | (simp; omega) | omega)))))).mono ?_; rintro e w1 ⟨rfl, hb⟩; (try replace hb := below_trans (by with_reducible assumption) hb); obtain ⟨hc, hf⟩ := bcell hb; have hz := hb.size; (try simp at hz); (try have hz0 : w.heap.size ≤ w1.heap.size := by omega); (try have hz1 : w.heap.size < w1.heap.size := by omega); (try have hz2 : w.heap.size + 1 < w1.heap.size := by omega); (try have hz3 : w.heap.size + 1 + 1 < w1.heap.size := by omega); (try have hz4 : w.heap.size + 1 + 1 + 1 < w1.heap.size := by omega)) | (go_at_call 63; refine (HV.out _).mono ?_; rintro e w1 ⟨rfl, hb⟩; (try replace hb := below_trans (by with_reducible assumption) hb); obtain ⟨hc, hf⟩ := bcell hb; have hz := hb.size; (try simp at hz); (try have hz0 : w.heap.size ≤ w1.heap.size := by omega); (try have hz1 : w.heap.size < w1.heap.size := by omega); (try have hz2 : w.heap.size + 1 < w1.heap.size := by omega); (try have hz3 : w.heap.size + 1 + 1 < w1.heap.size := by omega); (try have hz4 : w.heap.size + 1 + 1 + 1 < w1.heap.size := by omega)) | (go_at_call 62; refine (HR.out _).mono ?_; rintro e w' ⟨rfl, rfl⟩))
    have hlt9 : b < w1.heap.size := by omega
    refine wp_region_later (by kernel_rfl) (by kernel_rfl) ?_
    repeat (first | go_big_quiet_step (fail) | quiet_step (fail))
    refine wpQuiet_nil ?_
    intro _ hw'
    obtain ⟨s6, hw''⟩ := hw'
    subst hw''
    have hb6 := s6.below
    generalize s6.w = w6 at hb6 ⊢
    clear s6
    try replace hb6 := below_trans (by with_reducible assumption) hb6
    obtain ⟨hc6, hf6⟩ := bcell hb6
    have hz6 := hb6.size
    try simp at hz6
    try have hz60 : w.heap.size ≤ w6.heap.size := by omega
    try have hz61 : w.heap.size < w6.heap.size := by omega
    try have hz62 : w.heap.size + 1 < w6.heap.size := by omega
    try have hz63 : w.heap.size + 1 + 1 < w6.heap.size := by omega
    try have hz64 : w.heap.size + 1 + 1 + 1 < w6.heap.size := by omega
    have hlt8 : b < w6.heap.size := by omega
    go_wp2_with (first | (go_at_call 63; refine (HV.out _).mono ?_; rintro e w1 ⟨rfl, hb⟩; (try replace hb := below_trans (by with_reducible assumption) hb); obtain ⟨hc, hf⟩ := bcell hb; have hz := hb.size; (try simp at hz); (try have hz0 : w.heap.size ≤ w1.heap.size := by omega); (try have hz1 : w.heap.size < w1.heap.size := by omega); (try have hz2 : w.heap.size + 1 < w1.heap.size := by omega); (try have hz3 : w.heap.size + 1 + 1 < w1.heap.size := by omega); (try have hz4 : w.heap.size + 1 + 1 + 1 < w1.heap.size := by omega)) | (go_at_call 62; refine (HR.out _).mono ?_; rintro e w' ⟨rfl, rfl⟩))
    go_ret2
    exact ⟨by rw [HF.out, HE.out]; rfl, (by repeat (first | with_reducible exact Below.refl _ _ | with_reducible assumption | with_reducible refine Below.drew ?_ | with_reducible refine Below.alloc ?_ (by first | exact Nat.le_refl _ | (simp; done) | (simp; omega) | omega) _ | with_reducible refine Below.setCell ?_ (by first | exact Nat.le_refl _ | (simp; done) | (simp; omega) | omega) _ | with_reducible refine Below.trans ?_ (Below.mono (by with_reducible assumption) (by first | exact Nat.le_refl _ | (simp; done) | (simp; omega) | omega))))⟩
end Go.Proofs.Ytdepdkpehbkcjaa
