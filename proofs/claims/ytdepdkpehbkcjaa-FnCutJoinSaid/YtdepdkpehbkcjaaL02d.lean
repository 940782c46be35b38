/-
  What the functions of layer 2 on the place of a crossing return: contracts of the program's and of the reference's functions. Their conditions stand with each.
-/
import Derived.Test.YtdepdkpehbkcjaaL02c
import Derived.Test.YtdepdkpehbkcjaaHeld
namespace Go.Proofs.Ytdepdkpehbkcjaa
set_option linter.unusedVariables false
open Go.RowKit Go.Deep

/-- where the line through t meets s: the turns' sizes of the ends of s -/
def hasPl (a b : Int) : Bool := !(decide (0 < a ∧ 0 < b) || decide (a < 0 ∧ b < 0) || decide (a = 0 ∧ b = 0))
def plN (a b : Int) : Int := lowN (max a (-a)) (max (a - b) (b - a))
def plD (a b : Int) : Int := lowD (max a (-a)) (max (a - b) (b - a))
def placeR (ax ay bx cy px py qx qy : Int) : Int × Int × Int :=
  if isSeg ax ay bx cy && isSeg px py qx qy then
    (if hasPl (crossZ px py qx qy ax ay) (crossZ px py qx qy bx cy) then (plN (crossZ px py qx qy ax ay) (crossZ px py qx qy bx cy), plD (crossZ px py qx qy ax ay) (crossZ px py qx qy bx cy), 0) else (0, 0, 4))
  else (0, 0, 1)
theorem cross_bd {px py qx qy rx ry a : Int} (h : crossZ px py qx qy rx ry = a) (hp : isPt px py = true) (hq : isPt qx qy = true) (hr : isPt rx ry = true) : -8000000000000 ≤ a ∧ a ≤ 8000000000000 := by
  obtain ⟨p1, p2, p3, p4⟩ := isPt_true hp
  obtain ⟨q1, q2, q3, q4⟩ := isPt_true hq
  obtain ⟨r1, r2, r3, r4⟩ := isPt_true hr
  rw [← h]
  unfold crossZ
  have m1 := @mul_bd2 (qx - px) (ry - py) (by omega) (by omega) (by omega) (by omega)
  have m2 := @mul_bd2 (qy - py) (rx - px) (by omega) (by omega) (by omega) (by omega)
  omega
theorem pl_of {a b x y : Int} (h1 : max a (-a) = x) (h2 : max (a - b) (b - a) = y) : lowN x y = plN a b ∧ lowD x y = plD a b := by
  unfold plN plD; rw [h1, h2]; exact ⟨rfl, rfl⟩
theorem placeR_yes {ax ay bx cy px py qx qy a b : Int} (h1 : isSeg ax ay bx cy = true) (h2 : isSeg px py qx qy = true) (e1 : crossZ px py qx qy ax ay = a) (e2 : crossZ px py qx qy bx cy = b) (h : hasPl a b = true) : placeR ax ay bx cy px py qx qy = (plN a b, plD a b, 0) := by
  unfold placeR; rw [e1, e2]; simp [h1, h2, h]
theorem placeR_no {ax ay bx cy px py qx qy a b : Int} (h1 : isSeg ax ay bx cy = true) (h2 : isSeg px py qx qy = true) (e1 : crossZ px py qx qy ax ay = a) (e2 : crossZ px py qx qy bx cy = b) (h : hasPl a b = false) : placeR ax ay bx cy px py qx qy = (0, 0, 4) := by
  unfold placeR; rw [e1, e2]; simp [h1, h2, h]
theorem placeR_bad {ax ay bx cy px py qx qy : Int} (h : (isSeg ax ay bx cy && isSeg px py qx qy) = false) : placeR ax ay bx cy px py qx qy = (0, 0, 1) := by
  unfold placeR; rw [h]; rfl
theorem hasPl_iff (a b : Int) : hasPl a b = true ↔ ¬ (0 < a ∧ 0 < b) ∧ ¬ (a < 0 ∧ b < 0) ∧ ¬ (a = 0 ∧ b = 0) := by
  unfold hasPl; simp only [Bool.not_eq_true', Bool.or_eq_false_iff, decide_eq_false_iff_not]; constructor <;> intro h <;> omega
theorem hasPl_no {a b : Int} (h : (0 < a ∧ 0 < b) ∨ (a < 0 ∧ b < 0) ∨ (a = 0 ∧ b = 0)) : hasPl a b = false := by
  rw [Bool.eq_false_iff, Ne, hasPl_iff]; omega
theorem sgn_1 {a : Int} (h : 0 < a) : sgn a = 1 := by unfold sgn; rw [if_pos h]
theorem sgn_m {a : Int} (h : a < 0) : sgn a = -1 := by unfold sgn; rw [if_neg (by omega), if_pos h]

theorem pl_tuple {x y a b : Int} {c : Value} (h : lowN x y = plN a b ∧ lowD x y = plD a b) : Ending.returned (.tuple #[.agg #[.int .i64 (lowN x y), .int .i64 (lowD x y)], c]) = .returned (.tuple #[.agg #[.int .i64 (plN a b), .int .i64 (plD a b)], c]) := by rw [h.1, h.2]
set_option maxHeartbeats 4000000 in
theorem CrossingPlace_c (ax ay bx cy px py qx qy : Int) (w : World) : Calls Try.prog 119 #[.agg #[.int .i64 ax, .int .i64 ay, .int .i64 bx, .int .i64 cy], .agg #[.int .i64 px, .int .i64 py, .int .i64 qx, .int .i64 qy]] w fun e w' => e = .returned (.tuple #[.agg #[.int .i64 (placeR ax ay bx cy px py qx qy).1, .int .i64 (placeR ax ay bx cy px py qx qy).2.1], .int .i64 (placeR ax ay bx cy px py qx qy).2.2]) ∧ Below w.heap.size w w' := by
  cases h1 : isSeg ax ay bx cy
  · have HF := Lib.hid (placeR_bad (show (isSeg ax ay bx cy && isSeg px py qx qy) = false by simp [h1]))
    go_enter Try.func119, Try.ntmps119
    go_wp2_with (go_at_call 123; refine (isSegment_c _ _ _ _ _).mono ?_; rintro e w1 ⟨rfl, hb⟩; (try replace hb := below_trans (by with_reducible assumption) hb); obtain ⟨hc, hf⟩ := bcell hb; have hz := hb.size; (try simp at hz); (try have hz0 : w.heap.size ≤ w1.heap.size := by omega); (try have hz1 : w.heap.size < w1.heap.size := by omega); (try have hz2 : w.heap.size + 1 < w1.heap.size := by omega); (try have hz3 : w.heap.size + 1 + 1 < w1.heap.size := by omega); (try have hz4 : w.heap.size + 1 + 1 + 1 < w1.heap.size := by omega))
    exact bodyPost_ret (v := .tuple #[.agg #[.int .i64 0, .int .i64 0], .int .i64 1]) (by simp [results, Try.results119, go_sem, *]) rfl ⟨by rw [HF.out], (by repeat (first | with_reducible exact Below.refl _ _ | with_reducible assumption | with_reducible refine Below.drew ?_ | with_reducible refine Below.alloc ?_ (by first | exact Nat.le_refl _ | (simp; done) | (simp; omega) | omega) _ | with_reducible refine Below.setCell ?_ (by first | exact Nat.le_refl _ | (simp; done) | (simp; omega) | omega) _ | with_reducible refine Below.trans ?_ (Below.mono (by with_reducible assumption) (by first | exact Nat.le_refl _ | (simp; done) | (simp; omega) | omega))))⟩
  cases h2 : isSeg px py qx qy
  · have HF := Lib.hid (placeR_bad (show (isSeg ax ay bx cy && isSeg px py qx qy) = false by simp [h2]))
    go_enter Try.func119, Try.ntmps119
    go_wp2_with (go_at_call 123; refine (isSegment_c _ _ _ _ _).mono ?_; rintro e w1 ⟨rfl, hb⟩; (try replace hb := below_trans (by with_reducible assumption) hb); obtain ⟨hc, hf⟩ := bcell hb; have hz := hb.size; (try simp at hz); (try have hz0 : w.heap.size ≤ w1.heap.size := by omega); (try have hz1 : w.heap.size < w1.heap.size := by omega); (try have hz2 : w.heap.size + 1 < w1.heap.size := by omega); (try have hz3 : w.heap.size + 1 + 1 < w1.heap.size := by omega); (try have hz4 : w.heap.size + 1 + 1 + 1 < w1.heap.size := by omega))
    exact bodyPost_ret (v := .tuple #[.agg #[.int .i64 0, .int .i64 0], .int .i64 1]) (by simp [results, Try.results119, go_sem, *]) rfl ⟨by rw [HF.out], (by repeat (first | with_reducible exact Below.refl _ _ | with_reducible assumption | with_reducible refine Below.drew ?_ | with_reducible refine Below.alloc ?_ (by first | exact Nat.le_refl _ | (simp; done) | (simp; omega) | omega) _ | with_reducible refine Below.setCell ?_ (by first | exact Nat.le_refl _ | (simp; done) | (simp; omega) | omega) _ | with_reducible refine Below.trans ?_ (Below.mono (by with_reducible assumption) (by first | exact Nat.le_refl _ | (simp; done) | (simp; omega) | omega))))⟩
  obtain ⟨hA, hB, _⟩ := isSeg_true h1
  obtain ⟨hP, hQ, _⟩ := isSeg_true h2
  generalize e1 : crossZ px py qx qy ax ay = a
  generalize e2 : crossZ px py qx qy bx cy = b
  obtain ⟨a1, a2⟩ := cross_bd e1 hP hQ hA
  obtain ⟨b1, b2⟩ := cross_bd e2 hP hQ hB
  have placeI_Y := @placeR_yes ax ay bx cy px py qx qy a b h1 h2
  have placeI_N := @placeR_no ax ay bx cy px py qx qy a b h1 h2
  rcases Int.lt_trichotomy a 0 with ha | rfl | ha
  · rcases Int.lt_trichotomy b 0 with hb | rfl | hb
    · have HF := Lib.hid (placeI_N e1 e2 (hasPl_no (by omega)))
      clear placeI_Y placeI_N
      go_enter Try.func119, Try.ntmps119
      go_wp2_with (first | (go_at_call 123; refine (isSegment_c _ _ _ _ _).mono ?_; rintro e w1 ⟨rfl, hb⟩; (try replace hb := below_trans (by with_reducible assumption) hb); obtain ⟨hc, hf⟩ := bcell hb; have hz := hb.size; (try simp at hz); (try have hz0 : w.heap.size ≤ w1.heap.size := by omega); (try have hz1 : w.heap.size < w1.heap.size := by omega); (try have hz2 : w.heap.size + 1 < w1.heap.size := by omega); (try have hz3 : w.heap.size + 1 + 1 < w1.heap.size := by omega); (try have hz4 : w.heap.size + 1 + 1 + 1 < w1.heap.size := by omega)))
      refine wp_region_later (by kernel_rfl) (by kernel_rfl) ?_
      repeat (first | go_big_quiet_step ((go_at_call 135; exact later_of _ (cross_c _ _ _ _ _ _ _ hP hQ (by assumption)))) | quiet_step ((go_at_call 135; exact later_of _ (cross_c _ _ _ _ _ _ _ hP hQ (by assumption)))))
      refine wpQuiet_nil ?_
      intro _ hw'
      obtain ⟨s1, hw''⟩ := hw'
      subst hw''
      have hb1 := s1.below
      generalize s1.w = w1 at hb1 ⊢
      clear s1
      try replace hb1 := below_trans (by with_reducible assumption) hb1
      obtain ⟨hc1, hf1⟩ := bcell hb1
      have hz1 := hb1.size
      try simp at hz1
      try have hz10 : w.heap.size ≤ w1.heap.size := by omega
      try have hz11 : w.heap.size < w1.heap.size := by omega
      try have hz12 : w.heap.size + 1 < w1.heap.size := by omega
      try have hz13 : w.heap.size + 1 + 1 < w1.heap.size := by omega
      try have hz14 : w.heap.size + 1 + 1 + 1 < w1.heap.size := by omega
      go_wp2_with (go_at_call 136; refine (lowest_c _ _ _ (by omega) (by omega) (by omega) (by omega)).mono ?_; rintro e w1 ⟨rfl, hb⟩; (try replace hb := below_trans (by with_reducible assumption) hb); obtain ⟨hc, hf⟩ := bcell hb; have hz := hb.size; (try simp at hz); (try have hz0 : w.heap.size ≤ w1.heap.size := by omega); (try have hz1 : w.heap.size < w1.heap.size := by omega); (try have hz2 : w.heap.size + 1 < w1.heap.size := by omega); (try have hz3 : w.heap.size + 1 + 1 < w1.heap.size := by omega); (try have hz4 : w.heap.size + 1 + 1 + 1 < w1.heap.size := by omega))
      exact bodyPost_ret (v := .tuple #[.agg #[.int .i64 0, .int .i64 0], .int .i64 4]) (by simp [results, Try.results119, go_sem, *]) rfl ⟨by rw [HF.out], (by repeat (first | with_reducible exact Below.refl _ _ | with_reducible assumption | with_reducible refine Below.drew ?_ | with_reducible refine Below.alloc ?_ (by first | exact Nat.le_refl _ | (simp; done) | (simp; omega) | omega) _ | with_reducible refine Below.setCell ?_ (by first | exact Nat.le_refl _ | (simp; done) | (simp; omega) | omega) _ | with_reducible refine Below.trans ?_ (Below.mono (by with_reducible assumption) (by first | exact Nat.le_refl _ | (simp; done) | (simp; omega) | omega))))⟩
    · have HF := Lib.hid (placeI_Y e1 e2 ((hasPl_iff _ _).2 (by omega)))
      clear placeI_Y placeI_N
      go_enter Try.func119, Try.ntmps119
      go_wp2_with (first | (go_at_call 123; refine (isSegment_c _ _ _ _ _).mono ?_; rintro e w1 ⟨rfl, hb⟩; (try replace hb := below_trans (by with_reducible assumption) hb); obtain ⟨hc, hf⟩ := bcell hb; have hz := hb.size; (try simp at hz); (try have hz0 : w.heap.size ≤ w1.heap.size := by omega); (try have hz1 : w.heap.size < w1.heap.size := by omega); (try have hz2 : w.heap.size + 1 < w1.heap.size := by omega); (try have hz3 : w.heap.size + 1 + 1 < w1.heap.size := by omega); (try have hz4 : w.heap.size + 1 + 1 + 1 < w1.heap.size := by omega)))
      refine wp_region_later (by kernel_rfl) (by kernel_rfl) ?_
      repeat (first | go_big_quiet_step ((go_at_call 135; exact later_of _ (cross_c _ _ _ _ _ _ _ hP hQ (by assumption)))) | quiet_step ((go_at_call 135; exact later_of _ (cross_c _ _ _ _ _ _ _ hP hQ (by assumption)))))
      refine wpQuiet_nil ?_
      intro _ hw'
      obtain ⟨s1, hw''⟩ := hw'
      subst hw''
      have hb1 := s1.below
      generalize s1.w = w1 at hb1 ⊢
      clear s1
      try replace hb1 := below_trans (by with_reducible assumption) hb1
      obtain ⟨hc1, hf1⟩ := bcell hb1
      have hz1 := hb1.size
      try simp at hz1
      try have hz10 : w.heap.size ≤ w1.heap.size := by omega
      try have hz11 : w.heap.size < w1.heap.size := by omega
      try have hz12 : w.heap.size + 1 < w1.heap.size := by omega
      try have hz13 : w.heap.size + 1 + 1 < w1.heap.size := by omega
      try have hz14 : w.heap.size + 1 + 1 + 1 < w1.heap.size := by omega
      go_wp2_with (go_at_call 136; refine (lowest_c _ _ _ (by omega) (by omega) (by omega) (by omega)).mono ?_; rintro e w1 ⟨rfl, hb⟩; (try replace hb := below_trans (by with_reducible assumption) hb); obtain ⟨hc, hf⟩ := bcell hb; have hz := hb.size; (try simp at hz); (try have hz0 : w.heap.size ≤ w1.heap.size := by omega); (try have hz1 : w.heap.size < w1.heap.size := by omega); (try have hz2 : w.heap.size + 1 < w1.heap.size := by omega); (try have hz3 : w.heap.size + 1 + 1 < w1.heap.size := by omega); (try have hz4 : w.heap.size + 1 + 1 + 1 < w1.heap.size := by omega))
      refine bodyPost_ret (v := .tuple #[.agg #[.int .i64 (lowN _ _), .int .i64 (lowD _ _)], .int .i64 0]) (by simp [results, Try.results119, go_sem, *]; exact ⟨rfl, rfl⟩) rfl ⟨?_, (by repeat (first | with_reducible exact Below.refl _ _ | with_reducible assumption | with_reducible refine Below.drew ?_ | with_reducible refine Below.alloc ?_ (by first | exact Nat.le_refl _ | (simp; done) | (simp; omega) | omega) _ | with_reducible refine Below.setCell ?_ (by first | exact Nat.le_refl _ | (simp; done) | (simp; omega) | omega) _ | with_reducible refine Below.trans ?_ (Below.mono (by with_reducible assumption) (by first | exact Nat.le_refl _ | (simp; done) | (simp; omega) | omega))))⟩
      rw [HF.out]
      exact pl_tuple (pl_of (by omega) (by omega))
    · have HF := Lib.hid (placeI_Y e1 e2 ((hasPl_iff _ _).2 (by omega)))
      clear placeI_Y placeI_N
      go_enter Try.func119, Try.ntmps119
      go_wp2_with (first | (go_at_call 123; refine (isSegment_c _ _ _ _ _).mono ?_; rintro e w1 ⟨rfl, hb⟩; (try replace hb := below_trans (by with_reducible assumption) hb); obtain ⟨hc, hf⟩ := bcell hb; have hz := hb.size; (try simp at hz); (try have hz0 : w.heap.size ≤ w1.heap.size := by omega); (try have hz1 : w.heap.size < w1.heap.size := by omega); (try have hz2 : w.heap.size + 1 < w1.heap.size := by omega); (try have hz3 : w.heap.size + 1 + 1 < w1.heap.size := by omega); (try have hz4 : w.heap.size + 1 + 1 + 1 < w1.heap.size := by omega)))
      refine wp_region_later (by kernel_rfl) (by kernel_rfl) ?_
      repeat (first | go_big_quiet_step ((go_at_call 135; exact later_of _ (cross_c _ _ _ _ _ _ _ hP hQ (by assumption)))) | quiet_step ((go_at_call 135; exact later_of _ (cross_c _ _ _ _ _ _ _ hP hQ (by assumption)))))
      refine wpQuiet_nil ?_
      intro _ hw'
      obtain ⟨s1, hw''⟩ := hw'
      subst hw''
      have hb1 := s1.below
      generalize s1.w = w1 at hb1 ⊢
      clear s1
      try replace hb1 := below_trans (by with_reducible assumption) hb1
      obtain ⟨hc1, hf1⟩ := bcell hb1
      have hz1 := hb1.size
      try simp at hz1
      try have hz10 : w.heap.size ≤ w1.heap.size := by omega
      try have hz11 : w.heap.size < w1.heap.size := by omega
      try have hz12 : w.heap.size + 1 < w1.heap.size := by omega
      try have hz13 : w.heap.size + 1 + 1 < w1.heap.size := by omega
      try have hz14 : w.heap.size + 1 + 1 + 1 < w1.heap.size := by omega
      go_wp2_with (go_at_call 136; refine (lowest_c _ _ _ (by omega) (by omega) (by omega) (by omega)).mono ?_; rintro e w1 ⟨rfl, hb⟩; (try replace hb := below_trans (by with_reducible assumption) hb); obtain ⟨hc, hf⟩ := bcell hb; have hz := hb.size; (try simp at hz); (try have hz0 : w.heap.size ≤ w1.heap.size := by omega); (try have hz1 : w.heap.size < w1.heap.size := by omega); (try have hz2 : w.heap.size + 1 < w1.heap.size := by omega); (try have hz3 : w.heap.size + 1 + 1 < w1.heap.size := by omega); (try have hz4 : w.heap.size + 1 + 1 + 1 < w1.heap.size := by omega))
      refine bodyPost_ret (v := .tuple #[.agg #[.int .i64 (lowN _ _), .int .i64 (lowD _ _)], .int .i64 0]) (by simp [results, Try.results119, go_sem, *]; exact ⟨rfl, rfl⟩) rfl ⟨?_, (by repeat (first | with_reducible exact Below.refl _ _ | with_reducible assumption | with_reducible refine Below.drew ?_ | with_reducible refine Below.alloc ?_ (by first | exact Nat.le_refl _ | (simp; done) | (simp; omega) | omega) _ | with_reducible refine Below.setCell ?_ (by first | exact Nat.le_refl _ | (simp; done) | (simp; omega) | omega) _ | with_reducible refine Below.trans ?_ (Below.mono (by with_reducible assumption) (by first | exact Nat.le_refl _ | (simp; done) | (simp; omega) | omega))))⟩
      rw [HF.out]
      exact pl_tuple (pl_of (by omega) (by omega))
  · rcases Int.lt_trichotomy b 0 with hb | rfl | hb
    · have HF := Lib.hid (placeI_Y e1 e2 ((hasPl_iff _ _).2 (by omega)))
      clear placeI_Y placeI_N
      go_enter Try.func119, Try.ntmps119
      go_wp2_with (first | (go_at_call 123; refine (isSegment_c _ _ _ _ _).mono ?_; rintro e w1 ⟨rfl, hb⟩; (try replace hb := below_trans (by with_reducible assumption) hb); obtain ⟨hc, hf⟩ := bcell hb; have hz := hb.size; (try simp at hz); (try have hz0 : w.heap.size ≤ w1.heap.size := by omega); (try have hz1 : w.heap.size < w1.heap.size := by omega); (try have hz2 : w.heap.size + 1 < w1.heap.size := by omega); (try have hz3 : w.heap.size + 1 + 1 < w1.heap.size := by omega); (try have hz4 : w.heap.size + 1 + 1 + 1 < w1.heap.size := by omega)))
      refine wp_region_later (by kernel_rfl) (by kernel_rfl) ?_
      repeat (first | go_big_quiet_step ((go_at_call 135; exact later_of _ (cross_c _ _ _ _ _ _ _ hP hQ (by assumption)))) | quiet_step ((go_at_call 135; exact later_of _ (cross_c _ _ _ _ _ _ _ hP hQ (by assumption)))))
      refine wpQuiet_nil ?_
      intro _ hw'
      obtain ⟨s1, hw''⟩ := hw'
      subst hw''
      have hb1 := s1.below
      generalize s1.w = w1 at hb1 ⊢
      clear s1
      try replace hb1 := below_trans (by with_reducible assumption) hb1
      obtain ⟨hc1, hf1⟩ := bcell hb1
      have hz1 := hb1.size
      try simp at hz1
      try have hz10 : w.heap.size ≤ w1.heap.size := by omega
      try have hz11 : w.heap.size < w1.heap.size := by omega
      try have hz12 : w.heap.size + 1 < w1.heap.size := by omega
      try have hz13 : w.heap.size + 1 + 1 < w1.heap.size := by omega
      try have hz14 : w.heap.size + 1 + 1 + 1 < w1.heap.size := by omega
      go_wp2_with (go_at_call 136; refine (lowest_c _ _ _ (by omega) (by omega) (by omega) (by omega)).mono ?_; rintro e w1 ⟨rfl, hb⟩; (try replace hb := below_trans (by with_reducible assumption) hb); obtain ⟨hc, hf⟩ := bcell hb; have hz := hb.size; (try simp at hz); (try have hz0 : w.heap.size ≤ w1.heap.size := by omega); (try have hz1 : w.heap.size < w1.heap.size := by omega); (try have hz2 : w.heap.size + 1 < w1.heap.size := by omega); (try have hz3 : w.heap.size + 1 + 1 < w1.heap.size := by omega); (try have hz4 : w.heap.size + 1 + 1 + 1 < w1.heap.size := by omega))
      refine bodyPost_ret (v := .tuple #[.agg #[.int .i64 (lowN _ _), .int .i64 (lowD _ _)], .int .i64 0]) (by simp [results, Try.results119, go_sem, *]; exact ⟨rfl, rfl⟩) rfl ⟨?_, (by repeat (first | with_reducible exact Below.refl _ _ | with_reducible assumption | with_reducible refine Below.drew ?_ | with_reducible refine Below.alloc ?_ (by first | exact Nat.le_refl _ | (simp; done) | (simp; omega) | omega) _ | with_reducible refine Below.setCell ?_ (by first | exact Nat.le_refl _ | (simp; done) | (simp; omega) | omega) _ | with_reducible refine Below.trans ?_ (Below.mono (by with_reducible assumption) (by first | exact Nat.le_refl _ | (simp; done) | (simp; omega) | omega))))⟩
      rw [HF.out]
      exact pl_tuple (pl_of (by omega) (by omega))
    · have HF := Lib.hid (placeI_N e1 e2 (hasPl_no (by omega)))
      clear placeI_Y placeI_N
      go_enter Try.func119, Try.ntmps119
      go_wp2_with (first | (go_at_call 123; refine (isSegment_c _ _ _ _ _).mono ?_; rintro e w1 ⟨rfl, hb⟩; (try replace hb := below_trans (by with_reducible assumption) hb); obtain ⟨hc, hf⟩ := bcell hb; have hz := hb.size; (try simp at hz); (try have hz0 : w.heap.size ≤ w1.heap.size := by omega); (try have hz1 : w.heap.size < w1.heap.size := by omega); (try have hz2 : w.heap.size + 1 < w1.heap.size := by omega); (try have hz3 : w.heap.size + 1 + 1 < w1.heap.size := by omega); (try have hz4 : w.heap.size + 1 + 1 + 1 < w1.heap.size := by omega)))
      refine wp_region_later (by kernel_rfl) (by kernel_rfl) ?_
      repeat (first | go_big_quiet_step ((go_at_call 135; exact later_of _ (cross_c _ _ _ _ _ _ _ hP hQ (by assumption)))) | quiet_step ((go_at_call 135; exact later_of _ (cross_c _ _ _ _ _ _ _ hP hQ (by assumption)))))
      refine wpQuiet_nil ?_
      intro _ hw'
      obtain ⟨s1, hw''⟩ := hw'
      subst hw''
      have hb1 := s1.below
      generalize s1.w = w1 at hb1 ⊢
      clear s1
      try replace hb1 := below_trans (by with_reducible assumption) hb1
      obtain ⟨hc1, hf1⟩ := bcell hb1
      have hz1 := hb1.size
      try simp at hz1
      try have hz10 : w.heap.size ≤ w1.heap.size := by omega
      try have hz11 : w.heap.size < w1.heap.size := by omega
      try have hz12 : w.heap.size + 1 < w1.heap.size := by omega
      try have hz13 : w.heap.size + 1 + 1 < w1.heap.size := by omega
      try have hz14 : w.heap.size + 1 + 1 + 1 < w1.heap.size := by omega
      go_wp2_with (go_at_call 136; refine (lowest_c _ _ _ (by omega) (by omega) (by omega) (by omega)).mono ?_; rintro e w1 ⟨rfl, hb⟩; (try replace hb := below_trans (by with_reducible assumption) hb); obtain ⟨hc, hf⟩ := bcell hb; have hz := hb.size; (try simp at hz); (try have hz0 : w.heap.size ≤ w1.heap.size := by omega); (try have hz1 : w.heap.size < w1.heap.size := by omega); (try have hz2 : w.heap.size + 1 < w1.heap.size := by omega); (try have hz3 : w.heap.size + 1 + 1 < w1.heap.size := by omega); (try have hz4 : w.heap.size + 1 + 1 + 1 < w1.heap.size := by omega))
      exact bodyPost_ret (v := .tuple #[.agg #[.int .i64 0, .int .i64 0], .int .i64 4]) (by simp [results, Try.results119, go_sem, *]) rfl ⟨by rw [HF.out], (by repeat (first | with_reducible exact Below.refl _ _ | with_reducible assumption | with_reducible refine Below.drew ?_ | with_reducible refine Below.alloc ?_ (by first | exact Nat.le_refl _ | (simp; done) | (simp; omega) | omega) _ | with_reducible refine Below.setCell ?_ (by first | exact Nat.le_refl _ | (simp; done) | (simp; omega) | omega) _ | with_reducible refine Below.trans ?_ (Below.mono (by with_reducible assumption) (by first | exact Nat.le_refl _ | (simp; done) | (simp; omega) | omega))))⟩
    · have HF := Lib.hid (placeI_Y e1 e2 ((hasPl_iff _ _).2 (by omega)))
      clear placeI_Y placeI_N
      go_enter Try.func119, Try.ntmps119
      go_wp2_with (first | (go_at_call 123; refine (isSegment_c _ _ _ _ _).mono ?_; rintro e w1 ⟨rfl, hb⟩; (try replace hb := below_trans (by with_reducible assumption) hb); obtain ⟨hc, hf⟩ := bcell hb; have hz := hb.size; (try simp at hz); (try have hz0 : w.heap.size ≤ w1.heap.size := by omega); (try have hz1 : w.heap.size < w1.heap.size := by omega); (try have hz2 : w.heap.size + 1 < w1.heap.size := by omega); (try have hz3 : w.heap.size + 1 + 1 < w1.heap.size := by omega); (try have hz4 : w.heap.size + 1 + 1 + 1 < w1.heap.size := by omega)))
      refine wp_region_later (by kernel_rfl) (by kernel_rfl) ?_
      repeat (first | go_big_quiet_step ((go_at_call 135; exact later_of _ (cross_c _ _ _ _ _ _ _ hP hQ (by assumption)))) | quiet_step ((go_at_call 135; exact later_of _ (cross_c _ _ _ _ _ _ _ hP hQ (by assumption)))))
      refine wpQuiet_nil ?_
      intro _ hw'
      obtain ⟨s1, hw''⟩ := hw'
      subst hw''
      have hb1 := s1.below
      generalize s1.w = w1 at hb1 ⊢
      clear s1
      try replace hb1 := below_trans (by with_reducible assumption) hb1
      obtain ⟨hc1, hf1⟩ := bcell hb1
      have hz1 := hb1.size
      try simp at hz1
      try have hz10 : w.heap.size ≤ w1.heap.size := by omega
      try have hz11 : w.heap.size < w1.heap.size := by omega
      try have hz12 : w.heap.size + 1 < w1.heap.size := by omega
      try have hz13 : w.heap.size + 1 + 1 < w1.heap.size := by omega
      try have hz14 : w.heap.size + 1 + 1 + 1 < w1.heap.size := by omega
      go_wp2_with (go_at_call 136; refine (lowest_c _ _ _ (by omega) (by omega) (by omega) (by omega)).mono ?_; rintro e w1 ⟨rfl, hb⟩; (try replace hb := below_trans (by with_reducible assumption) hb); obtain ⟨hc, hf⟩ := bcell hb; have hz := hb.size; (try simp at hz); (try have hz0 : w.heap.size ≤ w1.heap.size := by omega); (try have hz1 : w.heap.size < w1.heap.size := by omega); (try have hz2 : w.heap.size + 1 < w1.heap.size := by omega); (try have hz3 : w.heap.size + 1 + 1 < w1.heap.size := by omega); (try have hz4 : w.heap.size + 1 + 1 + 1 < w1.heap.size := by omega))
      refine bodyPost_ret (v := .tuple #[.agg #[.int .i64 (lowN _ _), .int .i64 (lowD _ _)], .int .i64 0]) (by simp [results, Try.results119, go_sem, *]; exact ⟨rfl, rfl⟩) rfl ⟨?_, (by repeat (first | with_reducible exact Below.refl _ _ | with_reducible assumption | with_reducible refine Below.drew ?_ | with_reducible refine Below.alloc ?_ (by first | exact Nat.le_refl _ | (simp; done) | (simp; omega) | omega) _ | with_reducible refine Below.setCell ?_ (by first | exact Nat.le_refl _ | (simp; done) | (simp; omega) | omega) _ | with_reducible refine Below.trans ?_ (Below.mono (by with_reducible assumption) (by first | exact Nat.le_refl _ | (simp; done) | (simp; omega) | omega))))⟩
      rw [HF.out]
      exact pl_tuple (pl_of (by omega) (by omega))
  · rcases Int.lt_trichotomy b 0 with hb | rfl | hb
    · have HF := Lib.hid (placeI_Y e1 e2 ((hasPl_iff _ _).2 (by omega)))
      clear placeI_Y placeI_N
      go_enter Try.func119, Try.ntmps119
      go_wp2_with (first | (go_at_call 123; refine (isSegment_c _ _ _ _ _).mono ?_; rintro e w1 ⟨rfl, hb⟩; (try replace hb := below_trans (by with_reducible assumption) hb); obtain ⟨hc, hf⟩ := bcell hb; have hz := hb.size; (try simp at hz); (try have hz0 : w.heap.size ≤ w1.heap.size := by omega); (try have hz1 : w.heap.size < w1.heap.size := by omega); (try have hz2 : w.heap.size + 1 < w1.heap.size := by omega); (try have hz3 : w.heap.size + 1 + 1 < w1.heap.size := by omega); (try have hz4 : w.heap.size + 1 + 1 + 1 < w1.heap.size := by omega)))
      refine wp_region_later (by kernel_rfl) (by kernel_rfl) ?_
      repeat (first | go_big_quiet_step ((go_at_call 135; exact later_of _ (cross_c _ _ _ _ _ _ _ hP hQ (by assumption)))) | quiet_step ((go_at_call 135; exact later_of _ (cross_c _ _ _ _ _ _ _ hP hQ (by assumption)))))
      refine wpQuiet_nil ?_
      intro _ hw'
      obtain ⟨s1, hw''⟩ := hw'
      subst hw''
      have hb1 := s1.below
      generalize s1.w = w1 at hb1 ⊢
      clear s1
      try replace hb1 := below_trans (by with_reducible assumption) hb1
      obtain ⟨hc1, hf1⟩ := bcell hb1
      have hz1 := hb1.size
      try simp at hz1
      try have hz10 : w.heap.size ≤ w1.heap.size := by omega
      try have hz11 : w.heap.size < w1.heap.size := by omega
      try have hz12 : w.heap.size + 1 < w1.heap.size := by omega
      try have hz13 : w.heap.size + 1 + 1 < w1.heap.size := by omega
      try have hz14 : w.heap.size + 1 + 1 + 1 < w1.heap.size := by omega
      go_wp2_with (go_at_call 136; refine (lowest_c _ _ _ (by omega) (by omega) (by omega) (by omega)).mono ?_; rintro e w1 ⟨rfl, hb⟩; (try replace hb := below_trans (by with_reducible assumption) hb); obtain ⟨hc, hf⟩ := bcell hb; have hz := hb.size; (try simp at hz); (try have hz0 : w.heap.size ≤ w1.heap.size := by omega); (try have hz1 : w.heap.size < w1.heap.size := by omega); (try have hz2 : w.heap.size + 1 < w1.heap.size := by omega); (try have hz3 : w.heap.size + 1 + 1 < w1.heap.size := by omega); (try have hz4 : w.heap.size + 1 + 1 + 1 < w1.heap.size := by omega))
      refine bodyPost_ret (v := .tuple #[.agg #[.int .i64 (lowN _ _), .int .i64 (lowD _ _)], .int .i64 0]) (by simp [results, Try.results119, go_sem, *]; exact ⟨rfl, rfl⟩) rfl ⟨?_, (by repeat (first | with_reducible exact Below.refl _ _ | with_reducible assumption | with_reducible refine Below.drew ?_ | with_reducible refine Below.alloc ?_ (by first | exact Nat.le_refl _ | (simp; done) | (simp; omega) | omega) _ | with_reducible refine Below.setCell ?_ (by first | exact Nat.le_refl _ | (simp; done) | (simp; omega) | omega) _ | with_reducible refine Below.trans ?_ (Below.mono (by with_reducible assumption) (by first | exact Nat.le_refl _ | (simp; done) | (simp; omega) | omega))))⟩
      rw [HF.out]
      exact pl_tuple (pl_of (by omega) (by omega))
    · have HF := Lib.hid (placeI_Y e1 e2 ((hasPl_iff _ _).2 (by omega)))
      clear placeI_Y placeI_N
      go_enter Try.func119, Try.ntmps119
      go_wp2_with (first | (go_at_call 123; refine (isSegment_c _ _ _ _ _).mono ?_; rintro e w1 ⟨rfl, hb⟩; (try replace hb := below_trans (by with_reducible assumption) hb); obtain ⟨hc, hf⟩ := bcell hb; have hz := hb.size; (try simp at hz); (try have hz0 : w.heap.size ≤ w1.heap.size := by omega); (try have hz1 : w.heap.size < w1.heap.size := by omega); (try have hz2 : w.heap.size + 1 < w1.heap.size := by omega); (try have hz3 : w.heap.size + 1 + 1 < w1.heap.size := by omega); (try have hz4 : w.heap.size + 1 + 1 + 1 < w1.heap.size := by omega)))
      refine wp_region_later (by kernel_rfl) (by kernel_rfl) ?_
      repeat (first | go_big_quiet_step ((go_at_call 135; exact later_of _ (cross_c _ _ _ _ _ _ _ hP hQ (by assumption)))) | quiet_step ((go_at_call 135; exact later_of _ (cross_c _ _ _ _ _ _ _ hP hQ (by assumption)))))
      refine wpQuiet_nil ?_
      intro _ hw'
      obtain ⟨s1, hw''⟩ := hw'
      subst hw''
      have hb1 := s1.below
      generalize s1.w = w1 at hb1 ⊢
      clear s1
      try replace hb1 := below_trans (by with_reducible assumption) hb1
      obtain ⟨hc1, hf1⟩ := bcell hb1
      have hz1 := hb1.size
      try simp at hz1
      try have hz10 : w.heap.size ≤ w1.heap.size := by omega
      try have hz11 : w.heap.size < w1.heap.size := by omega
      try have hz12 : w.heap.size + 1 < w1.heap.size := by omega
      try have hz13 : w.heap.size + 1 + 1 < w1.heap.size := by omega
      try have hz14 : w.heap.size + 1 + 1 + 1 < w1.heap.size := by omega
      go_wp2_with (go_at_call 136; refine (lowest_c _ _ _ (by omega) (by omega) (by omega) (by omega)).mono ?_; rintro e w1 ⟨rfl, hb⟩; (try replace hb := below_trans (by with_reducible assumption) hb); obtain ⟨hc, hf⟩ := bcell hb; have hz := hb.size; (try simp at hz); (try have hz0 : w.heap.size ≤ w1.heap.size := by omega); (try have hz1 : w.heap.size < w1.heap.size := by omega); (try have hz2 : w.heap.size + 1 < w1.heap.size := by omega); (try have hz3 : w.heap.size + 1 + 1 < w1.heap.size := by omega); (try have hz4 : w.heap.size + 1 + 1 + 1 < w1.heap.size := by omega))
      refine bodyPost_ret (v := .tuple #[.agg #[.int .i64 (lowN _ _), .int .i64 (lowD _ _)], .int .i64 0]) (by simp [results, Try.results119, go_sem, *]; exact ⟨rfl, rfl⟩) rfl ⟨?_, (by repeat (first | with_reducible exact Below.refl _ _ | with_reducible assumption | with_reducible refine Below.drew ?_ | with_reducible refine Below.alloc ?_ (by first | exact Nat.le_refl _ | (simp; done) | (simp; omega) | omega) _ | with_reducible refine Below.setCell ?_ (by first | exact Nat.le_refl _ | (simp; done) | (simp; omega) | omega) _ | with_reducible refine Below.trans ?_ (Below.mono (by with_reducible assumption) (by first | exact Nat.le_refl _ | (simp; done) | (simp; omega) | omega))))⟩
      rw [HF.out]
      exact pl_tuple (pl_of (by omega) (by omega))
    · have HF := Lib.hid (placeI_N e1 e2 (hasPl_no (by omega)))
      clear placeI_Y placeI_N
      go_enter Try.func119, Try.ntmps119
      go_wp2_with (first | (go_at_call 123; refine (isSegment_c _ _ _ _ _).mono ?_; rintro e w1 ⟨rfl, hb⟩; (try replace hb := below_trans (by with_reducible assumption) hb); obtain ⟨hc, hf⟩ := bcell hb; have hz := hb.size; (try simp at hz); (try have hz0 : w.heap.size ≤ w1.heap.size := by omega); (try have hz1 : w.heap.size < w1.heap.size := by omega); (try have hz2 : w.heap.size + 1 < w1.heap.size := by omega); (try have hz3 : w.heap.size + 1 + 1 < w1.heap.size := by omega); (try have hz4 : w.heap.size + 1 + 1 + 1 < w1.heap.size := by omega)))
      refine wp_region_later (by kernel_rfl) (by kernel_rfl) ?_
      repeat (first | go_big_quiet_step ((go_at_call 135; exact later_of _ (cross_c _ _ _ _ _ _ _ hP hQ (by assumption)))) | quiet_step ((go_at_call 135; exact later_of _ (cross_c _ _ _ _ _ _ _ hP hQ (by assumption)))))
      refine wpQuiet_nil ?_
      intro _ hw'
      obtain ⟨s1, hw''⟩ := hw'
      subst hw''
      have hb1 := s1.below
      generalize s1.w = w1 at hb1 ⊢
      clear s1
      try replace hb1 := below_trans (by with_reducible assumption) hb1
      obtain ⟨hc1, hf1⟩ := bcell hb1
      have hz1 := hb1.size
      try simp at hz1
      try have hz10 : w.heap.size ≤ w1.heap.size := by omega
      try have hz11 : w.heap.size < w1.heap.size := by omega
      try have hz12 : w.heap.size + 1 < w1.heap.size := by omega
      try have hz13 : w.heap.size + 1 + 1 < w1.heap.size := by omega
      try have hz14 : w.heap.size + 1 + 1 + 1 < w1.heap.size := by omega
      go_wp2_with (go_at_call 136; refine (lowest_c _ _ _ (by omega) (by omega) (by omega) (by omega)).mono ?_; rintro e w1 ⟨rfl, hb⟩; (try replace hb := below_trans (by with_reducible assumption) hb); obtain ⟨hc, hf⟩ := bcell hb; have hz := hb.size; (try simp at hz); (try have hz0 : w.heap.size ≤ w1.heap.size := by omega); (try have hz1 : w.heap.size < w1.heap.size := by omega); (try have hz2 : w.heap.size + 1 < w1.heap.size := by omega); (try have hz3 : w.heap.size + 1 + 1 < w1.heap.size := by omega); (try have hz4 : w.heap.size + 1 + 1 + 1 < w1.heap.size := by omega))
      exact bodyPost_ret (v := .tuple #[.agg #[.int .i64 0, .int .i64 0], .int .i64 4]) (by simp [results, Try.results119, go_sem, *]) rfl ⟨by rw [HF.out], (by repeat (first | with_reducible exact Below.refl _ _ | with_reducible assumption | with_reducible refine Below.drew ?_ | with_reducible refine Below.alloc ?_ (by first | exact Nat.le_refl _ | (simp; done) | (simp; omega) | omega) _ | with_reducible refine Below.setCell ?_ (by first | exact Nat.le_refl _ | (simp; done) | (simp; omega) | omega) _ | with_reducible refine Below.trans ?_ (Below.mono (by with_reducible assumption) (by first | exact Nat.le_refl _ | (simp; done) | (simp; omega) | omega))))⟩
def lPl (a b : Int) : Int × Int × Bool := if hasPl a b then (plN a b, plD a b, true) else (0, 0, false)
theorem lPl_Y {a b : Int} (h : hasPl a b = true) : lPl a b = (plN a b, plD a b, true) := by simp [lPl, h]
theorem lPl_N {a b : Int} (h : hasPl a b = false) : lPl a b = (0, 0, false) := by simp [lPl, h]
set_option maxHeartbeats 4000000 in
theorem l02Place_c (ax ay bx cy px py qx qy : Int) (w : World) (hA : isPt ax ay = true) (hB : isPt bx cy = true) (hP : isPt px py = true) (hQ : isPt qx qy = true) : Calls Try.prog 118 #[.agg #[.int .i64 ax, .int .i64 ay, .int .i64 bx, .int .i64 cy], .agg #[.int .i64 px, .int .i64 py, .int .i64 qx, .int .i64 qy]] w fun e w' => e = .returned (.tuple #[.agg #[.int .i64 (lPl (crossZ px py qx qy ax ay) (crossZ px py qx qy bx cy)).1, .int .i64 (lPl (crossZ px py qx qy ax ay) (crossZ px py qx qy bx cy)).2.1], .bool (lPl (crossZ px py qx qy ax ay) (crossZ px py qx qy bx cy)).2.2]) ∧ Below w.heap.size w w' := by
  have s0 : sgn 0 = 0 := rfl
  have v1 := isVec_sub hQ hP
  have v2 := isVec_sub hA hP
  have v3 := isVec_sub hB hP
  have c1 := fun w => l01Cross_c (qx - px) (qy - py) (ax - px) (ay - py) w v1 v2
  have c2 := fun w => l01Cross_c (qx - px) (qy - py) (bx - px) (cy - py) w v1 v3
  rw [show (qx - px) * (ay - py) - (qy - py) * (ax - px) = crossZ px py qx qy ax ay from rfl] at c1
  rw [show (qx - px) * (cy - py) - (qy - py) * (bx - px) = crossZ px py qx qy bx cy from rfl] at c2
  generalize e1 : crossZ px py qx qy ax ay = a at *
  generalize e2 : crossZ px py qx qy bx cy = b at *
  obtain ⟨a1, a2⟩ := cross_bd e1 hP hQ hA
  obtain ⟨b1, b2⟩ := cross_bd e2 hP hQ hB
  clear e1 e2
  rcases Int.lt_trichotomy a 0 with ha | rfl | ha
  · rcases Int.lt_trichotomy b 0 with hb | rfl | hb
    · have HF := Lib.hid (lPl_N (a := a) (b := b) (hasPl_no (by omega)))
      have sa := sgn_m ha
      have sb := sgn_m hb
      have C1 := Lib.hid c1
      have C2 := Lib.hid c2
      clear c1 c2
      go_enter Try.func118, Try.ntmps118
      go_wp2_with fail
      refine wp_region_later (by kernel_rfl) (by kernel_rfl) ?_
      repeat (first | go_big_quiet_step ((first | (go_at_call 105; exact later_of _ (l01Minus_c _ _ _ _ _ (by assumption) (by assumption))) | (go_at_call 133; exact later_of _ (C1.out _)))) | quiet_step ((first | (go_at_call 105; exact later_of _ (l01Minus_c _ _ _ _ _ (by assumption) (by assumption))) | (go_at_call 133; exact later_of _ (C1.out _)))))
      refine wpQuiet_nil ?_
      intro _ hw'
      obtain ⟨s1, hw''⟩ := hw'
      subst hw''
      have hb1 := s1.below
      generalize s1.w = w1 at hb1 ⊢
      clear s1
      try replace hb1 := below_trans (by with_reducible assumption) hb1
      obtain ⟨hc1, hf1⟩ := bcell hb1
      have hz1 := hb1.size
      try simp at hz1
      try have hz10 : w.heap.size ≤ w1.heap.size := by omega
      try have hz11 : w.heap.size < w1.heap.size := by omega
      try have hz12 : w.heap.size + 1 < w1.heap.size := by omega
      try have hz13 : w.heap.size + 1 + 1 < w1.heap.size := by omega
      try have hz14 : w.heap.size + 1 + 1 + 1 < w1.heap.size := by omega
      go_wp2_with fail
      refine wp_region_later (by kernel_rfl) (by kernel_rfl) ?_
      repeat (first | go_big_quiet_step ((first | (go_at_call 105; exact later_of _ (l01Minus_c _ _ _ _ _ (by assumption) (by assumption))) | (go_at_call 133; exact later_of _ (C2.out _)))) | quiet_step ((first | (go_at_call 105; exact later_of _ (l01Minus_c _ _ _ _ _ (by assumption) (by assumption))) | (go_at_call 133; exact later_of _ (C2.out _)))))
      refine wpQuiet_nil ?_
      intro _ hw'
      obtain ⟨s2, hw''⟩ := hw'
      subst hw''
      have hb2 := s2.below
      generalize s2.w = w2 at hb2 ⊢
      clear s2
      try replace hb2 := below_trans (by with_reducible assumption) hb2
      obtain ⟨hc2, hf2⟩ := bcell hb2
      have hz2 := hb2.size
      try simp at hz2
      try have hz20 : w.heap.size ≤ w2.heap.size := by omega
      try have hz21 : w.heap.size < w2.heap.size := by omega
      try have hz22 : w.heap.size + 1 < w2.heap.size := by omega
      try have hz23 : w.heap.size + 1 + 1 < w2.heap.size := by omega
      try have hz24 : w.heap.size + 1 + 1 + 1 < w2.heap.size := by omega
      go_wp2_with (first | (go_at_call 111; refine (l01Sign_c _ _).mono ?_; rintro e w' ⟨rfl, rfl⟩) | (go_at_call 134; refine (l02Ratio_c _ _ _ (by omega) (by omega) (by omega) (by omega)).mono ?_; rintro e w1 ⟨rfl, hb⟩; (try replace hb := below_trans (by with_reducible assumption) hb); obtain ⟨hc, hf⟩ := bcell hb; have hz := hb.size; (try simp at hz); (try have hz0 : w.heap.size ≤ w1.heap.size := by omega); (try have hz1 : w.heap.size < w1.heap.size := by omega); (try have hz2 : w.heap.size + 1 < w1.heap.size := by omega); (try have hz3 : w.heap.size + 1 + 1 < w1.heap.size := by omega); (try have hz4 : w.heap.size + 1 + 1 + 1 < w1.heap.size := by omega)))
      exact bodyPost_ret (v := .tuple #[.agg #[.int .i64 0, .int .i64 0], .bool false]) (by simp [results, Try.results118, go_sem, *]) rfl ⟨by rw [HF.out], (by repeat (first | with_reducible exact Below.refl _ _ | with_reducible assumption | with_reducible refine Below.drew ?_ | with_reducible refine Below.alloc ?_ (by first | exact Nat.le_refl _ | (simp; done) | (simp; omega) | omega) _ | with_reducible refine Below.setCell ?_ (by first | exact Nat.le_refl _ | (simp; done) | (simp; omega) | omega) _ | with_reducible refine Below.trans ?_ (Below.mono (by with_reducible assumption) (by first | exact Nat.le_refl _ | (simp; done) | (simp; omega) | omega))))⟩
    · have HF := Lib.hid (lPl_Y (a := a) (b := 0) ((hasPl_iff _ _).2 (by omega)))
      have sa := sgn_m ha
      have C1 := Lib.hid c1
      have C2 := Lib.hid c2
      clear c1 c2
      go_enter Try.func118, Try.ntmps118
      go_wp2_with fail
      refine wp_region_later (by kernel_rfl) (by kernel_rfl) ?_
      repeat (first | go_big_quiet_step ((first | (go_at_call 105; exact later_of _ (l01Minus_c _ _ _ _ _ (by assumption) (by assumption))) | (go_at_call 133; exact later_of _ (C1.out _)))) | quiet_step ((first | (go_at_call 105; exact later_of _ (l01Minus_c _ _ _ _ _ (by assumption) (by assumption))) | (go_at_call 133; exact later_of _ (C1.out _)))))
      refine wpQuiet_nil ?_
      intro _ hw'
      obtain ⟨s1, hw''⟩ := hw'
      subst hw''
      have hb1 := s1.below
      generalize s1.w = w1 at hb1 ⊢
      clear s1
      try replace hb1 := below_trans (by with_reducible assumption) hb1
      obtain ⟨hc1, hf1⟩ := bcell hb1
      have hz1 := hb1.size
      try simp at hz1
      try have hz10 : w.heap.size ≤ w1.heap.size := by omega
      try have hz11 : w.heap.size < w1.heap.size := by omega
      try have hz12 : w.heap.size + 1 < w1.heap.size := by omega
      try have hz13 : w.heap.size + 1 + 1 < w1.heap.size := by omega
      try have hz14 : w.heap.size + 1 + 1 + 1 < w1.heap.size := by omega
      go_wp2_with fail
      refine wp_region_later (by kernel_rfl) (by kernel_rfl) ?_
      repeat (first | go_big_quiet_step ((first | (go_at_call 105; exact later_of _ (l01Minus_c _ _ _ _ _ (by assumption) (by assumption))) | (go_at_call 133; exact later_of _ (C2.out _)))) | quiet_step ((first | (go_at_call 105; exact later_of _ (l01Minus_c _ _ _ _ _ (by assumption) (by assumption))) | (go_at_call 133; exact later_of _ (C2.out _)))))
      refine wpQuiet_nil ?_
      intro _ hw'
      obtain ⟨s2, hw''⟩ := hw'
      subst hw''
      have hb2 := s2.below
      generalize s2.w = w2 at hb2 ⊢
      clear s2
      try replace hb2 := below_trans (by with_reducible assumption) hb2
      obtain ⟨hc2, hf2⟩ := bcell hb2
      have hz2 := hb2.size
      try simp at hz2
      try have hz20 : w.heap.size ≤ w2.heap.size := by omega
      try have hz21 : w.heap.size < w2.heap.size := by omega
      try have hz22 : w.heap.size + 1 < w2.heap.size := by omega
      try have hz23 : w.heap.size + 1 + 1 < w2.heap.size := by omega
      try have hz24 : w.heap.size + 1 + 1 + 1 < w2.heap.size := by omega
      go_wp2_with (first | (go_at_call 111; refine (l01Sign_c _ _).mono ?_; rintro e w' ⟨rfl, rfl⟩) | (go_at_call 134; refine (l02Ratio_c _ _ _ (by omega) (by omega) (by omega) (by omega)).mono ?_; rintro e w1 ⟨rfl, hb⟩; (try replace hb := below_trans (by with_reducible assumption) hb); obtain ⟨hc, hf⟩ := bcell hb; have hz := hb.size; (try simp at hz); (try have hz0 : w.heap.size ≤ w1.heap.size := by omega); (try have hz1 : w.heap.size < w1.heap.size := by omega); (try have hz2 : w.heap.size + 1 < w1.heap.size := by omega); (try have hz3 : w.heap.size + 1 + 1 < w1.heap.size := by omega); (try have hz4 : w.heap.size + 1 + 1 + 1 < w1.heap.size := by omega)))
      exact bodyPost_ret (v := .tuple #[.agg #[.int .i64 (plN a 0), .int .i64 (plD a 0)], .bool true]) (by simp [results, Try.results118, go_sem, *]; exact ⟨(pl_of (by omega) (by omega)).1, (pl_of (by omega) (by omega)).2⟩) rfl ⟨by rw [HF.out], (by repeat (first | with_reducible exact Below.refl _ _ | with_reducible assumption | with_reducible refine Below.drew ?_ | with_reducible refine Below.alloc ?_ (by first | exact Nat.le_refl _ | (simp; done) | (simp; omega) | omega) _ | with_reducible refine Below.setCell ?_ (by first | exact Nat.le_refl _ | (simp; done) | (simp; omega) | omega) _ | with_reducible refine Below.trans ?_ (Below.mono (by with_reducible assumption) (by first | exact Nat.le_refl _ | (simp; done) | (simp; omega) | omega))))⟩
    · have HF := Lib.hid (lPl_Y (a := a) (b := b) ((hasPl_iff _ _).2 (by omega)))
      have sa := sgn_m ha
      have sb := sgn_1 hb
      have C1 := Lib.hid c1
      have C2 := Lib.hid c2
      clear c1 c2
      go_enter Try.func118, Try.ntmps118
      go_wp2_with fail
      refine wp_region_later (by kernel_rfl) (by kernel_rfl) ?_
      repeat (first | go_big_quiet_step ((first | (go_at_call 105; exact later_of _ (l01Minus_c _ _ _ _ _ (by assumption) (by assumption))) | (go_at_call 133; exact later_of _ (C1.out _)))) | quiet_step ((first | (go_at_call 105; exact later_of _ (l01Minus_c _ _ _ _ _ (by assumption) (by assumption))) | (go_at_call 133; exact later_of _ (C1.out _)))))
      refine wpQuiet_nil ?_
      intro _ hw'
      obtain ⟨s1, hw''⟩ := hw'
      subst hw''
      have hb1 := s1.below
      generalize s1.w = w1 at hb1 ⊢
      clear s1
      try replace hb1 := below_trans (by with_reducible assumption) hb1
      obtain ⟨hc1, hf1⟩ := bcell hb1
      have hz1 := hb1.size
      try simp at hz1
      try have hz10 : w.heap.size ≤ w1.heap.size := by omega
      try have hz11 : w.heap.size < w1.heap.size := by omega
      try have hz12 : w.heap.size + 1 < w1.heap.size := by omega
      try have hz13 : w.heap.size + 1 + 1 < w1.heap.size := by omega
      try have hz14 : w.heap.size + 1 + 1 + 1 < w1.heap.size := by omega
      go_wp2_with fail
      refine wp_region_later (by kernel_rfl) (by kernel_rfl) ?_
      repeat (first | go_big_quiet_step ((first | (go_at_call 105; exact later_of _ (l01Minus_c _ _ _ _ _ (by assumption) (by assumption))) | (go_at_call 133; exact later_of _ (C2.out _)))) | quiet_step ((first | (go_at_call 105; exact later_of _ (l01Minus_c _ _ _ _ _ (by assumption) (by assumption))) | (go_at_call 133; exact later_of _ (C2.out _)))))
      refine wpQuiet_nil ?_
      intro _ hw'
      obtain ⟨s2, hw''⟩ := hw'
      subst hw''
      have hb2 := s2.below
      generalize s2.w = w2 at hb2 ⊢
      clear s2
      try replace hb2 := below_trans (by with_reducible assumption) hb2
      obtain ⟨hc2, hf2⟩ := bcell hb2
      have hz2 := hb2.size
      try simp at hz2
      try have hz20 : w.heap.size ≤ w2.heap.size := by omega
      try have hz21 : w.heap.size < w2.heap.size := by omega
      try have hz22 : w.heap.size + 1 < w2.heap.size := by omega
      try have hz23 : w.heap.size + 1 + 1 < w2.heap.size := by omega
      try have hz24 : w.heap.size + 1 + 1 + 1 < w2.heap.size := by omega
      go_wp2_with (first | (go_at_call 111; refine (l01Sign_c _ _).mono ?_; rintro e w' ⟨rfl, rfl⟩) | (go_at_call 134; refine (l02Ratio_c _ _ _ (by omega) (by omega) (by omega) (by omega)).mono ?_; rintro e w1 ⟨rfl, hb⟩; (try replace hb := below_trans (by with_reducible assumption) hb); obtain ⟨hc, hf⟩ := bcell hb; have hz := hb.size; (try simp at hz); (try have hz0 : w.heap.size ≤ w1.heap.size := by omega); (try have hz1 : w.heap.size < w1.heap.size := by omega); (try have hz2 : w.heap.size + 1 < w1.heap.size := by omega); (try have hz3 : w.heap.size + 1 + 1 < w1.heap.size := by omega); (try have hz4 : w.heap.size + 1 + 1 + 1 < w1.heap.size := by omega)))
      exact bodyPost_ret (v := .tuple #[.agg #[.int .i64 (plN a b), .int .i64 (plD a b)], .bool true]) (by simp [results, Try.results118, go_sem, *]; exact ⟨(pl_of (by omega) (by omega)).1, (pl_of (by omega) (by omega)).2⟩) rfl ⟨by rw [HF.out], (by repeat (first | with_reducible exact Below.refl _ _ | with_reducible assumption | with_reducible refine Below.drew ?_ | with_reducible refine Below.alloc ?_ (by first | exact Nat.le_refl _ | (simp; done) | (simp; omega) | omega) _ | with_reducible refine Below.setCell ?_ (by first | exact Nat.le_refl _ | (simp; done) | (simp; omega) | omega) _ | with_reducible refine Below.trans ?_ (Below.mono (by with_reducible assumption) (by first | exact Nat.le_refl _ | (simp; done) | (simp; omega) | omega))))⟩
  · rcases Int.lt_trichotomy b 0 with hb | rfl | hb
    · have HF := Lib.hid (lPl_Y (a := 0) (b := b) ((hasPl_iff _ _).2 (by omega)))
      have sb := sgn_m hb
      have C1 := Lib.hid c1
      have C2 := Lib.hid c2
      clear c1 c2
      go_enter Try.func118, Try.ntmps118
      go_wp2_with fail
      refine wp_region_later (by kernel_rfl) (by kernel_rfl) ?_
      repeat (first | go_big_quiet_step ((first | (go_at_call 105; exact later_of _ (l01Minus_c _ _ _ _ _ (by assumption) (by assumption))) | (go_at_call 133; exact later_of _ (C1.out _)))) | quiet_step ((first | (go_at_call 105; exact later_of _ (l01Minus_c _ _ _ _ _ (by assumption) (by assumption))) | (go_at_call 133; exact later_of _ (C1.out _)))))
      refine wpQuiet_nil ?_
      intro _ hw'
      obtain ⟨s1, hw''⟩ := hw'
      subst hw''
      have hb1 := s1.below
      generalize s1.w = w1 at hb1 ⊢
      clear s1
      try replace hb1 := below_trans (by with_reducible assumption) hb1
      obtain ⟨hc1, hf1⟩ := bcell hb1
      have hz1 := hb1.size
      try simp at hz1
      try have hz10 : w.heap.size ≤ w1.heap.size := by omega
      try have hz11 : w.heap.size < w1.heap.size := by omega
      try have hz12 : w.heap.size + 1 < w1.heap.size := by omega
      try have hz13 : w.heap.size + 1 + 1 < w1.heap.size := by omega
      try have hz14 : w.heap.size + 1 + 1 + 1 < w1.heap.size := by omega
      go_wp2_with fail
      refine wp_region_later (by kernel_rfl) (by kernel_rfl) ?_
      repeat (first | go_big_quiet_step ((first | (go_at_call 105; exact later_of _ (l01Minus_c _ _ _ _ _ (by assumption) (by assumption))) | (go_at_call 133; exact later_of _ (C2.out _)))) | quiet_step ((first | (go_at_call 105; exact later_of _ (l01Minus_c _ _ _ _ _ (by assumption) (by assumption))) | (go_at_call 133; exact later_of _ (C2.out _)))))
      refine wpQuiet_nil ?_
      intro _ hw'
      obtain ⟨s2, hw''⟩ := hw'
      subst hw''
      have hb2 := s2.below
      generalize s2.w = w2 at hb2 ⊢
      clear s2
      try replace hb2 := below_trans (by with_reducible assumption) hb2
      obtain ⟨hc2, hf2⟩ := bcell hb2
      have hz2 := hb2.size
      try simp at hz2
      try have hz20 : w.heap.size ≤ w2.heap.size := by omega
      try have hz21 : w.heap.size < w2.heap.size := by omega
      try have hz22 : w.heap.size + 1 < w2.heap.size := by omega
      try have hz23 : w.heap.size + 1 + 1 < w2.heap.size := by omega
      try have hz24 : w.heap.size + 1 + 1 + 1 < w2.heap.size := by omega
      go_wp2_with (first | (go_at_call 111; refine (l01Sign_c _ _).mono ?_; rintro e w' ⟨rfl, rfl⟩) | (go_at_call 134; refine (l02Ratio_c _ _ _ (by omega) (by omega) (by omega) (by omega)).mono ?_; rintro e w1 ⟨rfl, hb⟩; (try replace hb := below_trans (by with_reducible assumption) hb); obtain ⟨hc, hf⟩ := bcell hb; have hz := hb.size; (try simp at hz); (try have hz0 : w.heap.size ≤ w1.heap.size := by omega); (try have hz1 : w.heap.size < w1.heap.size := by omega); (try have hz2 : w.heap.size + 1 < w1.heap.size := by omega); (try have hz3 : w.heap.size + 1 + 1 < w1.heap.size := by omega); (try have hz4 : w.heap.size + 1 + 1 + 1 < w1.heap.size := by omega)))
      exact bodyPost_ret (v := .tuple #[.agg #[.int .i64 (plN 0 b), .int .i64 (plD 0 b)], .bool true]) (by simp [results, Try.results118, go_sem, *]; exact ⟨(pl_of (by omega) (by omega)).1, (pl_of (by omega) (by omega)).2⟩) rfl ⟨by rw [HF.out], (by repeat (first | with_reducible exact Below.refl _ _ | with_reducible assumption | with_reducible refine Below.drew ?_ | with_reducible refine Below.alloc ?_ (by first | exact Nat.le_refl _ | (simp; done) | (simp; omega) | omega) _ | with_reducible refine Below.setCell ?_ (by first | exact Nat.le_refl _ | (simp; done) | (simp; omega) | omega) _ | with_reducible refine Below.trans ?_ (Below.mono (by with_reducible assumption) (by first | exact Nat.le_refl _ | (simp; done) | (simp; omega) | omega))))⟩
    · have HF := Lib.hid (lPl_N (a := 0) (b := 0) (hasPl_no (by omega)))
      have C1 := Lib.hid c1
      have C2 := Lib.hid c2
      clear c1 c2
      go_enter Try.func118, Try.ntmps118
      go_wp2_with fail
      refine wp_region_later (by kernel_rfl) (by kernel_rfl) ?_
      repeat (first | go_big_quiet_step ((first | (go_at_call 105; exact later_of _ (l01Minus_c _ _ _ _ _ (by assumption) (by assumption))) | (go_at_call 133; exact later_of _ (C1.out _)))) | quiet_step ((first | (go_at_call 105; exact later_of _ (l01Minus_c _ _ _ _ _ (by assumption) (by assumption))) | (go_at_call 133; exact later_of _ (C1.out _)))))
      refine wpQuiet_nil ?_
      intro _ hw'
      obtain ⟨s1, hw''⟩ := hw'
      subst hw''
      have hb1 := s1.below
      generalize s1.w = w1 at hb1 ⊢
      clear s1
      try replace hb1 := below_trans (by with_reducible assumption) hb1
      obtain ⟨hc1, hf1⟩ := bcell hb1
      have hz1 := hb1.size
      try simp at hz1
      try have hz10 : w.heap.size ≤ w1.heap.size := by omega
      try have hz11 : w.heap.size < w1.heap.size := by omega
      try have hz12 : w.heap.size + 1 < w1.heap.size := by omega
      try have hz13 : w.heap.size + 1 + 1 < w1.heap.size := by omega
      try have hz14 : w.heap.size + 1 + 1 + 1 < w1.heap.size := by omega
      go_wp2_with fail
      refine wp_region_later (by kernel_rfl) (by kernel_rfl) ?_
      repeat (first | go_big_quiet_step ((first | (go_at_call 105; exact later_of _ (l01Minus_c _ _ _ _ _ (by assumption) (by assumption))) | (go_at_call 133; exact later_of _ (C2.out _)))) | quiet_step ((first | (go_at_call 105; exact later_of _ (l01Minus_c _ _ _ _ _ (by assumption) (by assumption))) | (go_at_call 133; exact later_of _ (C2.out _)))))
      refine wpQuiet_nil ?_
      intro _ hw'
      obtain ⟨s2, hw''⟩ := hw'
      subst hw''
      have hb2 := s2.below
      generalize s2.w = w2 at hb2 ⊢
      clear s2
      try replace hb2 := below_trans (by with_reducible assumption) hb2
      obtain ⟨hc2, hf2⟩ := bcell hb2
      have hz2 := hb2.size
      try simp at hz2
      try have hz20 : w.heap.size ≤ w2.heap.size := by omega
      try have hz21 : w.heap.size < w2.heap.size := by omega
      try have hz22 : w.heap.size + 1 < w2.heap.size := by omega
      try have hz23 : w.heap.size + 1 + 1 < w2.heap.size := by omega
      try have hz24 : w.heap.size + 1 + 1 + 1 < w2.heap.size := by omega
      go_wp2_with (first | (go_at_call 111; refine (l01Sign_c _ _).mono ?_; rintro e w' ⟨rfl, rfl⟩) | (go_at_call 134; refine (l02Ratio_c _ _ _ (by omega) (by omega) (by omega) (by omega)).mono ?_; rintro e w1 ⟨rfl, hb⟩; (try replace hb := below_trans (by with_reducible assumption) hb); obtain ⟨hc, hf⟩ := bcell hb; have hz := hb.size; (try simp at hz); (try have hz0 : w.heap.size ≤ w1.heap.size := by omega); (try have hz1 : w.heap.size < w1.heap.size := by omega); (try have hz2 : w.heap.size + 1 < w1.heap.size := by omega); (try have hz3 : w.heap.size + 1 + 1 < w1.heap.size := by omega); (try have hz4 : w.heap.size + 1 + 1 + 1 < w1.heap.size := by omega)))
      exact bodyPost_ret (v := .tuple #[.agg #[.int .i64 0, .int .i64 0], .bool false]) (by simp [results, Try.results118, go_sem, *]) rfl ⟨by rw [HF.out], (by repeat (first | with_reducible exact Below.refl _ _ | with_reducible assumption | with_reducible refine Below.drew ?_ | with_reducible refine Below.alloc ?_ (by first | exact Nat.le_refl _ | (simp; done) | (simp; omega) | omega) _ | with_reducible refine Below.setCell ?_ (by first | exact Nat.le_refl _ | (simp; done) | (simp; omega) | omega) _ | with_reducible refine Below.trans ?_ (Below.mono (by with_reducible assumption) (by first | exact Nat.le_refl _ | (simp; done) | (simp; omega) | omega))))⟩
    · have HF := Lib.hid (lPl_Y (a := 0) (b := b) ((hasPl_iff _ _).2 (by omega)))
      have sb := sgn_1 hb
      have C1 := Lib.hid c1
      have C2 := Lib.hid c2
      clear c1 c2
      go_enter Try.func118, Try.ntmps118
      go_wp2_with fail
      refine wp_region_later (by kernel_rfl) (by kernel_rfl) ?_
      repeat (first | go_big_quiet_step ((first | (go_at_call 105; exact later_of _ (l01Minus_c _ _ _ _ _ (by assumption) (by assumption))) | (go_at_call 133; exact later_of _ (C1.out _)))) | quiet_step ((first | (go_at_call 105; exact later_of _ (l01Minus_c _ _ _ _ _ (by assumption) (by assumption))) | (go_at_call 133; exact later_of _ (C1.out _)))))
      refine wpQuiet_nil ?_
      intro _ hw'
      obtain ⟨s1, hw''⟩ := hw'
      subst hw''
      have hb1 := s1.below
      generalize s1.w = w1 at hb1 ⊢
      clear s1
      try replace hb1 := below_trans (by with_reducible assumption) hb1
      obtain ⟨hc1, hf1⟩ := bcell hb1
      have hz1 := hb1.size
      try simp at hz1
      try have hz10 : w.heap.size ≤ w1.heap.size := by omega
      try have hz11 : w.heap.size < w1.heap.size := by omega
      try have hz12 : w.heap.size + 1 < w1.heap.size := by omega
      try have hz13 : w.heap.size + 1 + 1 < w1.heap.size := by omega
      try have hz14 : w.heap.size + 1 + 1 + 1 < w1.heap.size := by omega
      go_wp2_with fail
      refine wp_region_later (by kernel_rfl) (by kernel_rfl) ?_
      repeat (first | go_big_quiet_step ((first | (go_at_call 105; exact later_of _ (l01Minus_c _ _ _ _ _ (by assumption) (by assumption))) | (go_at_call 133; exact later_of _ (C2.out _)))) | quiet_step ((first | (go_at_call 105; exact later_of _ (l01Minus_c _ _ _ _ _ (by assumption) (by assumption))) | (go_at_call 133; exact later_of _ (C2.out _)))))
      refine wpQuiet_nil ?_
      intro _ hw'
      obtain ⟨s2, hw''⟩ := hw'
      subst hw''
      have hb2 := s2.below
      generalize s2.w = w2 at hb2 ⊢
      clear s2
      try replace hb2 := below_trans (by with_reducible assumption) hb2
      obtain ⟨hc2, hf2⟩ := bcell hb2
      have hz2 := hb2.size
      try simp at hz2
      try have hz20 : w.heap.size ≤ w2.heap.size := by omega
      try have hz21 : w.heap.size < w2.heap.size := by omega
      try have hz22 : w.heap.size + 1 < w2.heap.size := by omega
      try have hz23 : w.heap.size + 1 + 1 < w2.heap.size := by omega
      try have hz24 : w.heap.size + 1 + 1 + 1 < w2.heap.size := by omega
      go_wp2_with (first | (go_at_call 111; refine (l01Sign_c _ _).mono ?_; rintro e w' ⟨rfl, rfl⟩) | (go_at_call 134; refine (l02Ratio_c _ _ _ (by omega) (by omega) (by omega) (by omega)).mono ?_; rintro e w1 ⟨rfl, hb⟩; (try replace hb := below_trans (by with_reducible assumption) hb); obtain ⟨hc, hf⟩ := bcell hb; have hz := hb.size; (try simp at hz); (try have hz0 : w.heap.size ≤ w1.heap.size := by omega); (try have hz1 : w.heap.size < w1.heap.size := by omega); (try have hz2 : w.heap.size + 1 < w1.heap.size := by omega); (try have hz3 : w.heap.size + 1 + 1 < w1.heap.size := by omega); (try have hz4 : w.heap.size + 1 + 1 + 1 < w1.heap.size := by omega)))
      exact bodyPost_ret (v := .tuple #[.agg #[.int .i64 (plN 0 b), .int .i64 (plD 0 b)], .bool true]) (by simp [results, Try.results118, go_sem, *]; exact ⟨(pl_of (by omega) (by omega)).1, (pl_of (by omega) (by omega)).2⟩) rfl ⟨by rw [HF.out], (by repeat (first | with_reducible exact Below.refl _ _ | with_reducible assumption | with_reducible refine Below.drew ?_ | with_reducible refine Below.alloc ?_ (by first | exact Nat.le_refl _ | (simp; done) | (simp; omega) | omega) _ | with_reducible refine Below.setCell ?_ (by first | exact Nat.le_refl _ | (simp; done) | (simp; omega) | omega) _ | with_reducible refine Below.trans ?_ (Below.mono (by with_reducible assumption) (by first | exact Nat.le_refl _ | (simp; done) | (simp; omega) | omega))))⟩
  · rcases Int.lt_trichotomy b 0 with hb | rfl | hb
    · have HF := Lib.hid (lPl_Y (a := a) (b := b) ((hasPl_iff _ _).2 (by omega)))
      have sa := sgn_1 ha
      have sb := sgn_m hb
      have C1 := Lib.hid c1
      have C2 := Lib.hid c2
      clear c1 c2
      go_enter Try.func118, Try.ntmps118
      go_wp2_with fail
      refine wp_region_later (by kernel_rfl) (by kernel_rfl) ?_
      repeat (first | go_big_quiet_step ((first | (go_at_call 105; exact later_of _ (l01Minus_c _ _ _ _ _ (by assumption) (by assumption))) | (go_at_call 133; exact later_of _ (C1.out _)))) | quiet_step ((first | (go_at_call 105; exact later_of _ (l01Minus_c _ _ _ _ _ (by assumption) (by assumption))) | (go_at_call 133; exact later_of _ (C1.out _)))))
      refine wpQuiet_nil ?_
      intro _ hw'
      obtain ⟨s1, hw''⟩ := hw'
      subst hw''
      have hb1 := s1.below
      generalize s1.w = w1 at hb1 ⊢
      clear s1
      try replace hb1 := below_trans (by with_reducible assumption) hb1
      obtain ⟨hc1, hf1⟩ := bcell hb1
      have hz1 := hb1.size
      try simp at hz1
      try have hz10 : w.heap.size ≤ w1.heap.size := by omega
      try have hz11 : w.heap.size < w1.heap.size := by omega
      try have hz12 : w.heap.size + 1 < w1.heap.size := by omega
      try have hz13 : w.heap.size + 1 + 1 < w1.heap.size := by omega
      try have hz14 : w.heap.size + 1 + 1 + 1 < w1.heap.size := by omega
      go_wp2_with fail
      refine wp_region_later (by kernel_rfl) (by kernel_rfl) ?_
      repeat (first | go_big_quiet_step ((first | (go_at_call 105; exact later_of _ (l01Minus_c _ _ _ _ _ (by assumption) (by assumption))) | (go_at_call 133; exact later_of _ (C2.out _)))) | quiet_step ((first | (go_at_call 105; exact later_of _ (l01Minus_c _ _ _ _ _ (by assumption) (by assumption))) | (go_at_call 133; exact later_of _ (C2.out _)))))
      refine wpQuiet_nil ?_
      intro _ hw'
      obtain ⟨s2, hw''⟩ := hw'
      subst hw''
      have hb2 := s2.below
      generalize s2.w = w2 at hb2 ⊢
      clear s2
      try replace hb2 := below_trans (by with_reducible assumption) hb2
      obtain ⟨hc2, hf2⟩ := bcell hb2
      have hz2 := hb2.size
      try simp at hz2
      try have hz20 : w.heap.size ≤ w2.heap.size := by omega
      try have hz21 : w.heap.size < w2.heap.size := by omega
      try have hz22 : w.heap.size + 1 < w2.heap.size := by omega
      try have hz23 : w.heap.size + 1 + 1 < w2.heap.size := by omega
      try have hz24 : w.heap.size + 1 + 1 + 1 < w2.heap.size := by omega
      go_wp2_with (first | (go_at_call 111; refine (l01Sign_c _ _).mono ?_; rintro e w' ⟨rfl, rfl⟩) | (go_at_call 134; refine (l02Ratio_c _ _ _ (by omega) (by omega) (by omega) (by omega)).mono ?_; rintro e w1 ⟨rfl, hb⟩; (try replace hb := below_trans (by with_reducible assumption) hb); obtain ⟨hc, hf⟩ := bcell hb; have hz := hb.size; (try simp at hz); (try have hz0 : w.heap.size ≤ w1.heap.size := by omega); (try have hz1 : w.heap.size < w1.heap.size := by omega); (try have hz2 : w.heap.size + 1 < w1.heap.size := by omega); (try have hz3 : w.heap.size + 1 + 1 < w1.heap.size := by omega); (try have hz4 : w.heap.size + 1 + 1 + 1 < w1.heap.size := by omega)))
      exact bodyPost_ret (v := .tuple #[.agg #[.int .i64 (plN a b), .int .i64 (plD a b)], .bool true]) (by simp [results, Try.results118, go_sem, *]; exact ⟨(pl_of (by omega) (by omega)).1, (pl_of (by omega) (by omega)).2⟩) rfl ⟨by rw [HF.out], (by repeat (first | with_reducible exact Below.refl _ _ | with_reducible assumption | with_reducible refine Below.drew ?_ | with_reducible refine Below.alloc ?_ (by first | exact Nat.le_refl _ | (simp; done) | (simp; omega) | omega) _ | with_reducible refine Below.setCell ?_ (by first | exact Nat.le_refl _ | (simp; done) | (simp; omega) | omega) _ | with_reducible refine Below.trans ?_ (Below.mono (by with_reducible assumption) (by first | exact Nat.le_refl _ | (simp; done) | (simp; omega) | omega))))⟩
    · have HF := Lib.hid (lPl_Y (a := a) (b := 0) ((hasPl_iff _ _).2 (by omega)))
      have sa := sgn_1 ha
      have C1 := Lib.hid c1
      have C2 := Lib.hid c2
      clear c1 c2
      go_enter Try.func118, Try.ntmps118
      go_wp2_with fail
      refine wp_region_later (by kernel_rfl) (by kernel_rfl) ?_
      repeat (first | go_big_quiet_step ((first | (go_at_call 105; exact later_of _ (l01Minus_c _ _ _ _ _ (by assumption) (by assumption))) | (go_at_call 133; exact later_of _ (C1.out _)))) | quiet_step ((first | (go_at_call 105; exact later_of _ (l01Minus_c _ _ _ _ _ (by assumption) (by assumption))) | (go_at_call 133; exact later_of _ (C1.out _)))))
      refine wpQuiet_nil ?_
      intro _ hw'
      obtain ⟨s1, hw''⟩ := hw'
      subst hw''
      have hb1 := s1.below
      generalize s1.w = w1 at hb1 ⊢
      clear s1
      try replace hb1 := below_trans (by with_reducible assumption) hb1
      obtain ⟨hc1, hf1⟩ := bcell hb1
      have hz1 := hb1.size
      try simp at hz1
      try have hz10 : w.heap.size ≤ w1.heap.size := by omega
      try have hz11 : w.heap.size < w1.heap.size := by omega
      try have hz12 : w.heap.size + 1 < w1.heap.size := by omega
      try have hz13 : w.heap.size + 1 + 1 < w1.heap.size := by omega
      try have hz14 : w.heap.size + 1 + 1 + 1 < w1.heap.size := by omega
      go_wp2_with fail
      refine wp_region_later (by kernel_rfl) (by kernel_rfl) ?_
      repeat (first | go_big_quiet_step ((first | (go_at_call 105; exact later_of _ (l01Minus_c _ _ _ _ _ (by assumption) (by assumption))) | (go_at_call 133; exact later_of _ (C2.out _)))) | quiet_step ((first | (go_at_call 105; exact later_of _ (l01Minus_c _ _ _ _ _ (by assumption) (by assumption))) | (go_at_call 133; exact later_of _ (C2.out _)))))
      refine wpQuiet_nil ?_
      intro _ hw'
      obtain ⟨s2, hw''⟩ := hw'
      subst hw''
      have hb2 := s2.below
      generalize s2.w = w2 at hb2 ⊢
      clear s2
      try replace hb2 := below_trans (by with_reducible assumption) hb2
      obtain ⟨hc2, hf2⟩ := bcell hb2
      have hz2 := hb2.size
      try simp at hz2
      try have hz20 : w.heap.size ≤ w2.heap.size := by omega
      try have hz21 : w.heap.size < w2.heap.size := by omega
      try have hz22 : w.heap.size + 1 < w2.heap.size := by omega
      try have hz23 : w.heap.size + 1 + 1 < w2.heap.size := by omega
      try have hz24 : w.heap.size + 1 + 1 + 1 < w2.heap.size := by omega
      go_wp2_with (first | (go_at_call 111; refine (l01Sign_c _ _).mono ?_; rintro e w' ⟨rfl, rfl⟩) | (go_at_call 134; refine (l02Ratio_c _ _ _ (by omega) (by omega) (by omega) (by omega)).mono ?_; rintro e w1 ⟨rfl, hb⟩; (try replace hb := below_trans (by with_reducible assumption) hb); obtain ⟨hc, hf⟩ := bcell hb; have hz := hb.size; (try simp at hz); (try have hz0 : w.heap.size ≤ w1.heap.size := by omega); (try have hz1 : w.heap.size < w1.heap.size := by omega); (try have hz2 : w.heap.size + 1 < w1.heap.size := by omega); (try have hz3 : w.heap.size + 1 + 1 < w1.heap.size := by omega); (try have hz4 : w.heap.size + 1 + 1 + 1 < w1.heap.size := by omega)))
      exact bodyPost_ret (v := .tuple #[.agg #[.int .i64 (plN a 0), .int .i64 (plD a 0)], .bool true]) (by simp [results, Try.results118, go_sem, *]; exact ⟨(pl_of (by omega) (by omega)).1, (pl_of (by omega) (by omega)).2⟩) rfl ⟨by rw [HF.out], (by repeat (first | with_reducible exact Below.refl _ _ | with_reducible assumption | with_reducible refine Below.drew ?_ | with_reducible refine Below.alloc ?_ (by first | exact Nat.le_refl _ | (simp; done) | (simp; omega) | omega) _ | with_reducible refine Below.setCell ?_ (by first | exact Nat.le_refl _ | (simp; done) | (simp; omega) | omega) _ | with_reducible refine Below.trans ?_ (Below.mono (by with_reducible assumption) (by first | exact Nat.le_refl _ | (simp; done) | (simp; omega) | omega))))⟩
    · have HF := Lib.hid (lPl_N (a := a) (b := b) (hasPl_no (by omega)))
      have sa := sgn_1 ha
      have sb := sgn_1 hb
      have C1 := Lib.hid c1
      have C2 := Lib.hid c2
      clear c1 c2
      go_enter Try.func118, Try.ntmps118
      go_wp2_with fail
      refine wp_region_later (by kernel_rfl) (by kernel_rfl) ?_
      repeat (first | go_big_quiet_step ((first | (go_at_call 105; exact later_of _ (l01Minus_c _ _ _ _ _ (by assumption) (by assumption))) | (go_at_call 133; exact later_of _ (C1.out _)))) | quiet_step ((first | (go_at_call 105; exact later_of _ (l01Minus_c _ _ _ _ _ (by assumption) (by assumption))) | (go_at_call 133; exact later_of _ (C1.out _)))))
      refine wpQuiet_nil ?_
      intro _ hw'
      obtain ⟨s1, hw''⟩ := hw'
      subst hw''
      have hb1 := s1.below
      generalize s1.w = w1 at hb1 ⊢
      clear s1
      try replace hb1 := below_trans (by with_reducible assumption) hb1
      obtain ⟨hc1, hf1⟩ := bcell hb1
      have hz1 := hb1.size
      try simp at hz1
      try have hz10 : w.heap.size ≤ w1.heap.size := by omega
      try have hz11 : w.heap.size < w1.heap.size := by omega
      try have hz12 : w.heap.size + 1 < w1.heap.size := by omega
      try have hz13 : w.heap.size + 1 + 1 < w1.heap.size := by omega
      try have hz14 : w.heap.size + 1 + 1 + 1 < w1.heap.size := by omega
      go_wp2_with fail
      refine wp_region_later (by kernel_rfl) (by kernel_rfl) ?_
      repeat (first | go_big_quiet_step ((first | (go_at_call 105; exact later_of _ (l01Minus_c _ _ _ _ _ (by assumption) (by assumption))) | (go_at_call 133; exact later_of _ (C2.out _)))) | quiet_step ((first | (go_at_call 105; exact later_of _ (l01Minus_c _ _ _ _ _ (by assumption) (by assumption))) | (go_at_call 133; exact later_of _ (C2.out _)))))
      refine wpQuiet_nil ?_
      intro _ hw'
      obtain ⟨s2, hw''⟩ := hw'
      subst hw''
      have hb2 := s2.below
      generalize s2.w = w2 at hb2 ⊢
      clear s2
      try replace hb2 := below_trans (by with_reducible assumption) hb2
      obtain ⟨hc2, hf2⟩ := bcell hb2
      have hz2 := hb2.size
      try simp at hz2
      try have hz20 : w.heap.size ≤ w2.heap.size := by omega
      try have hz21 : w.heap.size < w2.heap.size := by omega
      try have hz22 : w.heap.size + 1 < w2.heap.size := by omega
      try have hz23 : w.heap.size + 1 + 1 < w2.heap.size := by omega
      try have hz24 : w.heap.size + 1 + 1 + 1 < w2.heap.size := by omega
      go_wp2_with (first | (go_at_call 111; refine (l01Sign_c _ _).mono ?_; rintro e w' ⟨rfl, rfl⟩) | (go_at_call 134; refine (l02Ratio_c _ _ _ (by omega) (by omega) (by omega) (by omega)).mono ?_; rintro e w1 ⟨rfl, hb⟩; (try replace hb := below_trans (by with_reducible assumption) hb); obtain ⟨hc, hf⟩ := bcell hb; have hz := hb.size; (try simp at hz); (try have hz0 : w.heap.size ≤ w1.heap.size := by omega); (try have hz1 : w.heap.size < w1.heap.size := by omega); (try have hz2 : w.heap.size + 1 < w1.heap.size := by omega); (try have hz3 : w.heap.size + 1 + 1 < w1.heap.size := by omega); (try have hz4 : w.heap.size + 1 + 1 + 1 < w1.heap.size := by omega)))
      exact bodyPost_ret (v := .tuple #[.agg #[.int .i64 0, .int .i64 0], .bool false]) (by simp [results, Try.results118, go_sem, *]) rfl ⟨by rw [HF.out], (by repeat (first | with_reducible exact Below.refl _ _ | with_reducible assumption | with_reducible refine Below.drew ?_ | with_reducible refine Below.alloc ?_ (by first | exact Nat.le_refl _ | (simp; done) | (simp; omega) | omega) _ | with_reducible refine Below.setCell ?_ (by first | exact Nat.le_refl _ | (simp; done) | (simp; omega) | omega) _ | with_reducible refine Below.trans ?_ (Below.mono (by with_reducible assumption) (by first | exact Nat.le_refl _ | (simp; done) | (simp; omega) | omega))))⟩
end Go.Proofs.Ytdepdkpehbkcjaa
