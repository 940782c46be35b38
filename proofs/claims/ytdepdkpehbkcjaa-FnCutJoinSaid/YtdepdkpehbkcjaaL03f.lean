/-
  What the functions of the leg return: lasts, l03Lasts, l03Leg, legAt, trackCode, LegAt. Conditions: the cells lie in the world; where said, at least two fixes.
-/
import Derived.Test.YtdepdkpehbkcjaaL03e
namespace Go.Proofs.Ytdepdkpehbkcjaa
set_option linter.unusedVariables false
open Go.RowKit Go.Deep

def lastsB (l : List Fx) (t : Int) : Bool := inR t (fx l 0).t (fx l (l.length - 1)).t
def legS (l : List Fx) (t : Int) : Nat → Nat
  | 0 => 0
  | k + 1 => if (fx l k).t ≤ t then k else legS l t k
theorem legS_le (l : List Fx) (t : Int) : ∀ k, legS l t k ≤ k
  | 0 => Nat.le_refl _
  | k + 1 => by
    have := legS_le l t k
    simp only [legS]; split <;> omega
def legN (l : List Fx) (t : Int) : Nat := legS l t (l.length - 1)
def codeZ (l : List Fx) (t : Int) : Int := if isTrk l = true then (if lastsB l t = true then 0 else 2) else 1
def legR (l : List Fx) (t : Int) : Int × Int := if isTrk l = true then (if lastsB l t = true then (((legN l t : Nat) : Int), 0) else (0, 2)) else (0, 1)

set_option maxHeartbeats 1600000 in
theorem l03Lasts_c (a : Option Addr) (cap : Nat) (l : List Fx) (t : Int) (w : World) (hl : l.length ≤ 4611686018427387904) (h2 : 2 ≤ l.length) (hf : FixAt w a l) : Calls Try.prog 69 #[.agg #[.slice a l.length cap], .int .i64 t] w fun e w' => e = .returned (.bool (lastsB l t)) ∧ Below w.heap.size w w' := by
  obtain ⟨b, off, rfl, hlt, hcs⟩ := hf.head (by omega)
  obtain ⟨m, hm⟩ : ∃ m, l.length = m + 1 := ⟨l.length - 1, by omega⟩
  obtain ⟨c0, _, _⟩ := hcs 0 (by omega)
  obtain ⟨d0, _, _⟩ := hcs m (by omega)
  have HF := Lib.hid (show lastsB l t = inR t (fx l 0).t (fx l m).t by rw [lastsB, hm]; rfl)
  clear hcs hf
  rw [hm] at hl h2 ⊢
  clear hm
  have hw : wrap64 (m : Int) = (m : Int) := by first | go_num | (unfold wrap64; omega)
  simp only [Nat.zero_mul, Nat.add_zero] at c0
  go_enter Try.func69, Try.ntmps69
  go_wp2
  refine wp_region_later (by kernel_rfl) (by kernel_rfl) ?_
  repeat (first | go_big_quiet_step ((go_at_call 60; exact later_of_same _ (l01In_c _ _ _ _))) | quiet_step ((go_at_call 60; exact later_of_same _ (l01In_c _ _ _ _))))
  refine wpQuiet_nil ?_
  intro _ hw'
  obtain ⟨s1, hw''⟩ := hw'
  subst hw''
  have hb1 := s1.below
  generalize s1.w = w1 at hb1 ⊢
  clear s1
  try replace hb1 := below_trans (by with_reducible assumption) hb1
  obtain ⟨hc1, hf1⟩ := bcell hb1
  have hz1 := hb1.size
  try simp at hz1
  try have hz10 : w.heap.size ≤ w1.heap.size := by omega
  try have hz11 : w.heap.size < w1.heap.size := by omega
  try have hz12 : w.heap.size + 1 < w1.heap.size := by omega
  try have hz13 : w.heap.size + 1 + 1 < w1.heap.size := by omega
  try have hz14 : w.heap.size + 1 + 1 + 1 < w1.heap.size := by omega
  go_wp2
  go_ret
  exact ⟨ret_bool HF.out.symm, (by repeat (first | with_reducible exact Below.refl _ _ | with_reducible assumption | with_reducible refine Below.drew ?_ | with_reducible refine Below.alloc ?_ (by first | exact Nat.le_refl _ | (simp; done) | (simp; omega) | omega) _ | with_reducible refine Below.setCell ?_ (by first | exact Nat.le_refl _ | (simp; done) | (simp; omega) | omega) _ | with_reducible refine Below.trans ?_ (Below.mono (by with_reducible assumption) (by first | exact Nat.le_refl _ | (simp; done) | (simp; omega) | omega))))⟩
set_option maxHeartbeats 1600000 in
theorem lasts_c (a : Option Addr) (cap : Nat) (l : List Fx) (t : Int) (w : World) (hl : l.length ≤ 4611686018427387904) (h2 : 2 ≤ l.length) (hf : FixAt w a l) : Calls Try.prog 67 #[.agg #[.slice a l.length cap], .int .i64 t] w fun e w' => e = .returned (.bool (lastsB l t)) ∧ Below w.heap.size w w' := by
  obtain ⟨b, off, rfl, hlt, hcs⟩ := hf.head (by omega)
  obtain ⟨m, hm⟩ : ∃ m, l.length = m + 1 := ⟨l.length - 1, by omega⟩
  obtain ⟨c0, _, _⟩ := hcs 0 (by omega)
  obtain ⟨d0, _, _⟩ := hcs m (by omega)
  have HF := Lib.hid (show lastsB l t = inR t (fx l 0).t (fx l m).t by rw [lastsB, hm]; rfl)
  clear hcs hf
  rw [hm] at hl h2 ⊢
  clear hm
  have hw : wrap64 (m : Int) = (m : Int) := by first | go_num | (unfold wrap64; omega)
  simp only [Nat.zero_mul, Nat.add_zero] at c0
  go_enter Try.func67, Try.ntmps67
  go_wp2
  refine wp_region_later (by kernel_rfl) (by kernel_rfl) ?_
  repeat (first | go_big_quiet_step ((go_at_call 65; exact later_of_same _ (within_c _ _ _ _))) | quiet_step ((go_at_call 65; exact later_of_same _ (within_c _ _ _ _))))
  refine wpQuiet_nil ?_
  intro _ hw'
  obtain ⟨s1, hw''⟩ := hw'
  subst hw''
  have hb1 := s1.below
  generalize s1.w = w1 at hb1 ⊢
  clear s1
  try replace hb1 := below_trans (by with_reducible assumption) hb1
  obtain ⟨hc1, hf1⟩ := bcell hb1
  have hz1 := hb1.size
  try simp at hz1
  try have hz10 : w.heap.size ≤ w1.heap.size := by omega
  try have hz11 : w.heap.size < w1.heap.size := by omega
  try have hz12 : w.heap.size + 1 < w1.heap.size := by omega
  try have hz13 : w.heap.size + 1 + 1 < w1.heap.size := by omega
  try have hz14 : w.heap.size + 1 + 1 + 1 < w1.heap.size := by omega
  go_wp2
  go_ret
  exact ⟨ret_bool HF.out.symm, (by repeat (first | with_reducible exact Below.refl _ _ | with_reducible assumption | with_reducible refine Below.drew ?_ | with_reducible refine Below.alloc ?_ (by first | exact Nat.le_refl _ | (simp; done) | (simp; omega) | omega) _ | with_reducible refine Below.setCell ?_ (by first | exact Nat.le_refl _ | (simp; done) | (simp; omega) | omega) _ | with_reducible refine Below.trans ?_ (Below.mono (by with_reducible assumption) (by first | exact Nat.le_refl _ | (simp; done) | (simp; omega) | omega))))⟩
set_option maxHeartbeats 1600000 in
theorem l03Leg_c (a : Option Addr) (cap : Nat) (l : List Fx) (t : Int) (w : World) (hl : l.length ≤ 4611686018427387904) (h2 : 2 ≤ l.length) (hf : FixAt w a l) : Calls Try.prog 108 #[.agg #[.slice a l.length cap], .int .i64 t] w fun e w' => e = .returned (.int .i64 (legN l t)) ∧ Below w.heap.size w w' := by
  go_enter Try.func108, Try.ntmps108
  go_wp2
  go_loopw [5, 6] (fun x y wr => ∃ k : Nat, x = .int .i64 (legS l t k) ∧ y = .int .i64 k ∧ k + 1 ≤ l.length ∧ wr = w.alloc (.cells #[.slice a l.length cap] 26)) (fun _ y _ => l.length - (intOf y).toNat)
  case atStart => exact ⟨0, rfl, rfl, by omega, rfl⟩
  case round =>
    obtain ⟨k, rfl, rfl, hk, rfl⟩ := hrel
    have hs := legS_le l t k
    by_cases h : k + 1 < l.length
    · obtain ⟨b, off, rfl, hlt, hcs⟩ := hf.head (by omega)
      obtain ⟨c0, _, _⟩ := hcs k (by omega)
      clear hcs
      have h' : (k : Int) + 1 < (l.length : Int) := by omega
      by_cases h3 : (fx l k).t ≤ t
      · have E := Lib.hid (show legS l t (k + 1) = k by simp [legS, h3])
        go_wp2
        refine ⟨⟨k + 1, by rw [E.out], by simp, by omega, ?_⟩, by simp [intOf]; omega⟩
        trivial
      · have E := Lib.hid (show legS l t (k + 1) = legS l t k by simp [legS, h3])
        go_wp2
        refine ⟨⟨k + 1, by rw [E.out], by simp, by omega, ?_⟩, by simp [intOf]; omega⟩
        trivial
    · obtain ⟨m, hm⟩ : ∃ m, l.length = m + 1 := ⟨l.length - 1, by omega⟩
      have E := Lib.hid (show legN l t = legS l t k by rw [legN, show l.length - 1 = k by omega])
      clear hm
      have h' : (l.length : Int) ≤ (k : Int) + 1 := by omega
      go_wp2
      go_ret
      exact ⟨ret_int (by rw [E.out]), (by repeat (first | with_reducible exact Below.refl _ _ | with_reducible assumption | with_reducible refine Below.drew ?_ | with_reducible refine Below.alloc ?_ (by first | exact Nat.le_refl _ | (simp; done) | (simp; omega) | omega) _ | with_reducible refine Below.setCell ?_ (by first | exact Nat.le_refl _ | (simp; done) | (simp; omega) | omega) _ | with_reducible refine Below.trans ?_ (Below.mono (by with_reducible assumption) (by first | exact Nat.le_refl _ | (simp; done) | (simp; omega) | omega))))⟩
theorem legS_down {l : List Fx} {t : Int} {k : Nat} (h : t < (fx l (k + 1)).t) : legS l t (k + 1 + 1) = legS l t (k + 1) := by
  show (if (fx l (k + 1)).t ≤ t then k + 1 else legS l t (k + 1)) = _
  rw [if_neg (by omega)]
set_option maxHeartbeats 1600000 in
theorem legAt_c (a : Option Addr) (cap : Nat) (l : List Fx) (t : Int) (w : World) (hl : l.length ≤ 4611686018427387904) (h2 : 2 ≤ l.length) (hf : FixAt w a l) : Calls Try.prog 106 #[.agg #[.slice a l.length cap], .int .i64 t] w fun e w' => e = .returned (.int .i64 (legN l t)) ∧ Below w.heap.size w w' := by
  obtain ⟨m, hm⟩ : ∃ m, l.length = m + 2 := ⟨l.length - 2, by omega⟩
  have hM := Lib.hid hm
  have hN := Lib.hid (show legS l t (m + 1) = legN l t by rw [legN, hm]; rfl)
  rw [hm] at hl h2 ⊢
  clear hm
  go_enter Try.func106, Try.ntmps106
  go_wp2
  go_loopw [5] (fun x wr => ∃ k : Nat, x = .int .i64 k ∧ k ≤ m ∧ Hid (legS l t (k + 1) = legN l t) ∧ wr = w.alloc (.cells #[.slice a (m + 2) cap] 26)) (fun x _ => (intOf x).toNat)
  case atStart => exact ⟨m, by go_num, Nat.le_refl _, hN, rfl⟩
  case round =>
    obtain ⟨k, rfl, hk, he, rfl⟩ := hrel
    obtain ⟨b, off, rfl, hlt, hcs⟩ := hf.head (by have := hM.out; omega)
    rcases Nat.eq_zero_or_pos k with hk0 | hk0
    · subst hk0
      have E := Lib.hid (show legN l t = 0 by rw [← he.out]; simp [legS])
      clear hcs
      go_wp2
      go_ret
      exact ⟨ret_int (by rw [E.out]; first | done | rfl), (by repeat (first | with_reducible exact Below.refl _ _ | with_reducible assumption | with_reducible refine Below.drew ?_ | with_reducible refine Below.alloc ?_ (by first | exact Nat.le_refl _ | (simp; done) | (simp; omega) | omega) _ | with_reducible refine Below.setCell ?_ (by first | exact Nat.le_refl _ | (simp; done) | (simp; omega) | omega) _ | with_reducible refine Below.trans ?_ (Below.mono (by with_reducible assumption) (by first | exact Nat.le_refl _ | (simp; done) | (simp; omega) | omega))))⟩
    obtain ⟨j, rfl⟩ : ∃ j, k = j + 1 := ⟨k - 1, by omega⟩
    obtain ⟨c0, _, _⟩ := hcs (j + 1) (by have := hM.out; omega)
    clear hcs
    have hj : ((j + 1 : Nat) : Int) = (j : Int) + 1 := by omega
    have hb : (j : Int) + 1 < (m : Int) + 2 := by omega
    by_cases h3 : t < (fx l (j + 1)).t
    · have E := Lib.hid (legS_down h3)
      simp only [hj]
      go_wp2
      exact ⟨⟨j, by go_num, by omega, Lib.hid (by rw [← he.out, E.out]), trivial⟩, by simp [intOf]⟩
    · have E := Lib.hid (show legN l t = j + 1 by rw [← he.out]; simp [legS]; omega)
      simp only [hj]
      go_wp2
      go_ret
      exact ⟨ret_int (by rw [E.out]; omega), (by repeat (first | with_reducible exact Below.refl _ _ | with_reducible assumption | with_reducible refine Below.drew ?_ | with_reducible refine Below.alloc ?_ (by first | exact Nat.le_refl _ | (simp; done) | (simp; omega) | omega) _ | with_reducible refine Below.setCell ?_ (by first | exact Nat.le_refl _ | (simp; done) | (simp; omega) | omega) _ | with_reducible refine Below.trans ?_ (Below.mono (by with_reducible assumption) (by first | exact Nat.le_refl _ | (simp; done) | (simp; omega) | omega))))⟩
set_option maxHeartbeats 1600000 in
theorem trackCode_c (a : Option Addr) (cap : Nat) (l : List Fx) (t : Int) (w : World) (hl : l.length ≤ 4611686018427387904) (hf : FixAt w a l) : Calls Try.prog 71 #[.agg #[.slice a l.length cap], .int .i64 t] w fun e w' => e = .returned (.int .i64 (codeZ l t)) ∧ Below w.heap.size w w' := by
  cases e1 : isTrk l
  · have HF := Lib.hid (show codeZ l t = 1 by simp [codeZ, e1])
    go_enter Try.func71, Try.ntmps71
    go_wp2_with (go_at_call 24; refine (IsTrack_c _ _ l _ hl (FixAt.below hf (by repeat (first | with_reducible exact Below.refl _ _ | with_reducible assumption | with_reducible refine Below.drew ?_ | with_reducible refine Below.alloc ?_ (by first | exact Nat.le_refl _ | (simp; done) | (simp; omega) | omega) _ | with_reducible refine Below.setCell ?_ (by first | exact Nat.le_refl _ | (simp; done) | (simp; omega) | omega) _ | with_reducible refine Below.trans ?_ (Below.mono (by with_reducible assumption) (by first | exact Nat.le_refl _ | (simp; done) | (simp; omega) | omega)))))).mono ?_; rintro e w1 ⟨rfl, hb⟩; (try replace hb := below_trans (by with_reducible assumption) hb); obtain ⟨hc, hf⟩ := bcell hb; have hz := hb.size; (try simp at hz); (try have hz0 : w.heap.size ≤ w1.heap.size := by omega); (try have hz1 : w.heap.size < w1.heap.size := by omega); (try have hz2 : w.heap.size + 1 < w1.heap.size := by omega); (try have hz3 : w.heap.size + 1 + 1 < w1.heap.size := by omega); (try have hz4 : w.heap.size + 1 + 1 + 1 < w1.heap.size := by omega))
    go_ret
    exact ⟨ret_int HF.out.symm, (by repeat (first | with_reducible exact Below.refl _ _ | with_reducible assumption | with_reducible refine Below.drew ?_ | with_reducible refine Below.alloc ?_ (by first | exact Nat.le_refl _ | (simp; done) | (simp; omega) | omega) _ | with_reducible refine Below.setCell ?_ (by first | exact Nat.le_refl _ | (simp; done) | (simp; omega) | omega) _ | with_reducible refine Below.trans ?_ (Below.mono (by with_reducible assumption) (by first | exact Nat.le_refl _ | (simp; done) | (simp; omega) | omega))))⟩
  have h2 := (isTrk_true e1).1
  cases e2 : lastsB l t
  · have HF := Lib.hid (show codeZ l t = 2 by simp [codeZ, e1, e2])
    go_enter Try.func71, Try.ntmps71
    go_wp2_with (first | (go_at_call 24; refine (IsTrack_c _ _ l _ hl (FixAt.below (by assumption) (by repeat (first | with_reducible exact Below.refl _ _ | with_reducible assumption | with_reducible refine Below.drew ?_ | with_reducible refine Below.alloc ?_ (by first | exact Nat.le_refl _ | (simp; done) | (simp; omega) | omega) _ | with_reducible refine Below.setCell ?_ (by first | exact Nat.le_refl _ | (simp; done) | (simp; omega) | omega) _ | with_reducible refine Below.trans ?_ (Below.mono (by with_reducible assumption) (by first | exact Nat.le_refl _ | (simp; done) | (simp; omega) | omega)))))).mono ?_; rintro e w1 ⟨rfl, hb⟩; (try replace hb := below_trans (by with_reducible assumption) hb); obtain ⟨hc, hf⟩ := bcell hb; have hz := hb.size; (try simp at hz); (try have hz0 : w.heap.size ≤ w1.heap.size := by omega); (try have hz1 : w.heap.size < w1.heap.size := by omega); (try have hz2 : w.heap.size + 1 < w1.heap.size := by omega); (try have hz3 : w.heap.size + 1 + 1 < w1.heap.size := by omega); (try have hz4 : w.heap.size + 1 + 1 + 1 < w1.heap.size := by omega)) | (go_at_call 67; refine (lasts_c _ _ l _ _ hl h2 (FixAt.below (by assumption) (by repeat (first | with_reducible exact Below.refl _ _ | with_reducible assumption | with_reducible refine Below.drew ?_ | with_reducible refine Below.alloc ?_ (by first | exact Nat.le_refl _ | (simp; done) | (simp; omega) | omega) _ | with_reducible refine Below.setCell ?_ (by first | exact Nat.le_refl _ | (simp; done) | (simp; omega) | omega) _ | with_reducible refine Below.trans ?_ (Below.mono (by with_reducible assumption) (by first | exact Nat.le_refl _ | (simp; done) | (simp; omega) | omega)))))).mono ?_; rintro e w1 ⟨rfl, hb⟩; (try replace hb := below_trans (by with_reducible assumption) hb); obtain ⟨hc, hf⟩ := bcell hb; have hz := hb.size; (try simp at hz); (try have hz0 : w.heap.size ≤ w1.heap.size := by omega); (try have hz1 : w.heap.size < w1.heap.size := by omega); (try have hz2 : w.heap.size + 1 < w1.heap.size := by omega); (try have hz3 : w.heap.size + 1 + 1 < w1.heap.size := by omega); (try have hz4 : w.heap.size + 1 + 1 + 1 < w1.heap.size := by omega)))
    go_ret
    exact ⟨ret_int HF.out.symm, (by repeat (first | with_reducible exact Below.refl _ _ | with_reducible assumption | with_reducible refine Below.drew ?_ | with_reducible refine Below.alloc ?_ (by first | exact Nat.le_refl _ | (simp; done) | (simp; omega) | omega) _ | with_reducible refine Below.setCell ?_ (by first | exact Nat.le_refl _ | (simp; done) | (simp; omega) | omega) _ | with_reducible refine Below.trans ?_ (Below.mono (by with_reducible assumption) (by first | exact Nat.le_refl _ | (simp; done) | (simp; omega) | omega))))⟩
  · have HF := Lib.hid (show codeZ l t = 0 by simp [codeZ, e1, e2])
    go_enter Try.func71, Try.ntmps71
    go_wp2_with (first | (go_at_call 24; refine (IsTrack_c _ _ l _ hl (FixAt.below (by assumption) (by repeat (first | with_reducible exact Below.refl _ _ | with_reducible assumption | with_reducible refine Below.drew ?_ | with_reducible refine Below.alloc ?_ (by first | exact Nat.le_refl _ | (simp; done) | (simp; omega) | omega) _ | with_reducible refine Below.setCell ?_ (by first | exact Nat.le_refl _ | (simp; done) | (simp; omega) | omega) _ | with_reducible refine Below.trans ?_ (Below.mono (by with_reducible assumption) (by first | exact Nat.le_refl _ | (simp; done) | (simp; omega) | omega)))))).mono ?_; rintro e w1 ⟨rfl, hb⟩; (try replace hb := below_trans (by with_reducible assumption) hb); obtain ⟨hc, hf⟩ := bcell hb; have hz := hb.size; (try simp at hz); (try have hz0 : w.heap.size ≤ w1.heap.size := by omega); (try have hz1 : w.heap.size < w1.heap.size := by omega); (try have hz2 : w.heap.size + 1 < w1.heap.size := by omega); (try have hz3 : w.heap.size + 1 + 1 < w1.heap.size := by omega); (try have hz4 : w.heap.size + 1 + 1 + 1 < w1.heap.size := by omega)) | (go_at_call 67; refine (lasts_c _ _ l _ _ hl h2 (FixAt.below (by assumption) (by repeat (first | with_reducible exact Below.refl _ _ | with_reducible assumption | with_reducible refine Below.drew ?_ | with_reducible refine Below.alloc ?_ (by first | exact Nat.le_refl _ | (simp; done) | (simp; omega) | omega) _ | with_reducible refine Below.setCell ?_ (by first | exact Nat.le_refl _ | (simp; done) | (simp; omega) | omega) _ | with_reducible refine Below.trans ?_ (Below.mono (by with_reducible assumption) (by first | exact Nat.le_refl _ | (simp; done) | (simp; omega) | omega)))))).mono ?_; rintro e w1 ⟨rfl, hb⟩; (try replace hb := below_trans (by with_reducible assumption) hb); obtain ⟨hc, hf⟩ := bcell hb; have hz := hb.size; (try simp at hz); (try have hz0 : w.heap.size ≤ w1.heap.size := by omega); (try have hz1 : w.heap.size < w1.heap.size := by omega); (try have hz2 : w.heap.size + 1 < w1.heap.size := by omega); (try have hz3 : w.heap.size + 1 + 1 < w1.heap.size := by omega); (try have hz4 : w.heap.size + 1 + 1 + 1 < w1.heap.size := by omega)))
    go_ret
    exact ⟨ret_int HF.out.symm, (by repeat (first | with_reducible exact Below.refl _ _ | with_reducible assumption | with_reducible refine Below.drew ?_ | with_reducible refine Below.alloc ?_ (by first | exact Nat.le_refl _ | (simp; done) | (simp; omega) | omega) _ | with_reducible refine Below.setCell ?_ (by first | exact Nat.le_refl _ | (simp; done) | (simp; omega) | omega) _ | with_reducible refine Below.trans ?_ (Below.mono (by with_reducible assumption) (by first | exact Nat.le_refl _ | (simp; done) | (simp; omega) | omega))))⟩
end Go.Proofs.Ytdepdkpehbkcjaa
