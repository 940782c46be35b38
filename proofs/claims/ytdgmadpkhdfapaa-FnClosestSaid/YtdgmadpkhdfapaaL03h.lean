/-
  ClosestFix, the program's and the reference's. Conditions: the cells lie in the world.
-/
import Derived.Test.YtdgmadpkhdfapaaL03g
namespace Go.Proofs.Ytdgmadpkhdfapaa
set_option linter.unusedVariables false
open Go.RowKit Go.Deep

def sqAt (l : List Fx) (px py : Int) (k : Nat) : Int := sqZ (fx l k).x (fx l k).y px py
def cls (l : List Fx) (px py : Int) : Nat → Nat
  | 0 => 0
  | k + 1 => if sqAt l px py k < sqAt l px py (cls l px py k) then k else cls l px py k
theorem cls_le (l : List Fx) (px py : Int) : ∀ k, cls l px py k ≤ k
  | 0 => Nat.le_refl _
  | k + 1 => by
    have := cls_le l px py k
    simp only [cls]; split <;> omega
theorem cls_lt (l : List Fx) (px py : Int) : ∀ k, 0 < k → cls l px py k < k
  | k + 1, _ => by
    have := cls_le l px py k
    simp only [cls]; split <;> omega
def closeR (l : List Fx) (px py : Int) : Int × Int := if isTrk l = true ∧ isPt px py = true then (((cls l px py l.length : Nat) : Int), 0) else (0, 1)

set_option maxHeartbeats 3000000 in
theorem ClosestFixS_c (a : Option Addr) (cap : Nat) (l : List Fx) (px py : Int) (w : World) (hl : l.length ≤ 4611686018427387904) (hf : FixAt w a l) : Calls Try.prog 20 #[.agg #[.slice a l.length cap], .agg #[.int .i64 px, .int .i64 py]] w fun e w' => e = .returned (.tuple #[.int .i64 (closeR l px py).1, .int .i64 (closeR l px py).2]) ∧ Below w.heap.size w w' := by
  cases e1 : isTrk l
  · have HF := Lib.hid (show closeR l px py = (0, 1) by simp [closeR, e1])
    go_enter Try.func20, Try.ntmps20
    go_wp2_with (first | (go_at_call 16; refine (IsTrackS_c _ _ l _ hl (FixAt.below (by assumption) (by repeat (first | with_reducible exact Below.refl _ _ | with_reducible assumption | with_reducible refine Below.drew ?_ | with_reducible refine Below.alloc ?_ (by first | exact Nat.le_refl _ | (simp; done) | (simp; omega) | omega) _ | with_reducible refine Below.setCell ?_ (by first | exact Nat.le_refl _ | (simp; done) | (simp; omega) | omega) _ | with_reducible refine Below.trans ?_ (Below.mono (by with_reducible assumption) (by first | exact Nat.le_refl _ | (simp; done) | (simp; omega) | omega)))))).mono ?_; rintro e w1 ⟨rfl, hb⟩; (try replace hb := below_trans (by with_reducible assumption) hb); obtain ⟨hc, hf⟩ := bcell hb; have hz := hb.size; (try simp at hz); (try have hz0 : w.heap.size ≤ w1.heap.size := by omega); (try have hz1 : w.heap.size < w1.heap.size := by omega); (try have hz2 : w.heap.size + 1 < w1.heap.size := by omega); (try have hz3 : w.heap.size + 1 + 1 < w1.heap.size := by omega); (try have hz4 : w.heap.size + 1 + 1 + 1 < w1.heap.size := by omega)) | (go_at_call 52; refine (isPointS_c _ _ _).mono ?_; rintro e w1 ⟨rfl, hb⟩; (try replace hb := below_trans (by with_reducible assumption) hb); obtain ⟨hc, hf⟩ := bcell hb; have hz := hb.size; (try simp at hz); (try have hz0 : w.heap.size ≤ w1.heap.size := by omega); (try have hz1 : w.heap.size < w1.heap.size := by omega); (try have hz2 : w.heap.size + 1 < w1.heap.size := by omega); (try have hz3 : w.heap.size + 1 + 1 < w1.heap.size := by omega); (try have hz4 : w.heap.size + 1 + 1 + 1 < w1.heap.size := by omega)))
    go_ret2
    exact ⟨by rw [HF.out]; rfl, (by repeat (first | with_reducible exact Below.refl _ _ | with_reducible assumption | with_reducible refine Below.drew ?_ | with_reducible refine Below.alloc ?_ (by first | exact Nat.le_refl _ | (simp; done) | (simp; omega) | omega) _ | with_reducible refine Below.setCell ?_ (by first | exact Nat.le_refl _ | (simp; done) | (simp; omega) | omega) _ | with_reducible refine Below.trans ?_ (Below.mono (by with_reducible assumption) (by first | exact Nat.le_refl _ | (simp; done) | (simp; omega) | omega))))⟩
  cases e2 : isPt px py
  · have HF := Lib.hid (show closeR l px py = (0, 1) by simp [closeR, e2])
    go_enter Try.func20, Try.ntmps20
    go_wp2_with (first | (go_at_call 16; refine (IsTrackS_c _ _ l _ hl (FixAt.below (by assumption) (by repeat (first | with_reducible exact Below.refl _ _ | with_reducible assumption | with_reducible refine Below.drew ?_ | with_reducible refine Below.alloc ?_ (by first | exact Nat.le_refl _ | (simp; done) | (simp; omega) | omega) _ | with_reducible refine Below.setCell ?_ (by first | exact Nat.le_refl _ | (simp; done) | (simp; omega) | omega) _ | with_reducible refine Below.trans ?_ (Below.mono (by with_reducible assumption) (by first | exact Nat.le_refl _ | (simp; done) | (simp; omega) | omega)))))).mono ?_; rintro e w1 ⟨rfl, hb⟩; (try replace hb := below_trans (by with_reducible assumption) hb); obtain ⟨hc, hf⟩ := bcell hb; have hz := hb.size; (try simp at hz); (try have hz0 : w.heap.size ≤ w1.heap.size := by omega); (try have hz1 : w.heap.size < w1.heap.size := by omega); (try have hz2 : w.heap.size + 1 < w1.heap.size := by omega); (try have hz3 : w.heap.size + 1 + 1 < w1.heap.size := by omega); (try have hz4 : w.heap.size + 1 + 1 + 1 < w1.heap.size := by omega)) | (go_at_call 52; refine (isPointS_c _ _ _).mono ?_; rintro e w1 ⟨rfl, hb⟩; (try replace hb := below_trans (by with_reducible assumption) hb); obtain ⟨hc, hf⟩ := bcell hb; have hz := hb.size; (try simp at hz); (try have hz0 : w.heap.size ≤ w1.heap.size := by omega); (try have hz1 : w.heap.size < w1.heap.size := by omega); (try have hz2 : w.heap.size + 1 < w1.heap.size := by omega); (try have hz3 : w.heap.size + 1 + 1 < w1.heap.size := by omega); (try have hz4 : w.heap.size + 1 + 1 + 1 < w1.heap.size := by omega)))
    go_ret2
    exact ⟨by rw [HF.out]; rfl, (by repeat (first | with_reducible exact Below.refl _ _ | with_reducible assumption | with_reducible refine Below.drew ?_ | with_reducible refine Below.alloc ?_ (by first | exact Nat.le_refl _ | (simp; done) | (simp; omega) | omega) _ | with_reducible refine Below.setCell ?_ (by first | exact Nat.le_refl _ | (simp; done) | (simp; omega) | omega) _ | with_reducible refine Below.trans ?_ (Below.mono (by with_reducible assumption) (by first | exact Nat.le_refl _ | (simp; done) | (simp; omega) | omega))))⟩
  have HF := Lib.hid (show closeR l px py = (((cls l px py l.length : Nat) : Int), 0) by simp [closeR, e1, e2])
  have hok := isTrk_true e1
  have hpt : ∀ i, i < l.length → isPt (fx l i).x (fx l i).y = true := fun i hi => (okAt_true (okUpto_lt hok.2.2 i hi)).2.2.1
  have h2 := hok.1
  have HPT := Lib.hid hpt
  clear hok hpt
  have hF0 := Lib.hid hf
  go_enter Try.func20, Try.ntmps20
  go_wp2_with (first | (go_at_call 16; refine (IsTrackS_c _ _ l _ hl (FixAt.below (by assumption) (by repeat (first | with_reducible exact Below.refl _ _ | with_reducible assumption | with_reducible refine Below.drew ?_ | with_reducible refine Below.alloc ?_ (by first | exact Nat.le_refl _ | (simp; done) | (simp; omega) | omega) _ | with_reducible refine Below.setCell ?_ (by first | exact Nat.le_refl _ | (simp; done) | (simp; omega) | omega) _ | with_reducible refine Below.trans ?_ (Below.mono (by with_reducible assumption) (by first | exact Nat.le_refl _ | (simp; done) | (simp; omega) | omega)))))).mono ?_; rintro e w1 ⟨rfl, hb⟩; (try replace hb := below_trans (by with_reducible assumption) hb); obtain ⟨hc, hf⟩ := bcell hb; have hz := hb.size; (try simp at hz); (try have hz0 : w.heap.size ≤ w1.heap.size := by omega); (try have hz1 : w.heap.size < w1.heap.size := by omega); (try have hz2 : w.heap.size + 1 < w1.heap.size := by omega); (try have hz3 : w.heap.size + 1 + 1 < w1.heap.size := by omega); (try have hz4 : w.heap.size + 1 + 1 + 1 < w1.heap.size := by omega)) | (go_at_call 52; refine (isPointS_c _ _ _).mono ?_; rintro e w1 ⟨rfl, hb⟩; (try replace hb := below_trans (by with_reducible assumption) hb); obtain ⟨hc, hf⟩ := bcell hb; have hz := hb.size; (try simp at hz); (try have hz0 : w.heap.size ≤ w1.heap.size := by omega); (try have hz1 : w.heap.size < w1.heap.size := by omega); (try have hz2 : w.heap.size + 1 < w1.heap.size := by omega); (try have hz3 : w.heap.size + 1 + 1 < w1.heap.size := by omega); (try have hz4 : w.heap.size + 1 + 1 + 1 < w1.heap.size := by omega)))
  go_loopw [6, 7] (fun x y wr => ∃ k c : Nat, x = .int .i64 c ∧ y = .int .i64 k ∧ Hid (cls l px py k = c) ∧ 1 ≤ k ∧ c < l.length ∧ k ≤ l.length ∧ Below (w.heap.size + 2) ((w.alloc (.cells #[.slice a l.length cap] 29)).alloc (.cells #[.int .i64 px, .int .i64 py] 37)) wr) (fun _ y _ => l.length - (intOf y).toNat)
  case atStart => exact ⟨1, 0, rfl, rfl, Lib.hid (by simp [cls]), Nat.le_refl _, by omega, by omega, (by repeat (first | with_reducible exact Below.refl _ _ | with_reducible assumption | with_reducible refine Below.drew ?_ | with_reducible refine Below.alloc ?_ (by first | exact Nat.le_refl _ | (simp; done) | (simp; omega) | omega) _ | with_reducible refine Below.setCell ?_ (by first | exact Nat.le_refl _ | (simp; done) | (simp; omega) | omega) _ | with_reducible refine Below.trans ?_ (Below.mono (by with_reducible assumption) (by first | exact Nat.le_refl _ | (simp; done) | (simp; omega) | omega))))⟩
  case round =>
    obtain ⟨k, c, rfl, rfl, he, h1, hcl, hk, hbl⟩ := hrel
    have cb := hbl.cell (p := ⟨w.heap.size, 0, none⟩) (by simp)
    have cp := hbl.cell (p := ⟨w.heap.size + 1, 0, none⟩) (by simp)
    have cq := hbl.cell (p := ⟨w.heap.size + 1, 1, none⟩) (by simp)
    have hz := hbl.size
    simp at cb cp cq hz
    have hlx : w.heap.size < wr.heap.size := by omega
    have hly : w.heap.size + 1 < wr.heap.size := by omega
    have HB : Below w.heap.size w wr := (by repeat (first | with_reducible exact Below.refl _ _ | with_reducible assumption | with_reducible refine Below.drew ?_ | with_reducible refine Below.alloc ?_ (by first | exact Nat.le_refl _ | (simp; done) | (simp; omega) | omega) _ | with_reducible refine Below.setCell ?_ (by first | exact Nat.le_refl _ | (simp; done) | (simp; omega) | omega) _ | with_reducible refine Below.trans ?_ (Below.mono (by with_reducible assumption) (by first | exact Nat.le_refl _ | (simp; done) | (simp; omega) | omega))))
    by_cases h : k < l.length
    · obtain ⟨b, off, rfl, hlt, hcs⟩ := (FixAt.below hF0.out HB).head (by omega)
      obtain ⟨c0, c1, c2⟩ := hcs k h
      obtain ⟨d0, d1, d2⟩ := hcs c hcl
      clear hcs HB
      have h' : (k : Int) < (l.length : Int) := by omega
      have h'' : (c : Int) < (l.length : Int) := by omega
      have hP := HPT.out k h
      have hC := HPT.out c hcl
      by_cases h3 : sqZ (fx l k).x (fx l k).y px py < sqZ (fx l c).x (fx l c).y px py
      · have E := Lib.hid (show cls l px py (k + 1) = k by simp only [cls, he.out, sqAt]; rw [if_pos h3])
        go_wp2
        refine wp_region_later (by kernel_rfl) (by kernel_rfl) ?_
        repeat (first | go_big_quiet_step ((first | (go_at_call 53; exact later_of _ (l03Point_c _ _ _ _)) | (go_at_call 59; exact later_of _ (l01Square_c _ _ _ _ _ (by assumption) (by assumption))))) | quiet_step ((first | (go_at_call 53; exact later_of _ (l03Point_c _ _ _ _)) | (go_at_call 59; exact later_of _ (l01Square_c _ _ _ _ _ (by assumption) (by assumption))))))
        refine wpQuiet_nil ?_
        intro _ hw'
        obtain ⟨s1, hw''⟩ := hw'
        subst hw''
        have hb1 := s1.below
        generalize s1.w = w1 at hb1 ⊢
        clear s1
        try replace hb1 := below_trans (by with_reducible assumption) hb1
        obtain ⟨hc1, hf1⟩ := bcell hb1
        have hz1 := hb1.size
        try simp at hz1
        try have hz10 : w.heap.size ≤ w1.heap.size := by omega
        try have hz11 : w.heap.size < w1.heap.size := by omega
        try have hz12 : w.heap.size + 1 < w1.heap.size := by omega
        try have hz13 : w.heap.size + 1 + 1 < w1.heap.size := by omega
        try have hz14 : w.heap.size + 1 + 1 + 1 < w1.heap.size := by omega
        go_wp2
        exact ⟨⟨k + 1, k, by simp, by simp, E, by omega, by omega, by omega, hbl.trans (hb1.mono hz)⟩, by simp [intOf]; omega⟩
      · have E := Lib.hid (show cls l px py (k + 1) = c by simp only [cls, he.out, sqAt]; rw [if_neg h3])
        go_wp2
        refine wp_region_later (by kernel_rfl) (by kernel_rfl) ?_
        repeat (first | go_big_quiet_step ((first | (go_at_call 53; exact later_of _ (l03Point_c _ _ _ _)) | (go_at_call 59; exact later_of _ (l01Square_c _ _ _ _ _ (by assumption) (by assumption))))) | quiet_step ((first | (go_at_call 53; exact later_of _ (l03Point_c _ _ _ _)) | (go_at_call 59; exact later_of _ (l01Square_c _ _ _ _ _ (by assumption) (by assumption))))))
        refine wpQuiet_nil ?_
        intro _ hw'
        obtain ⟨s1, hw''⟩ := hw'
        subst hw''
        have hb1 := s1.below
        generalize s1.w = w1 at hb1 ⊢
        clear s1
        try replace hb1 := below_trans (by with_reducible assumption) hb1
        obtain ⟨hc1, hf1⟩ := bcell hb1
        have hz1 := hb1.size
        try simp at hz1
        try have hz10 : w.heap.size ≤ w1.heap.size := by omega
        try have hz11 : w.heap.size < w1.heap.size := by omega
        try have hz12 : w.heap.size + 1 < w1.heap.size := by omega
        try have hz13 : w.heap.size + 1 + 1 < w1.heap.size := by omega
        try have hz14 : w.heap.size + 1 + 1 + 1 < w1.heap.size := by omega
        go_wp2
        exact ⟨⟨k + 1, c, by simp, by simp, E, by omega, by omega, by omega, hbl.trans (hb1.mono hz)⟩, by simp [intOf]; omega⟩
    · have E := Lib.hid (show cls l px py l.length = c by rw [← he.out, show l.length = k by omega])
      have h' : (l.length : Int) ≤ (k : Int) := by omega
      go_wp2
      go_ret2
      exact ⟨by rw [HF.out, E.out]; rfl, (by repeat (first | with_reducible exact Below.refl _ _ | with_reducible assumption | with_reducible refine Below.drew ?_ | with_reducible refine Below.alloc ?_ (by first | exact Nat.le_refl _ | (simp; done) | (simp; omega) | omega) _ | with_reducible refine Below.setCell ?_ (by first | exact Nat.le_refl _ | (simp; done) | (simp; omega) | omega) _ | with_reducible refine Below.trans ?_ (Below.mono (by with_reducible assumption) (by first | exact Nat.le_refl _ | (simp; done) | (simp; omega) | omega))))⟩
end Go.Proofs.Ytdgmadpkhdfapaa
