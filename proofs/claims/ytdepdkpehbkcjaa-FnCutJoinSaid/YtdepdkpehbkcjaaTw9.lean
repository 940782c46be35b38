/-
  The equality of tracks that the laws use. Conditions: where their fixes lie.
-/
import Derived.Test.YtdepdkpehbkcjaaL03t
namespace Go.Proofs.Ytdepdkpehbkcjaa
set_option linter.unusedVariables false
open Go.RowKit Go.Deep

set_option maxRecDepth 100000 in
set_option maxHeartbeats 2000000 in
theorem w9Tracks_c (a a' : Option Addr) (cap cap' : Nat) (l : List Fx) (w : World) (hl : l.length ≤ 9223372036854775807) (h : FixAt w a l) (h' : FixAt w a' l) : Calls Try.prog 22 #[.agg #[.slice a l.length cap], .agg #[.slice a' l.length cap']] w fun e w' => e = .returned (.bool true) ∧ Below w.heap.size w w' := by
  have H0 := Lib.hid h
  have H1 := Lib.hid h'
  clear h h'
  go_enter Try.func22, Try.ntmps22
  go_wp2_with fail
  obtain ⟨W, hW⟩ : ∃ W, W = ((w.alloc (.cells #[.slice a l.length cap] 26)).alloc (.cells #[.slice a' l.length cap'] 26)) := ⟨_, rfl⟩
  have HD : Below w.heap.size w W := by subst hW; exact (by repeat (first | with_reducible exact Below.refl _ _ | with_reducible assumption | with_reducible refine Below.drew ?_ | with_reducible refine Below.alloc ?_ (by first | exact Nat.le_refl _ | (simp; done) | (simp; omega) | omega) _ | with_reducible refine Below.setCell ?_ (by first | exact Nat.le_refl _ | (simp; done) | (simp; omega) | omega) _ | with_reducible refine Below.trans ?_ (Below.mono (by with_reducible assumption) (by first | exact Nat.le_refl _ | (simp; done) | (simp; omega) | omega))))
  have b00 : W.cell? ⟨w.heap.size, 0, none⟩ = some (.slice a l.length cap) := by subst hW; simp [go_sem]
  have L0 : w.heap.size < W.heap.size := by subst hW; first | (simp; done) | (simp; omega)
  have b10 : W.cell? ⟨w.heap.size + 1, 0, none⟩ = some (.slice a' l.length cap') := by subst hW; simp [go_sem]
  have L1 : w.heap.size + 1 < W.heap.size := by subst hW; first | (simp; done) | (simp; omega)
  rw [← hW]
  clear hW
  generalize w.heap.size + 1 = B1 at *
  obtain ⟨B0, hB0⟩ : ∃ B, B = w.heap.size := ⟨_, rfl⟩
  rw [← hB0] at b00 L0
  try rw [← hB0]
  replace hB0 := Lib.hid hB0
  have F0 := Lib.hid (H0.out.below HD)
  have F1 := Lib.hid (H1.out.below HD)
  clear H0 H1
  go_wp2_with fail
  go_loopw [5] (fun v wr => ∃ k : Nat, v = .int .i64 k ∧ k ≤ l.length ∧ wr.cell? ⟨B0, 0, none⟩ = some (.slice a l.length cap) ∧ wr.cell? ⟨B1, 0, none⟩ = some (.slice a' l.length cap') ∧ B0 < wr.heap.size ∧ B1 < wr.heap.size ∧ Hid (FixAt wr a l) ∧ Hid (FixAt wr a' l) ∧ Below w.heap.size w wr) (fun v _ => l.length - (intOf v).toNat)
  case atStart => exact ⟨0, rfl, Nat.zero_le _, b00, b10, L0, L1, F0, F1, HD⟩
  case round =>
    clear b00 b10 L0 L1 F0 F1 HD
    obtain ⟨k, rfl, hle, b00, b10, L0, L1, F0, F1, HD⟩ := hrel
    by_cases h : k < l.length
    · obtain ⟨b, off, rfl, hb, c0, c1, c2⟩ := F0.out k _ (fx_of h)
      obtain ⟨b', off', rfl, hb', d0, d1, d2⟩ := F1.out k _ (fx_of h)
      have hh : (k : Int) < (l.length : Int) := by omega
      have hh0 : (0 : Int) ≤ (k : Int) := by omega
      generalize hm : fx l k = m at *
      clear hm
      obtain ⟨u0, u1, u2⟩ := m
      dsimp only at c0 c1 c2 d0 d1 d2
      go_wp2_with fail
      refine wp_region_later (by kernel_rfl) (by kernel_rfl) ?_
      repeat (first | go_big_quiet_step (fail) | quiet_step (fail))
      refine wpQuiet_nil ?_
      intro _ hw'
      obtain ⟨s9, hw''⟩ := hw'
      subst hw''
      have hb := s9.below
      generalize s9.w = V2 at hb ⊢
      clear s9
      replace HD := HD.trans (hb.mono HD.size)
      obtain ⟨hc, hf⟩ := bcell hb
      have hz := hb.size
      replace b00 := (hc _ 0 L0).trans b00
      replace b10 := (hc _ 0 L1).trans b10
      replace F0 := Lib.hid (FixAt.below F0.out hb)
      replace F1 := Lib.hid (FixAt.below F1.out hb)
      replace L0 := Nat.lt_of_lt_of_le L0 hz
      replace L1 := Nat.lt_of_lt_of_le L1 hz
      clear hc hf hz hb
      clear c0 c1 c2 d0 d1 d2 hb'
      go_wp2_with fail
      exact ⟨⟨k + 1, by simp, by omega, b00, b10, L0, L1, F0, F1, HD⟩, by simp [intOf]; omega⟩
    · have hh : ¬ (k : Int) < (l.length : Int) := by omega
      go_wp2_with fail
      go_ret
      exact ⟨rfl, HD⟩
end Go.Proofs.Ytdepdkpehbkcjaa
