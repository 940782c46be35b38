/-
  The equality of courses that the laws use. Conditions: where their marks lie.
-/
import Derived.Test.YtbeigoejdckpiaaDoorCrsT
namespace Go.Proofs.YtbeigoejdckpiaaDoor
set_option linter.unusedVariables false
open Go.RowKit Go.Deep

set_option maxRecDepth 100000 in
set_option maxHeartbeats 4000000 in
theorem w9Courses_c (x0 x1 x2 x3 x4 x5 x6 x7 : Int) (a a' : Option Addr) (cap cap' : Nat) (l : List Mk) (w : World) (hl : l.length ≤ 9223372036854775807) (h : RowAt w a (mflat l)) (h' : RowAt w a' (mflat l)) : Calls Tryd.prog 23 #[.agg #[.int .i64 x0, .int .i64 x1, .int .i64 x2, .int .i64 x3, .int .i64 x4, .int .i64 x5, .int .i64 x6, .int .i64 x7, .slice a l.length cap], .agg #[.int .i64 x0, .int .i64 x1, .int .i64 x2, .int .i64 x3, .int .i64 x4, .int .i64 x5, .int .i64 x6, .int .i64 x7, .slice a' l.length cap']] w fun e w' => e = .returned (.bool true) ∧ Below w.heap.size w w' := by
  have H0 := Lib.hid h
  have H1 := Lib.hid h'
  clear h h'
  go_enter Tryd.func23, Tryd.ntmps23
  go_wp2_with fail
  obtain ⟨W, hW⟩ : ∃ W, W = ((w.alloc (.cells #[.int .i64 x0, .int .i64 x1, .int .i64 x2, .int .i64 x3, .int .i64 x4, .int .i64 x5, .int .i64 x6, .int .i64 x7, .slice a l.length cap] 36)).alloc (.cells #[.int .i64 x0, .int .i64 x1, .int .i64 x2, .int .i64 x3, .int .i64 x4, .int .i64 x5, .int .i64 x6, .int .i64 x7, .slice a' l.length cap'] 36)) := ⟨_, rfl⟩
  have HD : Below w.heap.size w W := by subst hW; exact (by repeat (first | with_reducible exact Below.refl _ _ | with_reducible assumption | with_reducible refine Below.drew ?_ | with_reducible refine Below.alloc ?_ (by first | exact Nat.le_refl _ | (simp; done) | (simp; omega) | omega) _ | with_reducible refine Below.setCell ?_ (by first | exact Nat.le_refl _ | (simp; done) | (simp; omega) | omega) _ | with_reducible refine Below.trans ?_ (Below.mono (by with_reducible assumption) (by first | exact Nat.le_refl _ | (simp; done) | (simp; omega) | omega))))
  have b00 : W.cell? ⟨w.heap.size, 0, none⟩ = some (.int .i64 x0) := by subst hW; simp [go_sem]
  have b01 : W.cell? ⟨w.heap.size, 1, none⟩ = some (.int .i64 x1) := by subst hW; simp [go_sem]
  have b02 : W.cell? ⟨w.heap.size, 2, none⟩ = some (.int .i64 x2) := by subst hW; simp [go_sem]
  have b03 : W.cell? ⟨w.heap.size, 3, none⟩ = some (.int .i64 x3) := by subst hW; simp [go_sem]
  have b04 : W.cell? ⟨w.heap.size, 4, none⟩ = some (.int .i64 x4) := by subst hW; simp [go_sem]
  have b05 : W.cell? ⟨w.heap.size, 5, none⟩ = some (.int .i64 x5) := by subst hW; simp [go_sem]
  have b06 : W.cell? ⟨w.heap.size, 6, none⟩ = some (.int .i64 x6) := by subst hW; simp [go_sem]
  have b07 : W.cell? ⟨w.heap.size, 7, none⟩ = some (.int .i64 x7) := by subst hW; simp [go_sem]
  have b08 : W.cell? ⟨w.heap.size, 8, none⟩ = some (.slice a l.length cap) := by subst hW; simp [go_sem]
  have L0 : w.heap.size < W.heap.size := by subst hW; first | (simp; done) | (simp; omega)
  have b10 : W.cell? ⟨w.heap.size + 1, 0, none⟩ = some (.int .i64 x0) := by subst hW; simp [go_sem]
  have b11 : W.cell? ⟨w.heap.size + 1, 1, none⟩ = some (.int .i64 x1) := by subst hW; simp [go_sem]
  have b12 : W.cell? ⟨w.heap.size + 1, 2, none⟩ = some (.int .i64 x2) := by subst hW; simp [go_sem]
  have b13 : W.cell? ⟨w.heap.size + 1, 3, none⟩ = some (.int .i64 x3) := by subst hW; simp [go_sem]
  have b14 : W.cell? ⟨w.heap.size + 1, 4, none⟩ = some (.int .i64 x4) := by subst hW; simp [go_sem]
  have b15 : W.cell? ⟨w.heap.size + 1, 5, none⟩ = some (.int .i64 x5) := by subst hW; simp [go_sem]
  have b16 : W.cell? ⟨w.heap.size + 1, 6, none⟩ = some (.int .i64 x6) := by subst hW; simp [go_sem]
  have b17 : W.cell? ⟨w.heap.size + 1, 7, none⟩ = some (.int .i64 x7) := by subst hW; simp [go_sem]
  have b18 : W.cell? ⟨w.heap.size + 1, 8, none⟩ = some (.slice a' l.length cap') := by subst hW; simp [go_sem]
  have L1 : w.heap.size + 1 < W.heap.size := by subst hW; first | (simp; done) | (simp; omega)
  rw [← hW]
  clear hW
  generalize w.heap.size + 1 = B1 at *
  obtain ⟨B0, hB0⟩ : ∃ B, B = w.heap.size := ⟨_, rfl⟩
  rw [← hB0] at b00 b01 b02 b03 b04 b05 b06 b07 b08 L0
  try rw [← hB0]
  replace hB0 := Lib.hid hB0
  have F0 := Lib.hid (H0.out.below HD)
  have F1 := Lib.hid (H1.out.below HD)
  clear H0 H1
  go_wp2_with fail
  clear b00 b01 b02 b03 b04 b05 b06 b07 b10 b11 b12 b13 b14 b15 b16 b17
  go_loopw [5] (fun v wr => ∃ k : Nat, v = .int .i64 k ∧ k ≤ l.length ∧ wr.cell? ⟨B0, 8, none⟩ = some (.slice a l.length cap) ∧ wr.cell? ⟨B1, 8, none⟩ = some (.slice a' l.length cap') ∧ B0 < wr.heap.size ∧ B1 < wr.heap.size ∧ Hid (RowAt wr a (mflat l)) ∧ Hid (RowAt wr a' (mflat l)) ∧ Below w.heap.size w wr) (fun v _ => l.length - (intOf v).toNat)
  case atStart => exact ⟨0, rfl, Nat.zero_le _, b08, b18, L0, L1, F0, F1, HD⟩
  case round =>
    clear b08 b18 L0 L1 F0 F1 HD
    obtain ⟨k, rfl, hle, b08, b18, L0, L1, F0, F1, HD⟩ := hrel
    by_cases h : k < l.length
    · obtain ⟨b, off, rfl, hb, c0, c1, c2, c3, c4⟩ := mark_cell F0.out h
      obtain ⟨b', off', rfl, hb', d0, d1, d2, d3, d4⟩ := mark_cell F1.out h
      have hh : (k : Int) < (l.length : Int) := by omega
      have hh0 : (0 : Int) ≤ (k : Int) := by omega
      generalize hm : mk l k = m at *
      clear hm
      obtain ⟨n0, u0, u1, u2, u3⟩ := m
      dsimp only at c0 c1 c2 c3 c4 d0 d1 d2 d3 d4
      go_wp2_with fail
      refine wp_region_later (by kernel_rfl) (by kernel_rfl) ?_
      repeat (first | go_big_quiet_step (fail) | quiet_step (fail))
      refine wpQuiet_nil ?_
      intro _ hw'
      obtain ⟨s9, hw''⟩ := hw'
      subst hw''
      have hb := s9.below
      generalize s9.w = V2 at hb ⊢
      clear s9
      replace HD := HD.trans (hb.mono HD.size)
      obtain ⟨hc, hf⟩ := bcell hb
      have hz := hb.size
      replace b08 := (hc _ 8 L0).trans b08
      replace b18 := (hc _ 8 L1).trans b18
      replace F0 := Lib.hid (RowAt.below F0.out hb)
      replace F1 := Lib.hid (RowAt.below F1.out hb)
      replace L0 := Nat.lt_of_lt_of_le L0 hz
      replace L1 := Nat.lt_of_lt_of_le L1 hz
      clear hc hf hz hb
      clear c0 c1 c2 c3 c4 d0 d1 d2 d3 d4 hb'
      go_wp2_with fail
      exact ⟨⟨k + 1, by simp, by omega, b08, b18, L0, L1, F0, F1, HD⟩, by simp [intOf]; omega⟩
    · have hh : ¬ (k : Int) < (l.length : Int) := by omega
      go_wp2_with fail
      go_ret
      exact ⟨rfl, HD⟩
end Go.Proofs.YtbeigoejdckpiaaDoor
