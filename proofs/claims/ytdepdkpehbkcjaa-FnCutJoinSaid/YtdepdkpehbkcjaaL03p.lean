/-
  The position on a track, the program's. Conditions: the cells lie in the world; what else stands with each.
-/
import Derived.Test.YtdepdkpehbkcjaaL03k
import Derived.Test.YtdepdkpehbkcjaaH4
namespace Go.Proofs.Ytdepdkpehbkcjaa
set_option linter.unusedVariables false
open Go.RowKit Go.Deep

theorem h4_undrew {W wx : World} {B : Nat} (h : ((∀ b o, b < W.heap.size → b ≠ B → wx.drew.cell? ⟨b, o, none⟩ = W.cell? ⟨b, o, none⟩) ∧ wx.drew.cell? ⟨B, 0, none⟩ = some (.int .i64 (rd wx.drew ⟨B, 0, none⟩)) ∧ wx.drew.cell? ⟨B, 1, none⟩ = some (.int .i64 (rd wx.drew ⟨B, 1, none⟩)) ∧ wx.drew.frozen? ⟨B, 0, none⟩ = false ∧ wx.drew.frozen? ⟨B, 1, none⟩ = false ∧ Kept B W wx.drew)) : ((∀ b o, b < W.heap.size → b ≠ B → wx.cell? ⟨b, o, none⟩ = W.cell? ⟨b, o, none⟩) ∧ wx.cell? ⟨B, 0, none⟩ = some (.int .i64 (rd wx ⟨B, 0, none⟩)) ∧ wx.cell? ⟨B, 1, none⟩ = some (.int .i64 (rd wx ⟨B, 1, none⟩)) ∧ wx.frozen? ⟨B, 0, none⟩ = false ∧ wx.frozen? ⟨B, 1, none⟩ = false ∧ Kept B W wx) :=
  ⟨h.1, h.2.1, h.2.2.1, h.2.2.2.1, h.2.2.2.2.1, ⟨h.2.2.2.2.2.os, h.2.2.2.2.2.tape, h.2.2.2.2.2.output, h.2.2.2.2.2.size, h.2.2.2.2.2.block⟩⟩
theorem h4_drew {W wx : World} {B : Nat} (h : ((∀ b o, b < W.heap.size → b ≠ B → wx.cell? ⟨b, o, none⟩ = W.cell? ⟨b, o, none⟩) ∧ wx.cell? ⟨B, 0, none⟩ = some (.int .i64 (rd wx ⟨B, 0, none⟩)) ∧ wx.cell? ⟨B, 1, none⟩ = some (.int .i64 (rd wx ⟨B, 1, none⟩)) ∧ wx.frozen? ⟨B, 0, none⟩ = false ∧ wx.frozen? ⟨B, 1, none⟩ = false ∧ Kept B W wx)) : ((∀ b o, b < W.heap.size → b ≠ B → wx.drew.cell? ⟨b, o, none⟩ = W.cell? ⟨b, o, none⟩) ∧ wx.drew.cell? ⟨B, 0, none⟩ = some (.int .i64 (rd wx.drew ⟨B, 0, none⟩)) ∧ wx.drew.cell? ⟨B, 1, none⟩ = some (.int .i64 (rd wx.drew ⟨B, 1, none⟩)) ∧ wx.drew.frozen? ⟨B, 0, none⟩ = false ∧ wx.drew.frozen? ⟨B, 1, none⟩ = false ∧ Kept B W wx.drew) :=
  ⟨h.1, h.2.1, h.2.2.1, h.2.2.2.1, h.2.2.2.2.1, h.2.2.2.2.2.drew⟩
set_option maxRecDepth 100000 in
set_option maxHeartbeats 4000000 in
theorem positionAt_c (a : Option Addr) (cap : Nat) (l : List Fx) (t : Int) (w : World) (hl : l.length ≤ 4611686018427387904) (e1 : isTrk l = true) (e2 : lastsB l t = true) (hf : FixAt w a l) : Calls Try.prog 68 #[.agg #[.slice a l.length cap], .int .i64 t] w fun e w' => e = .returned (.agg #[.int .i64 (posX l t), .int .i64 (posY l t)]) ∧ Below w.heap.size w w' := by
  have h2 := (isTrk_true e1).1
  have hk := legN_lt t h2
  obtain ⟨hp, hq, t0, t1, t2⟩ := leg_facts e1 hk
  obtain ⟨u1, u2⟩ := legN_times e1 e2
  have HL := Lib.hid (fun w h => legAt_c a cap l t w hl h2 h)
  unfold posX posY placeZ
  generalize legN l t = k at *
  obtain ⟨p1, p2, p3, p4⟩ := isPt_true hp
  obtain ⟨q1, q2, q3, q4⟩ := isPt_true hq
  have hF0 := Lib.hid hf
  obtain ⟨b, off, rfl, hlt, hcs⟩ := hf.head (by omega)
  obtain ⟨c0, c1, c2⟩ := hcs k (by omega)
  obtain ⟨m, hm⟩ : ∃ m, m = k + 1 := ⟨_, rfl⟩
  obtain ⟨d0, d1, d2⟩ := hcs m (by omega)
  clear hcs hf hp hq e1 e2
  have g1 : (k : Int) < (l.length : Int) := by omega
  have g2 : (m : Int) < (l.length : Int) := by omega
  have g3 : (k : Int) + 1 = (m : Int) := by omega
  have g4 : IntKind.i64.wrap (m : Int) = (m : Int) := by rw [IntKind.wrap_i64]; omega
  simp only [← hm] at *
  clear hm
  generalize fx l k = fk at *
  generalize fx l m = fm at *
  have x1 := mul_bd (a := fm.x - fk.x) (b := t - fk.t) (m := 2000000) (n := 1000000000) (by omega) (by omega) (by omega) (by omega)
  have y1 := mul_bd (a := fm.y - fk.y) (b := t - fk.t) (m := 2000000) (n := 1000000000) (by omega) (by omega) (by omega) (by omega)
  have x2 := place_bd (d := fm.x - fk.x) (n := t - fk.t) (m := fm.t - fk.t) (k := 2000000) (by omega) (by omega) (by omega) (by omega) (by omega) (by omega)
  have y2 := place_bd (d := fm.y - fk.y) (n := t - fk.t) (m := fm.t - fk.t) (k := 2000000) (by omega) (by omega) (by omega) (by omega) (by omega) (by omega)
  have x1a : -2000000000000000 ≤ (fm.x - fk.x) * (t - fk.t) := by omega
  have x1b : (fm.x - fk.x) * (t - fk.t) ≤ 2000000000000000 := by omega
  have y1a : -2000000000000000 ≤ (fm.y - fk.y) * (t - fk.t) := by omega
  have y1b : (fm.y - fk.y) * (t - fk.t) ≤ 2000000000000000 := by omega
  clear x1 y1
  obtain ⟨x2a, x2b⟩ := x2
  obtain ⟨y2a, y2b⟩ := y2
  have FX := Lib.hid (fun w => floorDiv_c ((fm.x - fk.x) * (t - fk.t)) (fm.t - fk.t) w (by omega) (by omega) (by omega) (by omega))
  have FY := Lib.hid (fun w => floorDiv_c ((fm.y - fk.y) * (t - fk.t)) (fm.t - fk.t) w (by omega) (by omega) (by omega) (by omega))
  have hlt1 : b < w.heap.size + 1 := by omega
  have hlt2 : b < w.heap.size + 1 + 1 := by omega
  go_enter Try.func68, Try.ntmps68
  go_upto_region 2 with (go_at_call 106; refine (HL.out _ (FixAt.below hF0.out (by repeat (first | with_reducible exact Below.refl _ _ | with_reducible assumption | with_reducible refine Below.drew ?_ | with_reducible refine Below.alloc ?_ (by first | exact Nat.le_refl _ | (simp; done) | (simp; omega) | omega) _ | with_reducible refine Below.setCell ?_ (by first | exact Nat.le_refl _ | (simp; done) | (simp; omega) | omega) _ | with_reducible refine Below.trans ?_ (Below.mono (by with_reducible assumption) (by first | exact Nat.le_refl _ | (simp; done) | (simp; omega) | omega)))))).mono ?_; rintro e w1 ⟨rfl, hb⟩; (try replace hb := below_trans (by with_reducible assumption) hb); obtain ⟨hc, hf⟩ := bcell hb; have hz := hb.size; (try simp at hz); (try have hz0 : w.heap.size ≤ w1.heap.size := by omega); (try have hz1 : w.heap.size < w1.heap.size := by omega); (try have hz2 : w.heap.size + 1 < w1.heap.size := by omega); (try have hz3 : w.heap.size + 1 + 1 < w1.heap.size := by omega); (try have hz4 : w.heap.size + 1 + 1 + 1 < w1.heap.size := by omega))
  obtain ⟨wA, hwA⟩ : ∃ x : World, x = w1 := ⟨_, rfl⟩
  subst hwA
  have HA : Below w.heap.size w wA := (by repeat (first | with_reducible exact Below.refl _ _ | with_reducible assumption | with_reducible refine Below.drew ?_ | with_reducible refine Below.alloc ?_ (by first | exact Nat.le_refl _ | (simp; done) | (simp; omega) | omega) _ | with_reducible refine Below.setCell ?_ (by first | exact Nat.le_refl _ | (simp; done) | (simp; omega) | omega) _ | with_reducible refine Below.trans ?_ (Below.mono (by with_reducible assumption) (by first | exact Nat.le_refl _ | (simp; done) | (simp; omega) | omega))))
  have a1 : w.heap.size < wA.heap.size := by omega
  have a2 : w.heap.size + 1 < wA.heap.size := by omega
  have a3 : b < wA.heap.size := by omega
  have a4 : b < wA.heap.size + 1 := by omega
  have a5 : b < wA.heap.size + 1 + 1 := by omega
  have a6 : w.heap.size < wA.heap.size + 1 := by omega
  have a7 : w.heap.size < wA.heap.size + 1 + 1 := by omega
  have a8 : w.heap.size + 1 < wA.heap.size + 1 := by omega
  have a9 : w.heap.size + 1 < wA.heap.size + 1 + 1 := by omega
  have z0 : wA.cell? ⟨w.heap.size + 1, 0, none⟩ = some (.int .i64 0) := by simp [go_sem, *]
  have z1 : wA.cell? ⟨w.heap.size + 1, 1, none⟩ = some (.int .i64 0) := by simp [go_sem, *]
  have z2 : wA.frozen? ⟨w.heap.size + 1, 0, none⟩ = false := by simp [go_sem, *]
  have z3 : wA.frozen? ⟨w.heap.size + 1, 1, none⟩ = false := by simp [go_sem, *]
  go_cut [6, 7] (fun s6 s7 wx => ∃ B C : Nat, s6 = .pointer (some ⟨B, 0, none⟩) ∧ s7 = .pointer (some ⟨C, 0, none⟩) ∧ wx.cell? ⟨B, 0, none⟩ = some (.int .i64 fk.t) ∧ wx.cell? ⟨B, 1, none⟩ = some (.int .i64 fk.x) ∧ wx.cell? ⟨B, 2, none⟩ = some (.int .i64 fk.y) ∧ wx.cell? ⟨C, 0, none⟩ = some (.int .i64 fm.t) ∧ wx.cell? ⟨C, 1, none⟩ = some (.int .i64 fm.x) ∧ wx.cell? ⟨C, 2, none⟩ = some (.int .i64 fm.y) ∧ wA.heap.size ≤ B ∧ wA.heap.size ≤ C ∧ B < wx.heap.size ∧ C < wx.heap.size ∧ Below wA.heap.size wA wx)
  case first =>
    go_region
    all_goals (go_wp2_with fail)
    all_goals (go_meet; exact ⟨_, _, rfl, rfl, by simp [go_sem, *], by simp [go_sem, *], by simp [go_sem, *], by simp [go_sem, *], by simp [go_sem, *], by simp [go_sem, *], by first | (simp; done) | (simp; omega), by first | (simp; done) | (simp; omega), by first | (simp; done) | (simp; omega), by first | (simp; done) | (simp; omega), (by repeat (first | with_reducible exact Below.refl _ _ | with_reducible assumption | with_reducible refine Below.drew ?_ | with_reducible refine Below.alloc ?_ (by first | exact Nat.le_refl _ | (simp; done) | (simp; omega) | omega) _ | with_reducible refine Below.setCell ?_ (by first | exact Nat.le_refl _ | (simp; done) | (simp; omega) | omega) _ | with_reducible refine Below.trans ?_ (Below.mono (by with_reducible assumption) (by first | exact Nat.le_refl _ | (simp; done) | (simp; omega) | omega))))⟩)
  case rest =>
    obtain ⟨B, C, rfl, rfl, b0, b1, b2, d0, d1, d2, hB, hC, lB, lC, hbc⟩ := hcut
    obtain ⟨hcc, hfc⟩ := bcell hbc
    have hzc := hbc.size
    have y0 := (hcc _ _ a2).trans z0
    have y1 := (hcc _ _ a2).trans z1
    have y2 := (hfc _ 0 a2).trans z2
    have y3 := (hfc _ 1 a2).trans z3
    have nB : B ≠ w.heap.size + 1 := by omega
    have nC : C ≠ w.heap.size + 1 := by omega
    clear hcc hfc a1 a3 a4 a5 a6 a7 a8 a9 z0 z1 z2 z3 c0 c1 c2 hlt hlt1 hlt2
    go_wp2_with fail
    have HBC := Lib.hid hbc
    clear hbc
    refine wp_region_later (by kernel_rfl) (by kernel_rfl) ?_
    repeat (first | go_big_quiet_step (fail) | quiet_step (fail))
    refine wpQuiet_nil ?_
    intro _ hw'
    obtain ⟨s3, hw''⟩ := hw'
    subst hw''
    have hb3 := s3.below
    generalize s3.w = w3 at hb3 ⊢
    clear s3
    try replace hb3 := below_trans (by with_reducible assumption) hb3
    obtain ⟨hc3, hf3⟩ := bcell hb3
    have hz3 := hb3.size
    try simp at hz3
    try have hz30 : w.heap.size ≤ w3.heap.size := by omega
    try have hz31 : w.heap.size < w3.heap.size := by omega
    try have hz32 : w.heap.size + 1 < w3.heap.size := by omega
    try have hz33 : w.heap.size + 1 + 1 < w3.heap.size := by omega
    try have hz34 : w.heap.size + 1 + 1 + 1 < w3.heap.size := by omega
    have hbc := HBC.out
    have HC : Below w.heap.size w wc := HA.trans (hbc.mono HA.size)
    have HD : Below w.heap.size w w3 := HC.trans (hb3.mono HC.size)
    have y0 := (hc3 _ _ (Nat.lt_of_lt_of_le a2 hzc)).trans y0
    have y1 := (hc3 _ _ (Nat.lt_of_lt_of_le a2 hzc)).trans y1
    have y2 := (hf3 _ 0 (Nat.lt_of_lt_of_le a2 hzc)).trans y2
    have y3 := (hf3 _ 1 (Nat.lt_of_lt_of_le a2 hzc)).trans y3
    have b1 := (hc3 _ _ lB).trans b1
    have b2 := (hc3 _ _ lB).trans b2
    have d1 := (hc3 _ _ lC).trans d1
    have d2 := (hc3 _ _ lC).trans d2
    have lB := Nat.lt_of_lt_of_le lB hz3
    have lC := Nat.lt_of_lt_of_le lC hz3
    have hl4 : w.heap.size + 1 < w3.heap.size := by omega
    clear hc3 hf3
    have r1 : IntKind.i64.wrap (fm.x - fk.x) = fm.x - fk.x := by rw [IntKind.wrap_i64]; omega
    have r2 : IntKind.i64.wrap (fm.y - fk.y) = fm.y - fk.y := by rw [IntKind.wrap_i64]; omega
    have r3 : IntKind.i64.wrap ((fm.x - fk.x) * (t - fk.t)) = (fm.x - fk.x) * (t - fk.t) := by rw [IntKind.wrap_i64]; omega
    have r4 : IntKind.i64.wrap ((fm.y - fk.y) * (t - fk.t)) = (fm.y - fk.y) * (t - fk.t) := by rw [IntKind.wrap_i64]; omega
    have r5 : IntKind.i64.wrap (fk.x + (fm.x - fk.x) * (t - fk.t) / (fm.t - fk.t)) = fk.x + (fm.x - fk.x) * (t - fk.t) / (fm.t - fk.t) := by rw [IntKind.wrap_i64]; omega
    have r6 : IntKind.i64.wrap (fk.y + (fm.y - fk.y) * (t - fk.t) / (fm.t - fk.t)) = fk.y + (fm.y - fk.y) * (t - fk.t) / (fm.t - fk.t) := by rw [IntKind.wrap_i64]; omega
    go_wp2_with fail
    go_region_held3 (fun wx => ((∀ b o, b < w3.heap.size → b ≠ (w.heap.size + 1) → wx.cell? ⟨b, o, none⟩ = w3.cell? ⟨b, o, none⟩) ∧ wx.cell? ⟨(w.heap.size + 1), 0, none⟩ = some (.int .i64 (rd wx ⟨(w.heap.size + 1), 0, none⟩)) ∧ wx.cell? ⟨(w.heap.size + 1), 1, none⟩ = some (.int .i64 (rd wx ⟨(w.heap.size + 1), 1, none⟩)) ∧ wx.frozen? ⟨(w.heap.size + 1), 0, none⟩ = false ∧ wx.frozen? ⟨(w.heap.size + 1), 1, none⟩ = false ∧ Kept (w.heap.size + 1) w3 wx))
      (first | with_reducible assumption | with_reducible exact h4_below (by with_reducible assumption) hl4 hb | with_reducible exact h4_set1 (h4_set0 (by with_reducible assumption) _) _ | exact h4_mk (Kept.refl _ _).drew y0 y1 y2 y3 | exact h4_drew (h4_set1 (h4_set0 (h4_mk (Kept.refl _ _) y0 y1 y2 y3) _) _))
      (first | (go_at_call_of 107 (fm.x); refine (FX.out _).mono ?_; rintro e w' ⟨rfl, rfl⟩) | (go_at_call_of 107 (fm.y); refine (FY.out _).mono ?_; rintro e w' ⟨rfl, rfl⟩))
    all_goals go_wp2
    all_goals have hS := h4_undrew (W := w3) (B := w.heap.size + 1) (by with_reducible assumption)
    all_goals have hv := h4_vals hS
    all_goals obtain ⟨hv0, hv1⟩ := hv
    all_goals have v0 := hS.2.1
    all_goals have v1 := hS.2.2.1
    all_goals have hK := h4_kept hS
    all_goals exact bodyPost_ret (v := .agg #[.int .i64 (fk.x + (fm.x - fk.x) * (t - fk.t) / (fm.t - fk.t)), .int .i64 (fk.y + (fm.y - fk.y) * (t - fk.t) / (fm.t - fk.t))]) (by simp [results, Try.results68, go_sem, v0, v1, hv0, hv1]) rfl ⟨rfl, kept_end HD (Nat.le_succ _) hK.drew⟩
end Go.Proofs.Ytdepdkpehbkcjaa
