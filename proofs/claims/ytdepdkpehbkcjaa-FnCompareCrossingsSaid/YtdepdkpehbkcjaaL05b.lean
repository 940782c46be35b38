/-
  The exact time of a crossing and the comparison of two: the program's functions and the reference's. Conditions stand with each.
-/
import Derived.Test.YtdepdkpehbkcjaaL05a
import Derived.Test.YtdepdkpehbkcjaaH4
namespace Go.Proofs.Ytdepdkpehbkcjaa
set_option linter.unusedVariables false
open Go.RowKit Go.Deep

set_option maxRecDepth 100000 in
set_option maxHeartbeats 4000000 in
theorem exactTime_c (a : Option Addr) (cap : Nat) (l : List Fx) (t way n d : Int) (k : Nat) (w : World) (hl : l.length ≤ 4611686018427387904) (e1 : isTrk l = true) (hk : k + 1 < l.length) (hp : placeOK n d = true) (hf : FixAt w a l) : Calls Try.prog 81 #[.agg #[.slice a l.length cap], .agg #[.int .i64 t, .int .i64 k, .int .i64 way, .int .i64 n, .int .i64 d]] w fun e w' => e = .returned (.tuple #[.int .i64 (wholeZ l k n d), .agg #[.int .i64 (restZ l k n d), .int .i64 d]]) ∧ Below w.heap.size w w' := by
  obtain ⟨_, _, t0, t1, t2⟩ := leg_facts e1 hk
  obtain ⟨n1, n2, n3, n4⟩ := placeOK_true hp
  have hX := place_bd (d := (fx l (k + 1)).t - (fx l k).t) (n := n) (m := d) (k := 1000000000) n1 n3 n4 (by omega) (by omega) (by omega)
  have hR := rest_wrap (x := (fx l (k + 1)).t - (fx l k).t) (n := n) n1 n2
  have fm := fun w => mulDiv_c ((fx l (k + 1)).t - (fx l k).t) n d w (by omega) (by omega) n3 (by omega) n1 (by omega) (part_lt (by omega) (by omega) n3 n4 n1)
  unfold wholeZ restZ lapZ
  generalize ((fx l (k + 1)).t - (fx l k).t) * n / d = X at *
  generalize ((fx l (k + 1)).t - (fx l k).t) * n % d = Y at *
  generalize decide (0 < Y) = B at *
  have hF0 := Lib.hid hf
  obtain ⟨b, off, rfl, hlt, hcs⟩ := hf.head (by omega)
  obtain ⟨c0, c1, c2⟩ := hcs k (by omega)
  obtain ⟨m, hm⟩ : ∃ m, m = k + 1 := ⟨_, rfl⟩
  obtain ⟨d0, d1, d2⟩ := hcs m (by omega)
  have g1 : (k : Int) < (l.length : Int) := by omega
  have g2 : (m : Int) < (l.length : Int) := by omega
  have g3 : (k : Int) + 1 = (m : Int) := by omega
  have g4 : IntKind.i64.wrap (m : Int) = (m : Int) := by rw [IntKind.wrap_i64]; omega
  simp only [← hm] at *
  clear hcs hf hp e1 hm
  generalize fx l k = fk at *
  generalize fx l m = fn at *
  have FM := Lib.hid fm
  have r1 : IntKind.i64.wrap (fn.t - fk.t) = fn.t - fk.t := by rw [IntKind.wrap_i64]; omega
  have hlt1 : b < w.heap.size + 1 := by omega
  have hlt2 : b < w.heap.size + 1 + 1 := by omega
  have hlt3 : b < w.heap.size + 1 + 1 + 1 := by omega
  clear fm
  go_enter Try.func81, Try.ntmps81
  go_wp2_with fail
  refine wp_region_later (by kernel_rfl) (by kernel_rfl) ?_
  repeat (first | go_big_quiet_step (fail) | quiet_step (fail))
  refine wpQuiet_nil ?_
  intro _ hw'
  obtain ⟨s1, hw''⟩ := hw'
  subst hw''
  have hb1 := s1.below
  generalize s1.w = w1 at hb1 ⊢
  clear s1
  try replace hb1 := below_trans (by with_reducible assumption) hb1
  obtain ⟨hc1, hf1⟩ := bcell hb1
  have hz1 := hb1.size
  try simp at hz1
  try have hz10 : w.heap.size ≤ w1.heap.size := by omega
  try have hz11 : w.heap.size < w1.heap.size := by omega
  try have hz12 : w.heap.size + 1 < w1.heap.size := by omega
  try have hz13 : w.heap.size + 1 + 1 < w1.heap.size := by omega
  try have hz14 : w.heap.size + 1 + 1 + 1 < w1.heap.size := by omega
  obtain ⟨W, hW⟩ : ∃ x : World, x = w1 := ⟨_, rfl⟩
  subst hW
  have HD : Below w.heap.size w W := (by repeat (first | with_reducible exact Below.refl _ _ | with_reducible assumption | with_reducible refine Below.drew ?_ | with_reducible refine Below.alloc ?_ (by first | exact Nat.le_refl _ | (simp; done) | (simp; omega) | omega) _ | with_reducible refine Below.setCell ?_ (by first | exact Nat.le_refl _ | (simp; done) | (simp; omega) | omega) _ | with_reducible refine Below.trans ?_ (Below.mono (by with_reducible assumption) (by first | exact Nat.le_refl _ | (simp; done) | (simp; omega) | omega))))
  have z0 : W.cell? ⟨w.heap.size + 1, 3, none⟩ = some (.int .i64 n) := by simp [go_sem, *]
  have z1 : W.cell? ⟨w.heap.size + 1, 4, none⟩ = some (.int .i64 d) := by simp [go_sem, *]
  have z2 : W.cell? ⟨w.heap.size + 1 + 1, 0, none⟩ = some (.int .i64 0) := by simp [go_sem, *]
  have z3 : W.cell? ⟨w.heap.size + 1 + 1, 1, none⟩ = some (.int .i64 0) := by simp [go_sem, *]
  have z4 : W.frozen? ⟨w.heap.size + 1 + 1, 0, none⟩ = false := by simp [go_sem, *]
  have z5 : W.frozen? ⟨w.heap.size + 1 + 1, 1, none⟩ = false := by simp [go_sem, *]
  have l1 : w.heap.size + 1 < W.heap.size := by omega
  have l2 : w.heap.size + 1 + 1 < W.heap.size := by omega
  have hgB : w.heap.size ≤ w.heap.size + 1 + 1 := by omega
  have n1 : w.heap.size + 1 ≠ w.heap.size + 1 + 1 := by omega
  clear hc1 hf1 hb1 c0 c1 c2 d0 d1 d2 hlt hlt1 hlt2 hlt3
  generalize w.heap.size + 1 + 1 = G at *
  generalize w.heap.size + 1 = G1 at *
  go_upto_region 4 with (go_at_call 114; refine (FM.out _).mono ?_; rintro e w1 ⟨rfl, hb⟩; obtain ⟨hc, hf⟩ := bcell hb; have hz := hb.size)
  obtain ⟨W2, hW2⟩ : ∃ x : World, x = w1 := ⟨_, rfl⟩
  subst hW2
  have HE : Below w.heap.size w W2 := HD.trans (hb.mono HD.size)
  have z1 := (hc _ 4 l1).trans z1
  have z2 := (hc _ 0 l2).trans z2
  have z3 := (hc _ 1 l2).trans z3
  have z4 := (hf _ 0 l2).trans z4
  have z5 := (hf _ 1 l2).trans z5
  have l1 : G1 < W2.heap.size := by omega
  have l2 : G < W2.heap.size := by omega
  clear hc hf hb z0
  have r5 : IntKind.i64.wrap (fk.t + X) = fk.t + X := by rw [IntKind.wrap_i64]; omega
  have hR' : wrap64 (wrap64 ((fn.t - fk.t) * n) - wrap64 (X * d)) = Y := by simp only [IntKind.wrap_i64] at hR; simp only [wrap64]; exact hR
  clear hR
  go_region
  all_goals go_wp2
  all_goals exact bodyPost_ret (v := .tuple #[.int .i64 (fk.t + X), .agg #[.int .i64 Y, .int .i64 d]]) (by simp [results, Try.results81, go_sem, *]) rfl ⟨rfl, (by repeat (first | with_reducible exact Below.refl _ _ | with_reducible assumption | with_reducible refine Below.drew ?_ | with_reducible refine Below.alloc ?_ (by first | exact Nat.le_refl _ | (simp; done) | (simp; omega) | omega) _ | with_reducible refine Below.setCell ?_ (by first | exact Nat.le_refl _ | (simp; done) | (simp; omega) | omega) _ | with_reducible refine Below.trans ?_ (Below.mono (by with_reducible assumption) (by first | exact Nat.le_refl _ | (simp; done) | (simp; omega) | omega))))⟩
set_option maxRecDepth 100000 in
set_option maxHeartbeats 4000000 in
theorem l05Exact_c (a : Option Addr) (cap : Nat) (l : List Fx) (t way n d : Int) (k : Nat) (w : World) (hl : l.length ≤ 4611686018427387904) (e1 : isTrk l = true) (hk : k + 1 < l.length) (hp : placeOK n d = true) (hf : FixAt w a l) : Calls Try.prog 110 #[.agg #[.slice a l.length cap], .agg #[.int .i64 t, .int .i64 k, .int .i64 way, .int .i64 n, .int .i64 d]] w fun e w' => e = .returned (.tuple #[.int .i64 (wholeZ l k n d), .agg #[.int .i64 (restZ l k n d), .int .i64 d]]) ∧ Below w.heap.size w w' := by
  obtain ⟨_, _, t0, t1, t2⟩ := leg_facts e1 hk
  obtain ⟨n1, n2, n3, n4⟩ := placeOK_true hp
  have hX := place_bd (d := (fx l (k + 1)).t - (fx l k).t) (n := n) (m := d) (k := 1000000000) n1 n3 n4 (by omega) (by omega) (by omega)
  have f1 := Int.emod_nonneg (((fx l (k + 1)).t - (fx l k).t) * n) (show d ≠ 0 by omega)
  have f2 := Int.emod_lt_of_pos (((fx l (k + 1)).t - (fx l k).t) * n) (show 0 < d by omega)
  have fm := fun w => l05Divide_c ((fx l (k + 1)).t - (fx l k).t) n d w (by omega) (by omega) n3 n4 n1 n2
  unfold wholeZ restZ lapZ
  generalize ((fx l (k + 1)).t - (fx l k).t) * n / d = X at *
  generalize ((fx l (k + 1)).t - (fx l k).t) * n % d = Y at *
  have hF0 := Lib.hid hf
  obtain ⟨b, off, rfl, hlt, hcs⟩ := hf.head (by omega)
  obtain ⟨c0, c1, c2⟩ := hcs k (by omega)
  obtain ⟨m, hm⟩ : ∃ m, m = k + 1 := ⟨_, rfl⟩
  obtain ⟨d0, d1, d2⟩ := hcs m (by omega)
  have g1 : (k : Int) < (l.length : Int) := by omega
  have g2 : (m : Int) < (l.length : Int) := by omega
  have g3 : (k : Int) + 1 = (m : Int) := by omega
  have g4 : IntKind.i64.wrap (m : Int) = (m : Int) := by rw [IntKind.wrap_i64]; omega
  simp only [← hm] at *
  clear hcs hf hp e1 hm
  generalize fx l k = fk at *
  generalize fx l m = fn at *
  have FM := Lib.hid fm
  have r1 : IntKind.i64.wrap (fn.t - fk.t) = fn.t - fk.t := by rw [IntKind.wrap_i64]; omega
  have hlt1 : b < w.heap.size + 1 := by omega
  have hlt2 : b < w.heap.size + 1 + 1 := by omega
  have hlt3 : b < w.heap.size + 1 + 1 + 1 := by omega
  clear fm
  go_enter Try.func110, Try.ntmps110
  go_wp2_with fail
  have u0 : w.heap.size < w.heap.size + 1 + 1 + 1 := by omega
  have u1 : w.heap.size + 1 < w.heap.size + 1 + 1 + 1 := by omega
  have u2 : w.heap.size + 1 + 1 < w.heap.size + 1 + 1 + 1 := by omega
  obtain ⟨wA, hA⟩ : ∃ x, x = ((w.alloc (.cells #[.slice (some ⟨b, off, none⟩) l.length cap] 26)).alloc (.cells #[.int .i64 t, .int .i64 k, .int .i64 way, .int .i64 n, .int .i64 d] 57)).alloc (.cells #[.int .i64 0, .int .i64 0] 55) := ⟨_, rfl⟩
  have HA : Below w.heap.size w wA := by subst hA; exact (by repeat (first | with_reducible exact Below.refl _ _ | with_reducible assumption | with_reducible refine Below.drew ?_ | with_reducible refine Below.alloc ?_ (by first | exact Nat.le_refl _ | (simp; done) | (simp; omega) | omega) _ | with_reducible refine Below.setCell ?_ (by first | exact Nat.le_refl _ | (simp; done) | (simp; omega) | omega) _ | with_reducible refine Below.trans ?_ (Below.mono (by with_reducible assumption) (by first | exact Nat.le_refl _ | (simp; done) | (simp; omega) | omega))))
  have a0 : wA.cell? ⟨w.heap.size, 0, none⟩ = some (.slice (some ⟨b, off, none⟩) l.length cap) := by subst hA; simp [go_sem]
  have a1 : wA.cell? ⟨w.heap.size + 1, 1, none⟩ = some (.int .i64 k) := by subst hA; simp [go_sem]
  have a2 : wA.cell? ⟨w.heap.size + 1, 3, none⟩ = some (.int .i64 n) := by subst hA; simp [go_sem]
  have a3 : wA.cell? ⟨w.heap.size + 1, 4, none⟩ = some (.int .i64 d) := by subst hA; simp [go_sem]
  have z2 : wA.cell? ⟨w.heap.size + 1 + 1, 0, none⟩ = some (.int .i64 0) := by subst hA; simp [go_sem]
  have z3 : wA.cell? ⟨w.heap.size + 1 + 1, 1, none⟩ = some (.int .i64 0) := by subst hA; simp [go_sem]
  have z4 : wA.frozen? ⟨w.heap.size + 1 + 1, 0, none⟩ = false := by subst hA; simp [go_sem]
  have z5 : wA.frozen? ⟨w.heap.size + 1 + 1, 1, none⟩ = false := by subst hA; simp [go_sem]
  have c0 := (HA.cell (p := ⟨b, off + k * 3, none⟩) hlt).trans c0
  have c1 := (HA.cell (p := ⟨b, off + k * 3 + 1, none⟩) hlt).trans c1
  have c2 := (HA.cell (p := ⟨b, off + k * 3 + 2, none⟩) hlt).trans c2
  have d0 := (HA.cell (p := ⟨b, off + m * 3, none⟩) hlt).trans d0
  have d1 := (HA.cell (p := ⟨b, off + m * 3 + 1, none⟩) hlt).trans d1
  have d2 := (HA.cell (p := ⟨b, off + m * 3 + 2, none⟩) hlt).trans d2
  have hA' : wA.heap.size = w.heap.size + 1 + 1 + 1 := by subst hA; simp
  rw [← hA]
  have l0 : w.heap.size < wA.heap.size := by omega
  have l1 : w.heap.size + 1 < wA.heap.size := by omega
  have l2 : w.heap.size + 1 + 1 < wA.heap.size := by omega
  have l3 : b < wA.heap.size := by omega
  have hgB : w.heap.size ≤ w.heap.size + 1 + 1 := by omega
  have n9 : w.heap.size + 1 ≠ w.heap.size + 1 + 1 := by omega
  clear hA hA' u0 u1 u2 hlt hlt1 hlt2 hlt3
  generalize w.heap.size + 1 + 1 = G at *
  generalize w.heap.size + 1 = G1 at *
  go_cut [6, 7] (fun s6 s7 wx => ∃ B C : Nat, s6 = .pointer (some ⟨B, 0, none⟩) ∧ s7 = .pointer (some ⟨C, 0, none⟩) ∧ wx.cell? ⟨B, 0, none⟩ = some (.int .i64 fk.t) ∧ wx.cell? ⟨C, 0, none⟩ = some (.int .i64 fn.t) ∧ wA.heap.size ≤ B ∧ wA.heap.size ≤ C ∧ B < wx.heap.size ∧ C < wx.heap.size ∧ Below wA.heap.size wA wx)
  case first =>
    go_region
    all_goals (go_wp2_with fail)
    all_goals (go_meet; exact ⟨_, _, rfl, rfl, by simp [go_sem, *], by simp [go_sem, *], by first | (simp; done) | (simp; omega), by first | (simp; done) | (simp; omega), by first | (simp; done) | (simp; omega), by first | (simp; done) | (simp; omega), (by repeat (first | with_reducible exact Below.refl _ _ | with_reducible assumption | with_reducible refine Below.drew ?_ | with_reducible refine Below.alloc ?_ (by first | exact Nat.le_refl _ | (simp; done) | (simp; omega) | omega) _ | with_reducible refine Below.setCell ?_ (by first | exact Nat.le_refl _ | (simp; done) | (simp; omega) | omega) _ | with_reducible refine Below.trans ?_ (Below.mono (by with_reducible assumption) (by first | exact Nat.le_refl _ | (simp; done) | (simp; omega) | omega))))⟩)
  case rest =>
    obtain ⟨B, C, rfl, rfl, b0, b1, hB, hC, lB, lC, hbc⟩ := hcut
    obtain ⟨hcc, hfc⟩ := bcell hbc
    have hzc := hbc.size
    have z1 := (hcc _ 4 l1).trans a3
    have z0 := (hcc _ 3 l1).trans a2
    have z2 := (hcc _ 0 l2).trans z2
    have z3 := (hcc _ 1 l2).trans z3
    have z4 := (hfc _ 0 l2).trans z4
    have z5 := (hfc _ 1 l2).trans z5
    have HC : Below w.heap.size w wc := HA.trans (hbc.mono HA.size)
    have l1 : G1 < wc.heap.size := by omega
    have l2 : G < wc.heap.size := by omega
    have nB : B ≠ G := by omega
    have nC : C ≠ G := by omega
    clear hcc hfc hbc c0 c1 c2 d0 d1 d2 a0 a1 a2 a3 l0 l3
    go_upto_region 3 with (go_at_call 128; refine (FM.out _).mono ?_; rintro e w1 ⟨rfl, hb⟩; obtain ⟨hc, hf⟩ := bcell hb; have hz := hb.size)
    obtain ⟨W2, hW2⟩ : ∃ x : World, x = w1 := ⟨_, rfl⟩
    subst hW2
    have HE : Below w.heap.size w W2 := HC.trans (hb.mono HC.size)
    have b0 := (hc _ 0 lB).trans b0
    have z1 := (hc _ 4 l1).trans z1
    have z2 := (hc _ 0 l2).trans z2
    have z3 := (hc _ 1 l2).trans z3
    have z4 := (hf _ 0 l2).trans z4
    have z5 := (hf _ 1 l2).trans z5
    have l1 : G1 < W2.heap.size := by omega
    have l2 : G < W2.heap.size := by omega
    have lB : B < W2.heap.size := by omega
    clear hc hf hb z0 b1
    have r5 : IntKind.i64.wrap (fk.t + X) = fk.t + X := by rw [IntKind.wrap_i64]; omega
    go_region
    all_goals go_wp2
    all_goals exact bodyPost_ret (v := .tuple #[.int .i64 (fk.t + X), .agg #[.int .i64 Y, .int .i64 d]]) (by simp [results, Try.results110, go_sem, *]) rfl ⟨rfl, (by repeat (first | with_reducible exact Below.refl _ _ | with_reducible assumption | with_reducible refine Below.drew ?_ | with_reducible refine Below.alloc ?_ (by first | exact Nat.le_refl _ | (simp; done) | (simp; omega) | omega) _ | with_reducible refine Below.setCell ?_ (by first | exact Nat.le_refl _ | (simp; done) | (simp; omega) | omega) _ | with_reducible refine Below.trans ?_ (Below.mono (by with_reducible assumption) (by first | exact Nat.le_refl _ | (simp; done) | (simp; omega) | omega))))⟩
set_option maxHeartbeats 1600000 in
theorem l05Right_c (a : Option Addr) (cap n0 : Nat) (t leg way n d : Int) (w : World) (hl : n0 ≤ 4611686018427387904) : Calls Try.prog 76 #[.agg #[.slice a n0 cap], .agg #[.int .i64 t, .int .i64 leg, .int .i64 way, .int .i64 n, .int .i64 d]] w fun e w' => e = .returned (.bool (inR leg 0 ((n0 : Int) - 2) && placeOK n d)) ∧ Below w.heap.size w w' := by
  cases h1 : inR leg 0 ((n0 : Int) - 2)
  · go_enter Try.func76, Try.ntmps76
    go_wp2_with (go_at_call 60; refine (l01In_c _ _ _ _).mono ?_; rintro e w' ⟨rfl, rfl⟩)
    go_ret
    exact ⟨by simp, (by repeat (first | with_reducible exact Below.refl _ _ | with_reducible assumption | with_reducible refine Below.drew ?_ | with_reducible refine Below.alloc ?_ (by first | exact Nat.le_refl _ | (simp; done) | (simp; omega) | omega) _ | with_reducible refine Below.setCell ?_ (by first | exact Nat.le_refl _ | (simp; done) | (simp; omega) | omega) _ | with_reducible refine Below.trans ?_ (Below.mono (by with_reducible assumption) (by first | exact Nat.le_refl _ | (simp; done) | (simp; omega) | omega))))⟩
  cases h2 : inR d 1 100000000000000
  · go_enter Try.func76, Try.ntmps76
    go_wp2_with (go_at_call 60; refine (l01In_c _ _ _ _).mono ?_; rintro e w' ⟨rfl, rfl⟩)
    go_ret
    exact ⟨by simp [placeOK, h2], (by repeat (first | with_reducible exact Below.refl _ _ | with_reducible assumption | with_reducible refine Below.drew ?_ | with_reducible refine Below.alloc ?_ (by first | exact Nat.le_refl _ | (simp; done) | (simp; omega) | omega) _ | with_reducible refine Below.setCell ?_ (by first | exact Nat.le_refl _ | (simp; done) | (simp; omega) | omega) _ | with_reducible refine Below.trans ?_ (Below.mono (by with_reducible assumption) (by first | exact Nat.le_refl _ | (simp; done) | (simp; omega) | omega))))⟩
  · go_enter Try.func76, Try.ntmps76
    go_wp2_with (go_at_call 60; refine (l01In_c _ _ _ _).mono ?_; rintro e w' ⟨rfl, rfl⟩)
    go_ret
    exact ⟨by simp [placeOK, h2], (by repeat (first | with_reducible exact Below.refl _ _ | with_reducible assumption | with_reducible refine Below.drew ?_ | with_reducible refine Below.alloc ?_ (by first | exact Nat.le_refl _ | (simp; done) | (simp; omega) | omega) _ | with_reducible refine Below.setCell ?_ (by first | exact Nat.le_refl _ | (simp; done) | (simp; omega) | omega) _ | with_reducible refine Below.trans ?_ (Below.mono (by with_reducible assumption) (by first | exact Nat.le_refl _ | (simp; done) | (simp; omega) | omega))))⟩
end Go.Proofs.Ytdepdkpehbkcjaa
