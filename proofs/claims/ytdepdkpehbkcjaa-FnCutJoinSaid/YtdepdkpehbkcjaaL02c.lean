/-
  What the functions of layer 2 on ratios and places return: contracts of the program's and of the reference's functions. Their conditions stand with each.
-/
import Derived.Test.YtdepdkpehbkcjaaL02
import Derived.Test.YtdepdkpehbkcjaaPlain2
namespace Go.Proofs.Ytdepdkpehbkcjaa
set_option linter.unusedVariables false
open Go.RowKit Go.Deep

theorem wrap_quo (N g : Nat) (hg : (1 : Int) ≤ g) (hN : N ≤ 4611686018427387904) : wrap64 ((N : Int) / (g : Int)) = (N : Int) / (g : Int) := by
  have := (div_bd (a := (N : Int)) hg).1 (by omega)
  refine IntWalk.wrap64_in _ ⟨?_, ?_⟩ <;> omega

set_option maxHeartbeats 800000 in
theorem l02Gcd_nat (N D : Nat) (w : World) (hN : N ≤ 4611686018427387904) (hD : D ≤ 4611686018427387904) : Calls Try.prog 141 #[.int .i64 N, .int .i64 D] w fun e w' => e = .returned (.int .i64 ((Nat.gcd N D : Nat) : Int)) ∧ w = w' := by
  go_enter Try.func141, Try.ntmps141
  go_wp2
  go_loop [0, 1] (fun a b => ∃ x y : Nat, a = .int .i64 x ∧ b = .int .i64 y ∧ Hid (Nat.gcd x y = Nat.gcd N D) ∧ x ≤ 4611686018427387904 ∧ y ≤ 4611686018427387904) (fun _ b => (intOf b).toNat)
  case atStart => exact ⟨N, D, rfl, rfl, Lib.hid rfl, hN, hD⟩
  case round =>
    obtain ⟨x, y, rfl, rfl, hg, hx, hy⟩ := hrel
    by_cases h : 0 < y
    · have h' : (0 : Int) < y := by omega
      have hm := Nat.mod_lt x h
      go_wp2
      go_round
      case rel => exact ⟨y, x % y, by go_num, by go_num, Lib.hid ((gcd_step x y (by omega)).trans hg.out), hy, by omega⟩
      case measure => simp [intOf]; omega
    · obtain rfl : y = 0 := by omega
      go_wp2
      go_ret
      exact ⟨ret_int (by rw [← hg.out, gcd_done]), rfl⟩
set_option maxHeartbeats 400000 in
theorem l01Abs_c (n : Int) (w : World) (h : 0 ≤ n) (h2 : n ≤ 9223372036854775807) : Calls Try.prog 142 #[.int .i64 n] w fun e w' => e = .returned (.int .i64 n) ∧ w = w' := by
  go_enter Try.func142, Try.ntmps142
  go_wp2
  all_goals go_ret
  all_goals exact ⟨ret_int (by omega), rfl⟩
set_option maxHeartbeats 800000 in
theorem l02Ratio_nat (N D : Nat) (w : World) (hN : N ≤ 4611686018427387904) (hD : D ≤ 4611686018427387904) (h1 : 1 ≤ D) : Calls Try.prog 134 #[.int .i64 N, .int .i64 D] w fun e w' => e = .returned (.agg #[.int .i64 ((N : Int) / ((Nat.gcd N D : Nat) : Int)), .int .i64 ((D : Int) / ((Nat.gcd N D : Nat) : Int))]) ∧ Below w.heap.size w w' := by
  have hg : 1 ≤ Nat.gcd N D := Nat.gcd_pos_of_pos_right _ (by omega)
  have cg := l02Gcd_nat N D
  have CG := Lib.hid cg
  clear cg
  generalize Nat.gcd N D = g at *
  have hg1 : (1 : Int) ≤ (g : Int) := by omega
  have hg2 : ((g : Int) == 0) = false := by simp; omega
  have hn0 : (0 : Int) ≤ (N : Int) := by omega
  have hd0 : (0 : Int) ≤ (D : Int) := by omega
  have E1 := Lib.hid (wrap_quo N g hg1 hN)
  have E2 := Lib.hid (wrap_quo D g hg1 hD)
  go_enter Try.func134, Try.ntmps134
  go_wp2_with (first | (go_at_call 142; refine (l01Abs_c _ _ (by omega) (by omega)).mono ?_; rintro e w' ⟨rfl, rfl⟩) | (go_at_call 141; refine (CG.out _ hN hD).mono ?_; rintro e w' ⟨rfl, rfl⟩))
  go_region
  all_goals go_wp2
  exact bodyPost_ret (v := .agg #[.int .i64 ((N : Int) / (g : Int)), .int .i64 ((D : Int) / (g : Int))]) (by simp [results, Try.results134, go_sem, E1.out, E2.out]) rfl ⟨rfl, (by repeat (first | with_reducible exact Below.refl _ _ | with_reducible assumption | with_reducible refine Below.drew ?_ | with_reducible refine Below.alloc ?_ (by first | exact Nat.le_refl _ | (simp; done) | (simp; omega) | omega) _ | with_reducible refine Below.setCell ?_ (by first | exact Nat.le_refl _ | (simp; done) | (simp; omega) | omega) _ | with_reducible refine Below.trans ?_ (Below.mono (by with_reducible assumption) (by first | exact Nat.le_refl _ | (simp; done) | (simp; omega) | omega))))⟩
theorem l02Ratio_c (n d : Int) (w : World) (h0 : 0 ≤ n) (hn : n ≤ 4611686018427387904) (h1 : 1 ≤ d) (hd : d ≤ 4611686018427387904) : Calls Try.prog 134 #[.int .i64 n, .int .i64 d] w fun e w' => e = .returned (.agg #[.int .i64 (lowN n d), .int .i64 (lowD n d)]) ∧ Below w.heap.size w w' := by
  obtain ⟨N, rfl⟩ := Int.eq_ofNat_of_zero_le h0
  obtain ⟨D, rfl⟩ := Int.eq_ofNat_of_zero_le (show 0 ≤ d by omega)
  exact l02Ratio_nat N D w (by omega) (by omega) (by omega)
set_option maxHeartbeats 1600000 in
theorem lowest_nat (N D : Nat) (w : World) (hN : N ≤ 4611686018427387904) (hD : D ≤ 4611686018427387904) (h1 : 1 ≤ D) : Calls Try.prog 136 #[.int .i64 N, .int .i64 D] w fun e w' => e = .returned (.agg #[.int .i64 ((N : Int) / ((Nat.gcd N D : Nat) : Int)), .int .i64 ((D : Int) / ((Nat.gcd N D : Nat) : Int))]) ∧ Below w.heap.size w w' := by
  have hn0 : (0 : Int) ≤ (N : Int) := by omega
  have hd0 : (0 : Int) ≤ (D : Int) := by omega
  go_enter Try.func136, Try.ntmps136
  go_wp2
  go_loopw [5, 6] (fun a b wr => ∃ x y : Nat, a = .int .i64 x ∧ b = .int .i64 y ∧ Hid (Nat.gcd x y = Nat.gcd N D) ∧ x ≤ 4611686018427387904 ∧ y ≤ 4611686018427387904 ∧ Below (w.heap.size + 1) (w.alloc (.cells #[.int .i64 0, .int .i64 0] 55)) wr) (fun _ b _ => (intOf b).toNat)
  case atStart => exact ⟨N, D, rfl, rfl, Lib.hid rfl, hN, hD, Below.refl _ _⟩
  case round =>
    obtain ⟨x, y, rfl, rfl, hg, hx, hy, hbl⟩ := hrel
    have hx0 : (0 : Int) ≤ (x : Int) := by omega
    by_cases h : 0 < y
    · have h' : (0 : Int) < y := by omega
      have h2 : ((y : Int) == 0) = false := by simp; omega
      have h3 : ((y : Int) != 0) = true := by simp; omega
      have hm := Nat.mod_lt x h
      go_wp2
      refine wp_region_later (by kernel_rfl) (by kernel_rfl) ?_
      repeat (first | go_big_quiet_step ((fail)) | quiet_step ((fail)))
      refine wpQuiet_nil ?_
      intro _ hw'
      obtain ⟨s1, hw''⟩ := hw'
      subst hw''
      have hb1 := s1.below
      generalize s1.w = w1 at hb1 ⊢
      clear s1
      try replace hb1 := below_trans (by with_reducible assumption) hb1
      obtain ⟨hc1, hf1⟩ := bcell hb1
      have hz1 := hb1.size
      try simp at hz1
      try have hz10 : w.heap.size ≤ w1.heap.size := by omega
      try have hz11 : w.heap.size < w1.heap.size := by omega
      try have hz12 : w.heap.size + 1 < w1.heap.size := by omega
      try have hz13 : w.heap.size + 1 + 1 < w1.heap.size := by omega
      try have hz14 : w.heap.size + 1 + 1 + 1 < w1.heap.size := by omega
      go_wp2
      go_roundw
      case rel => exact ⟨y, x % y, by go_num, by go_num, Lib.hid ((gcd_step x y (by omega)).trans hg.out), hy, by omega, hbl.trans (hb1.mono (by have := hbl.size; simp at this; omega))⟩
      case measure => simp [intOf]; omega
    · obtain rfl : y = 0 := by omega
      have hgx : Nat.gcd N D = x := by rw [← hg.out, gcd_done]
      have hx1 : 1 ≤ x := by rw [← hgx]; exact Nat.gcd_pos_of_pos_right _ (by omega)
      have HG := Lib.hid hgx
      clear hg hgx
      have hg1 : (1 : Int) ≤ (x : Int) := by omega
      have hg2 : ((x : Int) == 0) = false := by simp; omega
      have E1 := Lib.hid (wrap_quo N x hg1 hN)
      have E2 := Lib.hid (wrap_quo D x hg1 hD)
      have c0 := hbl.cell (p := ⟨w.heap.size, 0, none⟩) (by simp)
      have c1 := hbl.cell (p := ⟨w.heap.size, 1, none⟩) (by simp)
      have f0 := hbl.frozen (p := ⟨w.heap.size, 0, none⟩) (by simp)
      have f1 := hbl.frozen (p := ⟨w.heap.size, 1, none⟩) (by simp)
      simp at c0 c1 f0 f1
      have hz := hbl.size
      simp at hz
      have HB : Below w.heap.size w wr := ((Below.refl _ _).alloc (Nat.le_refl _) _).trans (hbl.mono (Nat.le_succ _))
      clear hbl
      go_wp2
      go_region
      all_goals go_wp2
      exact bodyPost_ret (v := .agg #[.int .i64 ((N : Int) / (x : Int)), .int .i64 ((D : Int) / (x : Int))]) (by simp [results, Try.results136, go_sem, E1.out, E2.out, c0, c1]) rfl ⟨by rw [HG.out], (by repeat (first | with_reducible exact Below.refl _ _ | with_reducible assumption | with_reducible refine Below.drew ?_ | with_reducible refine Below.alloc ?_ (by first | exact Nat.le_refl _ | (simp; done) | (simp; omega) | omega) _ | with_reducible refine Below.setCell ?_ (by first | exact Nat.le_refl _ | (simp; done) | (simp; omega) | omega) _ | with_reducible refine Below.trans ?_ (Below.mono (by with_reducible assumption) (by first | exact Nat.le_refl _ | (simp; done) | (simp; omega) | omega))))⟩
theorem lowest_c (n d : Int) (w : World) (h0 : 0 ≤ n) (hn : n ≤ 4611686018427387904) (h1 : 1 ≤ d) (hd : d ≤ 4611686018427387904) : Calls Try.prog 136 #[.int .i64 n, .int .i64 d] w fun e w' => e = .returned (.agg #[.int .i64 (lowN n d), .int .i64 (lowD n d)]) ∧ Below w.heap.size w w' := by
  obtain ⟨N, rfl⟩ := Int.eq_ofNat_of_zero_le h0
  obtain ⟨D, rfl⟩ := Int.eq_ofNat_of_zero_le (show 0 ≤ d by omega)
  exact lowest_nat N D w (by omega) (by omega) (by omega)
theorem nearR_no {ax ay bx cy px py : Int} (h : nearOK ax ay bx cy px py = false) : nearR ax ay bx cy px py = (0, 0, 1) := by simp [nearR, h]
theorem nearR_yes {ax ay bx cy px py : Int} (h : nearOK ax ay bx cy px py = true) : nearR ax ay bx cy px py = (lowN (nearN ax ay bx cy px py) (sqZ ax ay bx cy), lowD (nearN ax ay bx cy px py) (sqZ ax ay bx cy), 0) := by simp [nearR, h]
set_option maxHeartbeats 400000 in
theorem eqRatio_same (n d : Int) (w : World) : Calls Try.prog 96 #[.agg #[.int .i64 n, .int .i64 d], .agg #[.int .i64 n, .int .i64 d]] w fun e w' => e = .returned (.bool true) ∧ Below w.heap.size w w' := by
  go_enter Try.func96, Try.ntmps96
  go_wp2
  go_ret
  exact ⟨rfl, (by repeat (first | with_reducible exact Below.refl _ _ | with_reducible assumption | with_reducible refine Below.drew ?_ | with_reducible refine Below.alloc ?_ (by first | exact Nat.le_refl _ | (simp; done) | (simp; omega) | omega) _ | with_reducible refine Below.setCell ?_ (by first | exact Nat.le_refl _ | (simp; done) | (simp; omega) | omega) _ | with_reducible refine Below.trans ?_ (Below.mono (by with_reducible assumption) (by first | exact Nat.le_refl _ | (simp; done) | (simp; omega) | omega))))⟩
end Go.Proofs.Ytdepdkpehbkcjaa
