/-
  Texts of signed numbers and of points, both sides. Conditions stand with each.
-/
import Derived.Test.YtjgndfphbmkhaaaDoorTxt3
import Derived.Test.YtjgndfphbmkhaaaDoorL02
namespace Go.Proofs.YtjgndfphbmkhaaaDoor
set_option linter.unusedVariables false
open Go.RowKit Go.Deep

/-- the decimal text of a signed number -/
def sgB (n : Int) : ByteArray := ⟨(Lib.itoa n).toArray⟩
theorem sgB_size {n : Int} (h0 : -9223372036854775808 ≤ n) (h1 : n ≤ 9223372036854775807) : (sgB n).size ≤ 21 := by
  have := Lib.itoa_length_le n h0 h1
  simpa [sgB, ByteArray.size] using this
theorem sgB_nat (n : Nat) : sgB (n : Int) = dgB n := by unfold sgB dgB; rw [Lib.itoa_nonneg]
theorem sgB_neg {n : Nat} (h : 1 ≤ n) : (⟨#[45]⟩ : ByteArray) ++ dgB n = sgB (-(n : Int)) := by
  unfold sgB dgB
  rw [Lib.itoa_neg n h, show (⟨#[45]⟩ : ByteArray) = ⟨[45].toArray⟩ from rfl, ba_append]; rfl
def sp : ByteArray := ⟨#[32]⟩
/-- four numbers, blanks between -/
def lineB (a b c d : Int) : ByteArray := sgB a ++ ⟨#[32]⟩ ++ sgB b ++ ⟨#[32]⟩ ++ sgB c ++ ⟨#[32]⟩ ++ sgB d
/-- a blank ahead of each of two numbers -/
def pointB (a b : Int) : ByteArray := ⟨#[32]⟩ ++ sgB a ++ ⟨#[32]⟩ ++ sgB b
theorem lineB_size {a b c d : Int} (ha : (sgB a).size ≤ 21) (hb : (sgB b).size ≤ 21) (hc : (sgB c).size ≤ 21) (hd : (sgB d).size ≤ 21) : (lineB a b c d).size ≤ 90 := by
  unfold lineB
  simp only [ByteArray.size_append, ba_size1]
  omega
theorem pointB_size {a b : Int} (ha : (sgB a).size ≤ 21) (hb : (sgB b).size ≤ 21) : (pointB a b).size ≤ 44 := by
  unfold pointB
  simp only [ByteArray.size_append, ba_size1]
  omega
set_option maxHeartbeats 400000 in
theorem textI_c (n : Int) (w : World) (h0 : -9223372036854775808 ≤ n) (h1 : n ≤ 9223372036854775807) (ht : Tab w) : Calls Tryd.prog 23 #[.int .i64 n] w fun e w' => e = .returned (.string (sgB n)) ∧ Below w.heap.size w w' := by
  have CT := Lib.hid (Tryd.strconv_FormatInt_10 n h0 h1 w ht)
  have HE := Lib.hid (show (⟨(Lib.itoa n).toArray⟩ : ByteArray) = sgB n from rfl)
  clear ht
  generalize (⟨(Lib.itoa n).toArray⟩ : ByteArray) = S at *
  go_enter Tryd.func23, Tryd.ntmps23
  go_wp2_with (go_at_call 44; refine CT.out.mono ?_; rintro e w' ⟨rfl, k, os, rfl⟩; have hb := below_lib (w := w) k os)
  go_ret
  exact ⟨by rw [← HE.out]; rfl, below_lib _ _⟩
set_option maxHeartbeats 400000 in
theorem l01Signed_c (n : Int) (w : World) (h0 : -9223372036854775807 ≤ n) (h1 : n ≤ 9223372036854775807) : Calls Tryd.prog 46 #[.int .i64 n] w fun e w' => e = .returned (.string (sgB n)) ∧ Below w.heap.size w w' := by
  by_cases h : n < 0
  · obtain ⟨m, rfl⟩ : ∃ m : Nat, n = -(m : Int) := ⟨n.natAbs, by omega⟩
    have CN := Lib.hid (fun w => l01Number_c m w (by omega))
    have HE := Lib.hid (sgB_neg (n := m) (by omega))
    have hz := dgB_size (n := m) (by omega)
    have hw : IntKind.i64.wrap (-(-(m : Int))) = (m : Int) := by rw [IntKind.wrap_i64]; omega
    have hw2 : IntKind.i64.wrap (m : Int) = (m : Int) := by rw [IntKind.wrap_i64]; omega
    have zc := ba_size1 45
    generalize dgB m = S at *
    go_enter Tryd.func46, Tryd.ntmps46
    go_wp2_with (go_at_call 42; refine (CN.out _).mono ?_; rintro e w1 ⟨rfl, hb⟩)
    go_ret
    exact ⟨by rw [← HE.out]; rfl, hb⟩
  · obtain ⟨m, rfl⟩ : ∃ m : Nat, n = (m : Int) := ⟨n.toNat, by omega⟩
    have CN := Lib.hid (fun w => l01Number_c m w (by omega))
    have HE := Lib.hid (sgB_nat m)
    generalize dgB m = S at *
    go_enter Tryd.func46, Tryd.ntmps46
    go_wp2_with (go_at_call 42; refine (CN.out _).mono ?_; rintro e w1 ⟨rfl, hb⟩)
    go_ret
    exact ⟨by rw [HE.out]; rfl, hb⟩
set_option maxRecDepth 100000 in
set_option maxHeartbeats 2000000 in
theorem lineText_c (x0 x1 x2 x3 : Int) (w : World) (hA : isPt x0 x1 = true) (hB : isPt x2 x3 = true) (ht : Tab w) : Calls Tryd.prog 39 #[.agg #[.int .i64 x0, .int .i64 x1, .int .i64 x2, .int .i64 x3]] w fun e w' => e = .returned (.string (lineB x0 x1 x2 x3)) ∧ Below w.heap.size w w' := by
  obtain ⟨a1, a2, a3, a4⟩ := isPt_true hA
  obtain ⟨b1, b2, b3, b4⟩ := isPt_true hB
  have HE := Lib.hid (show lineB x0 x1 x2 x3 = sgB x0 ++ ⟨#[32]⟩ ++ sgB x1 ++ ⟨#[32]⟩ ++ sgB x2 ++ ⟨#[32]⟩ ++ sgB x3 from rfl)
  have z0 := sgB_size (n := x0) (by omega) (by omega)
  have z1 := sgB_size (n := x1) (by omega) (by omega)
  have z2 := sgB_size (n := x2) (by omega) (by omega)
  have z3 := sgB_size (n := x3) (by omega) (by omega)
  have C0 := Lib.hid (fun w ht => textI_c x0 w (by omega) (by omega) ht)
  have C1 := Lib.hid (fun w ht => textI_c x1 w (by omega) (by omega) ht)
  have C2 := Lib.hid (fun w ht => textI_c x2 w (by omega) (by omega) ht)
  have C3 := Lib.hid (fun w ht => textI_c x3 w (by omega) (by omega) ht)
  obtain ⟨W, hW⟩ : ∃ W, W = w.alloc (.cells #[.int .i64 x0, .int .i64 x1, .int .i64 x2, .int .i64 x3] 43) := ⟨_, rfl⟩
  have HD : Below w.heap.size w W := by subst hW; exact (by repeat (first | with_reducible exact Below.refl _ _ | with_reducible assumption | with_reducible refine Below.drew ?_ | with_reducible refine Below.alloc ?_ (by first | exact Nat.le_refl _ | (simp; done) | (simp; omega) | omega) _ | with_reducible refine Below.setCell ?_ (by first | exact Nat.le_refl _ | (simp; done) | (simp; omega) | omega) _ | with_reducible refine Below.trans ?_ (Below.mono (by with_reducible assumption) (by first | exact Nat.le_refl _ | (simp; done) | (simp; omega) | omega))))
  have HT := Lib.hid (ht.below HD)
  have q0 : W.cell? ⟨w.heap.size, 0, none⟩ = some (.int .i64 x0) := by subst hW; simp [go_sem]
  have q1 : W.cell? ⟨w.heap.size, 1, none⟩ = some (.int .i64 x1) := by subst hW; simp [go_sem]
  have q2 : W.cell? ⟨w.heap.size, 2, none⟩ = some (.int .i64 x2) := by subst hW; simp [go_sem]
  have q3 : W.cell? ⟨w.heap.size, 3, none⟩ = some (.int .i64 x3) := by subst hW; simp [go_sem]
  have LW : w.heap.size < W.heap.size := by subst hW; simp
  have zc := ba_size1 32
  clear ht hA hB a1 a2 a3 a4 b1 b2 b3 b4
  generalize sgB x0 = S0 at *
  generalize sgB x1 = S1 at *
  generalize sgB x2 = S2 at *
  generalize sgB x3 = S3 at *
  go_enter Tryd.func39, Tryd.ntmps39
  go_wp2_with fail
  rw [← hW]
  clear hW
  refine wp_region_later (by kernel_rfl) (by kernel_rfl) ?_
  repeat (first | go_big_quiet_step ((first | (go_at_call_of 23 (x0); exact later_of _ (C0.out _ (HT.out.below (Later.below _)))) | (go_at_call_of 23 (x1); exact later_of _ (C1.out _ (HT.out.below (Later.below _)))) | (go_at_call_of 23 (x2); exact later_of _ (C2.out _ (HT.out.below (Later.below _)))) | (go_at_call_of 23 (x3); exact later_of _ (C3.out _ (HT.out.below (Later.below _)))))) | quiet_step ((first | (go_at_call_of 23 (x0); exact later_of _ (C0.out _ (HT.out.below (Later.below _)))) | (go_at_call_of 23 (x1); exact later_of _ (C1.out _ (HT.out.below (Later.below _)))) | (go_at_call_of 23 (x2); exact later_of _ (C2.out _ (HT.out.below (Later.below _)))) | (go_at_call_of 23 (x3); exact later_of _ (C3.out _ (HT.out.below (Later.below _)))))))
  refine wpQuiet_nil ?_
  intro _ hw'
  obtain ⟨sk1, hw''⟩ := hw'
  subst hw''
  have hbk1 := sk1.below
  generalize sk1.w = wk1 at hbk1 ⊢
  clear sk1
  try replace hbk1 := below_trans (by with_reducible assumption) hbk1
  obtain ⟨hck1, hfk1⟩ := bcell hbk1
  have hzk1 := hbk1.size
  try simp at hzk1
  try have hzk10 : w.heap.size ≤ wk1.heap.size := by omega
  try have hzk11 : w.heap.size < wk1.heap.size := by omega
  try have hzk12 : w.heap.size + 1 < wk1.heap.size := by omega
  try have hzk13 : w.heap.size + 1 + 1 < wk1.heap.size := by omega
  try have hzk14 : w.heap.size + 1 + 1 + 1 < wk1.heap.size := by omega
  go_wp2_with fail
  go_ret
  exact ⟨by rw [HE.out]; rfl, by first | exact hbk1 | exact HD.trans (hbk1.mono HD.size)⟩
set_option maxRecDepth 100000 in
set_option maxHeartbeats 2000000 in
theorem l04Point_c (x0 x1 : Int) (w : World) (hA : isPt x0 x1 = true) : Calls Tryd.prog 57 #[.agg #[.int .i64 x0, .int .i64 x1]] w fun e w' => e = .returned (.string (pointB x0 x1)) ∧ Below w.heap.size w w' := by
  obtain ⟨a1, a2, a3, a4⟩ := isPt_true hA
  have HE := Lib.hid (show pointB x0 x1 = ⟨#[32]⟩ ++ sgB x0 ++ ⟨#[32]⟩ ++ sgB x1 from rfl)
  have z0 := sgB_size (n := x0) (by omega) (by omega)
  have z1 := sgB_size (n := x1) (by omega) (by omega)
  have C0 := Lib.hid (fun w => l01Signed_c x0 w (by omega) (by omega))
  have C1 := Lib.hid (fun w => l01Signed_c x1 w (by omega) (by omega))
  obtain ⟨W, hW⟩ : ∃ W, W = w.alloc (.cells #[.int .i64 x0, .int .i64 x1] 41) := ⟨_, rfl⟩
  have HD : Below w.heap.size w W := by subst hW; exact (by repeat (first | with_reducible exact Below.refl _ _ | with_reducible assumption | with_reducible refine Below.drew ?_ | with_reducible refine Below.alloc ?_ (by first | exact Nat.le_refl _ | (simp; done) | (simp; omega) | omega) _ | with_reducible refine Below.setCell ?_ (by first | exact Nat.le_refl _ | (simp; done) | (simp; omega) | omega) _ | with_reducible refine Below.trans ?_ (Below.mono (by with_reducible assumption) (by first | exact Nat.le_refl _ | (simp; done) | (simp; omega) | omega))))
  have q0 : W.cell? ⟨w.heap.size, 0, none⟩ = some (.int .i64 x0) := by subst hW; simp [go_sem]
  have q1 : W.cell? ⟨w.heap.size, 1, none⟩ = some (.int .i64 x1) := by subst hW; simp [go_sem]
  have LW : w.heap.size < W.heap.size := by subst hW; simp
  have zc := ba_size1 32
  clear hA a1 a2 a3 a4
  generalize sgB x0 = S0 at *
  generalize sgB x1 = S1 at *
  go_enter Tryd.func57, Tryd.ntmps57
  go_wp2_with fail
  rw [← hW]
  clear hW
  refine wp_region_later (by kernel_rfl) (by kernel_rfl) ?_
  repeat (first | go_big_quiet_step ((first | (go_at_call_of 46 (x0); exact later_of _ (C0.out _)) | (go_at_call_of 46 (x1); exact later_of _ (C1.out _)))) | quiet_step ((first | (go_at_call_of 46 (x0); exact later_of _ (C0.out _)) | (go_at_call_of 46 (x1); exact later_of _ (C1.out _)))))
  refine wpQuiet_nil ?_
  intro _ hw'
  obtain ⟨sk1, hw''⟩ := hw'
  subst hw''
  have hbk1 := sk1.below
  generalize sk1.w = wk1 at hbk1 ⊢
  clear sk1
  try replace hbk1 := below_trans (by with_reducible assumption) hbk1
  obtain ⟨hck1, hfk1⟩ := bcell hbk1
  have hzk1 := hbk1.size
  try simp at hzk1
  try have hzk10 : w.heap.size ≤ wk1.heap.size := by omega
  try have hzk11 : w.heap.size < wk1.heap.size := by omega
  try have hzk12 : w.heap.size + 1 < wk1.heap.size := by omega
  try have hzk13 : w.heap.size + 1 + 1 < wk1.heap.size := by omega
  try have hzk14 : w.heap.size + 1 + 1 + 1 < wk1.heap.size := by omega
  go_wp2_with fail
  go_ret
  exact ⟨by rw [HE.out]; rfl, by first | exact hbk1 | exact HD.trans (hbk1.mono HD.size)⟩
end Go.Proofs.YtjgndfphbmkhaaaDoor
