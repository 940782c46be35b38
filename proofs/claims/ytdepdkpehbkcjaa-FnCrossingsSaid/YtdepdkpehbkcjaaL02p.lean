/-
  The point of a segment at a place: the program's and the reference's. Conditions stand with each.
-/
import Derived.Test.YtdepdkpehbkcjaaL03q
import Derived.Test.YtdepdkpehbkcjaaL05a
namespace Go.Proofs.Ytdepdkpehbkcjaa
set_option linter.unusedVariables false
open Go.RowKit Go.Deep

def atZ (a b n d : Int) : Int := a + (b - a) * n / d
def pointR (ax ay bx cy n d : Int) : Int × Int × Int := if isSeg ax ay bx cy = true then (if placeOK n d = true then (atZ ax bx n d, atZ ay cy n d, 0) else (0, 0, 2)) else (0, 0, 1)
theorem atZ_bd {a b n d : Int} (a1 : -1000000 ≤ a) (a2 : a ≤ 1000000) (b1 : -1000000 ≤ b) (b2 : b ≤ 1000000) (h0 : 0 ≤ n) (h1 : n ≤ d) (hd : 1 ≤ d) : -3000000 ≤ a + (b - a) * n / d ∧ a + (b - a) * n / d ≤ 3000000 := by
  have := place_bd (d := b - a) (n := n) (m := d) (k := 2000000) hd h0 h1 (by omega) (by omega) (by omega)
  omega
set_option maxRecDepth 100000 in
set_option maxHeartbeats 4000000 in
theorem pointAt_c (ax ay bx cy n d : Int) (w : World) (hA : isPt ax ay = true) (hB : isPt bx cy = true) (hp : placeOK n d = true) : Calls Try.prog 92 #[.agg #[.int .i64 ax, .int .i64 ay, .int .i64 bx, .int .i64 cy], .agg #[.int .i64 n, .int .i64 d]] w fun e w' => e = .returned (.agg #[.int .i64 (atZ ax bx n d), .int .i64 (atZ ay cy n d)]) ∧ Below w.heap.size w w' := by
  obtain ⟨p1, p2, p3, p4⟩ := isPt_true hA
  obtain ⟨q1, q2, q3, q4⟩ := isPt_true hB
  obtain ⟨n1, n2, n3, n4⟩ := placeOK_true hp
  have x1 := atZ_bd p1 p2 q1 q2 n3 n4 n1
  have y1 := atZ_bd p3 p4 q3 q4 n3 n4 n1
  have fx := fun w => partOf_c (bx - ax) n d w (by omega) (by omega) n3 n4 n1 n2
  have fy := fun w => partOf_c (cy - ay) n d w (by omega) (by omega) n3 n4 n1 n2
  have r1 : IntKind.i64.wrap (bx - ax) = bx - ax := by rw [IntKind.wrap_i64]; omega
  have r2 : IntKind.i64.wrap (cy - ay) = cy - ay := by rw [IntKind.wrap_i64]; omega
  unfold atZ
  generalize (bx - ax) * n / d = X at *
  generalize (cy - ay) * n / d = Y at *
  have r5 : IntKind.i64.wrap (ax + X) = ax + X := by rw [IntKind.wrap_i64]; omega
  have r6 : IntKind.i64.wrap (ay + Y) = ay + Y := by rw [IntKind.wrap_i64]; omega
  have FX := Lib.hid fx
  have FY := Lib.hid fy
  clear fx fy hp hA hB x1 y1 n1 n2 n3 n4
  obtain ⟨W, hW⟩ : ∃ W : World, W = ((w.alloc (.cells #[.int .i64 ax, .int .i64 ay, .int .i64 bx, .int .i64 cy] 121)).alloc (.cells #[.int .i64 n, .int .i64 d] 55)).alloc (.cells #[.int .i64 0, .int .i64 0] 35) := ⟨_, rfl⟩
  have s0 : W.cell? ⟨w.heap.size, 0, none⟩ = some (.int .i64 ax) := by subst hW; simp [go_sem]
  have s1 : W.cell? ⟨w.heap.size, 1, none⟩ = some (.int .i64 ay) := by subst hW; simp [go_sem]
  have s2 : W.cell? ⟨w.heap.size, 2, none⟩ = some (.int .i64 bx) := by subst hW; simp [go_sem]
  have s3 : W.cell? ⟨w.heap.size, 3, none⟩ = some (.int .i64 cy) := by subst hW; simp [go_sem]
  have t0 : W.cell? ⟨w.heap.size + 1, 0, none⟩ = some (.int .i64 n) := by subst hW; simp [go_sem]
  have t1 : W.cell? ⟨w.heap.size + 1, 1, none⟩ = some (.int .i64 d) := by subst hW; simp [go_sem]
  have z0 : W.cell? ⟨w.heap.size + 1 + 1, 0, none⟩ = some (.int .i64 0) := by subst hW; simp [go_sem]
  have z1 : W.cell? ⟨w.heap.size + 1 + 1, 1, none⟩ = some (.int .i64 0) := by subst hW; simp [go_sem]
  have z2 : W.frozen? ⟨w.heap.size + 1 + 1, 0, none⟩ = false := by subst hW; simp [go_sem]
  have z3 : W.frozen? ⟨w.heap.size + 1 + 1, 1, none⟩ = false := by subst hW; simp [go_sem]
  have hl1 : w.heap.size < W.heap.size := by subst hW; simp; omega
  have hl2 : w.heap.size + 1 < W.heap.size := by subst hW; simp
  have hl4 : w.heap.size + 1 + 1 < W.heap.size := by subst hW; simp
  have HD : Below w.heap.size w W := by subst hW; exact (by repeat (first | with_reducible exact Below.refl _ _ | with_reducible assumption | with_reducible refine Below.drew ?_ | with_reducible refine Below.alloc ?_ (by first | exact Nat.le_refl _ | (simp; done) | (simp; omega) | omega) _ | with_reducible refine Below.setCell ?_ (by first | exact Nat.le_refl _ | (simp; done) | (simp; omega) | omega) _ | with_reducible refine Below.trans ?_ (Below.mono (by with_reducible assumption) (by first | exact Nat.le_refl _ | (simp; done) | (simp; omega) | omega))))
  go_enter Try.func92, Try.ntmps92
  go_upto_region 1 with fail
  rw [← hW]
  clear hW
  have hgB : w.heap.size ≤ w.heap.size + 1 + 1 := by omega
  have n0 : w.heap.size ≠ w.heap.size + 1 + 1 := by omega
  have n1 : w.heap.size + 1 ≠ w.heap.size + 1 + 1 := by omega
  generalize w.heap.size + 1 + 1 = B at *
  generalize w.heap.size + 1 = B1 at *
  go_region_held3 (fun wx => ((∀ b o, b < W.heap.size → b ≠ B → wx.cell? ⟨b, o, none⟩ = W.cell? ⟨b, o, none⟩) ∧ wx.cell? ⟨B, 0, none⟩ = some (.int .i64 (rd wx ⟨B, 0, none⟩)) ∧ wx.cell? ⟨B, 1, none⟩ = some (.int .i64 (rd wx ⟨B, 1, none⟩)) ∧ wx.frozen? ⟨B, 0, none⟩ = false ∧ wx.frozen? ⟨B, 1, none⟩ = false ∧ Kept B W wx))
    (first | with_reducible assumption | with_reducible exact h4_below (by with_reducible assumption) hl4 hb | with_reducible exact h4_set1 (h4_set0 (by with_reducible assumption) _) _ | exact h4_mk (Kept.refl _ _).drew z0 z1 z2 z3)
    (first | (go_at_call_of 121 (bx); refine (FX.out _).mono ?_; rintro e w1 ⟨rfl, hb⟩) | (go_at_call_of 121 (cy); refine (FY.out _).mono ?_; rintro e w1 ⟨rfl, hb⟩))
  all_goals go_wp2
  all_goals have hv := h4_vals (by with_reducible assumption)
  all_goals obtain ⟨hv0, hv1⟩ := hv
  all_goals exact bodyPost_ret (v := .agg #[.int .i64 (ax + X), .int .i64 (ay + Y)]) (by simp [results, Try.results92, go_sem, *]) rfl ⟨rfl, kept_end HD hgB (h4_kept (by with_reducible assumption))⟩
end Go.Proofs.Ytdepdkpehbkcjaa
