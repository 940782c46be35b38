/-
  Marks and the middles of lines. Conditions stand with each.
-/
import Derived.Test.YtjgndfphbmkhaaaGreatDoorCrsA
import Derived.Test.YtjgndfphbmkhaaaGreatDoorH4
namespace Go.Proofs.YtjgndfphbmkhaaaGreatDoor
set_option linter.unusedVariables false
open Go.RowKit Go.Deep

/-- is it a mark -/
def markOK (m : Mk) : Bool := nameOK m.name && isPt m.x m.y && inR m.s 1 2 && inR m.z 1 5000
set_option maxRecDepth 100000 in
theorem isMark_c (m : Mk) (w : World) (hs : m.name.size ≤ 9223372036854775807) : Calls Tryz.prog 35 #[.agg #[.string m.name, .int .i64 m.x, .int .i64 m.y, .int .i64 m.s, .int .i64 m.z]] w fun e w' => e = .returned (.bool (markOK m)) ∧ Below w.heap.size w w' := by
  obtain ⟨n, x, y, s, z⟩ := m
  simp only [markOK] at *
  cases h1 : nameOK n
  all_goals cases h2 : isPt x y
  all_goals cases h3 : inR s 1 2
  all_goals
    go_enter Tryz.func35, Tryz.ntmps35
    go_wp2_with (first | (go_at_call 57; refine (isMarkName_c _ _ hs).mono ?_; rintro e w1 ⟨rfl, hb⟩; (try replace hb := below_trans (by with_reducible assumption) hb); obtain ⟨hc, hf⟩ := bcell hb; have hz := hb.size; (try simp at hz); (try have hz0 : w.heap.size ≤ w1.heap.size := by omega); (try have hz1 : w.heap.size < w1.heap.size := by omega); (try have hz2 : w.heap.size + 1 < w1.heap.size := by omega); (try have hz3 : w.heap.size + 1 + 1 < w1.heap.size := by omega); (try have hz4 : w.heap.size + 1 + 1 + 1 < w1.heap.size := by omega)) | (go_at_call 58; refine (isPoint_c _ _ _).mono ?_; rintro e w1 ⟨rfl, hb⟩; (try replace hb := below_trans (by with_reducible assumption) hb); obtain ⟨hc, hf⟩ := bcell hb; have hz := hb.size; (try simp at hz); (try have hz0 : w.heap.size ≤ w1.heap.size := by omega); (try have hz1 : w.heap.size < w1.heap.size := by omega); (try have hz2 : w.heap.size + 1 < w1.heap.size := by omega); (try have hz3 : w.heap.size + 1 + 1 < w1.heap.size := by omega); (try have hz4 : w.heap.size + 1 + 1 + 1 < w1.heap.size := by omega)) | (go_at_call 59; refine (within_c _ _ _ _).mono ?_; rintro e w' ⟨rfl, rfl⟩))
    all_goals go_ret
    all_goals exact ⟨ret_bool (by simp [*]), (by repeat (first | with_reducible exact Below.refl _ _ | with_reducible assumption | with_reducible refine Below.drew ?_ | with_reducible refine Below.alloc ?_ (by first | exact Nat.le_refl _ | (simp; done) | (simp; omega) | omega) _ | with_reducible refine Below.setCell ?_ (by first | exact Nat.le_refl _ | (simp; done) | (simp; omega) | omega) _ | with_reducible refine Below.trans ?_ (Below.mono (by with_reducible assumption) (by first | exact Nat.le_refl _ | (simp; done) | (simp; omega) | omega))))⟩
set_option maxRecDepth 100000 in
theorem l04Mark_c (m : Mk) (w : World) (hs : m.name.size ≤ 9223372036854775807) : Calls Tryz.prog 52 #[.agg #[.string m.name, .int .i64 m.x, .int .i64 m.y, .int .i64 m.s, .int .i64 m.z]] w fun e w' => e = .returned (.bool (markOK m)) ∧ Below w.heap.size w w' := by
  obtain ⟨n, x, y, s, z⟩ := m
  simp only [markOK] at *
  cases h1 : nameOK n
  all_goals cases h2 : isPt x y
  all_goals cases h3 : inR s 1 2
  all_goals
    go_enter Tryz.func52, Tryz.ntmps52
    go_wp2_with (first | (go_at_call 72; refine (l04Name_c _ _ hs).mono ?_; rintro e w' ⟨rfl, rfl⟩) | (go_at_call 71; refine (isPointS_c _ _ _).mono ?_; rintro e w1 ⟨rfl, hb⟩; (try replace hb := below_trans (by with_reducible assumption) hb); obtain ⟨hc, hf⟩ := bcell hb; have hz := hb.size; (try simp at hz); (try have hz0 : w.heap.size ≤ w1.heap.size := by omega); (try have hz1 : w.heap.size < w1.heap.size := by omega); (try have hz2 : w.heap.size + 1 < w1.heap.size := by omega); (try have hz3 : w.heap.size + 1 + 1 < w1.heap.size := by omega); (try have hz4 : w.heap.size + 1 + 1 + 1 < w1.heap.size := by omega)) | (go_at_call 73; refine (l01In_c _ _ _ _).mono ?_; rintro e w' ⟨rfl, rfl⟩))
    all_goals go_ret
    all_goals exact ⟨ret_bool (by simp [*]), (by repeat (first | with_reducible exact Below.refl _ _ | with_reducible assumption | with_reducible refine Below.drew ?_ | with_reducible refine Below.alloc ?_ (by first | exact Nat.le_refl _ | (simp; done) | (simp; omega) | omega) _ | with_reducible refine Below.setCell ?_ (by first | exact Nat.le_refl _ | (simp; done) | (simp; omega) | omega) _ | with_reducible refine Below.trans ?_ (Below.mono (by with_reducible assumption) (by first | exact Nat.le_refl _ | (simp; done) | (simp; omega) | omega))))⟩
/-- the middle of a line -/
def midZ (a b : Int) : Int := (a + b) / 2
set_option maxRecDepth 100000 in
set_option maxHeartbeats 4000000 in
theorem middleOf_c (ax ay bx cy : Int) (w : World) (hA : isPt ax ay = true) (hB : isPt bx cy = true) : Calls Tryz.prog 62 #[.agg #[.int .i64 ax, .int .i64 ay, .int .i64 bx, .int .i64 cy]] w fun e w' => e = .returned (.agg #[.int .i64 (midZ ax bx), .int .i64 (midZ ay cy)]) ∧ Below w.heap.size w w' := by
  obtain ⟨a1, a2, a3, a4⟩ := isPt_true hA
  obtain ⟨b1, b2, b3, b4⟩ := isPt_true hB
  have w1 : IntKind.i64.wrap (ax + bx) = ax + bx := by rw [IntKind.wrap_i64]; omega
  have w2 : IntKind.i64.wrap (ay + cy) = ay + cy := by rw [IntKind.wrap_i64]; omega
  have c1 := Lib.hid (fun w => Calls.mono (floorDiv_c (ax + bx) 2 w (by omega) (by omega) (by omega) (by omega)) (fun e w' h => (show _ ∧ Below w.heap.size w w' from ⟨h.1, h.2 ▸ Below.refl _ _⟩)))
  have c2 := Lib.hid (fun w => Calls.mono (floorDiv_c (ay + cy) 2 w (by omega) (by omega) (by omega) (by omega)) (fun e w' h => (show _ ∧ Below w.heap.size w w' from ⟨h.1, h.2 ▸ Below.refl _ _⟩)))
  unfold midZ
  clear a1 a2 a3 a4 b1 b2 b3 b4 hA hB
  obtain ⟨W, hW⟩ : ∃ W : World, W = (w.alloc (.cells #[.int .i64 ax, .int .i64 ay, .int .i64 bx, .int .i64 cy] 25)).alloc (.cells #[.int .i64 0, .int .i64 0] 23) := ⟨_, rfl⟩
  have s0 : W.cell? ⟨w.heap.size, 0, none⟩ = some (.int .i64 ax) := by subst hW; simp [go_sem]
  have s1 : W.cell? ⟨w.heap.size, 1, none⟩ = some (.int .i64 ay) := by subst hW; simp [go_sem]
  have s2 : W.cell? ⟨w.heap.size, 2, none⟩ = some (.int .i64 bx) := by subst hW; simp [go_sem]
  have s3 : W.cell? ⟨w.heap.size, 3, none⟩ = some (.int .i64 cy) := by subst hW; simp [go_sem]
  have z0 : W.cell? ⟨w.heap.size + 1, 0, none⟩ = some (.int .i64 0) := by subst hW; simp [go_sem]
  have z1 : W.cell? ⟨w.heap.size + 1, 1, none⟩ = some (.int .i64 0) := by subst hW; simp [go_sem]
  have z2 : W.frozen? ⟨w.heap.size + 1, 0, none⟩ = false := by subst hW; simp [go_sem]
  have z3 : W.frozen? ⟨w.heap.size + 1, 1, none⟩ = false := by subst hW; simp [go_sem]
  have hl1 : w.heap.size < W.heap.size := by subst hW; simp; omega
  have hl4 : w.heap.size + 1 < W.heap.size := by subst hW; simp
  have HD : Below w.heap.size w W := by subst hW; exact (by repeat (first | with_reducible exact Below.refl _ _ | with_reducible assumption | with_reducible refine Below.drew ?_ | with_reducible refine Below.alloc ?_ (by first | exact Nat.le_refl _ | (simp; done) | (simp; omega) | omega) _ | with_reducible refine Below.setCell ?_ (by first | exact Nat.le_refl _ | (simp; done) | (simp; omega) | omega) _ | with_reducible refine Below.trans ?_ (Below.mono (by with_reducible assumption) (by first | exact Nat.le_refl _ | (simp; done) | (simp; omega) | omega))))
  go_enter Tryz.func62, Tryz.ntmps62
  go_upto_region 1 with fail
  rw [← hW]
  clear hW
  have hgB : w.heap.size ≤ w.heap.size + 1 := by omega
  have n0 : w.heap.size ≠ w.heap.size + 1 := by omega
  generalize w.heap.size + 1 = B at *
  go_region_held3 (fun wx => ((∀ b o, b < W.heap.size → b ≠ B → wx.cell? ⟨b, o, none⟩ = W.cell? ⟨b, o, none⟩) ∧ wx.cell? ⟨B, 0, none⟩ = some (.int .i64 (rd wx ⟨B, 0, none⟩)) ∧ wx.cell? ⟨B, 1, none⟩ = some (.int .i64 (rd wx ⟨B, 1, none⟩)) ∧ wx.frozen? ⟨B, 0, none⟩ = false ∧ wx.frozen? ⟨B, 1, none⟩ = false ∧ Kept B W wx))
    (first | with_reducible assumption | with_reducible exact h4_below (by with_reducible assumption) hl4 hb | with_reducible exact h4_set1 (h4_set0 (by with_reducible assumption) _) _ | with_reducible exact h4_set0 (h4_set1 (by with_reducible assumption) _) _ | with_reducible exact h4_set0 (by with_reducible assumption) _ | with_reducible exact h4_set1 (by with_reducible assumption) _ | exact h4_mk (Kept.refl _ _).drew z0 z1 z2 z3)
    (first | (go_at_call_of 75 (ax + bx); refine (c1.out _).mono ?_; rintro e w' ⟨rfl, hb⟩) | (go_at_call_of 75 (ay + cy); refine (c2.out _).mono ?_; rintro e w' ⟨rfl, hb⟩))
  all_goals go_wp2
  all_goals have hv := h4_vals (by with_reducible assumption)
  all_goals obtain ⟨hv0, hv1⟩ := hv
  all_goals exact bodyPost_ret (v := .agg #[.int .i64 ((ax + bx) / 2), .int .i64 ((ay + cy) / 2)]) (by simp [results, Tryz.results62, go_sem, *]) rfl ⟨rfl, kept_end HD hgB (h4_kept (by with_reducible assumption))⟩
set_option maxRecDepth 100000 in
set_option maxHeartbeats 4000000 in
theorem l04Middle_c (ax ay bx cy : Int) (w : World) (hA : isPt ax ay = true) (hB : isPt bx cy = true) : Calls Tryz.prog 48 #[.agg #[.int .i64 ax, .int .i64 ay, .int .i64 bx, .int .i64 cy]] w fun e w' => e = .returned (.agg #[.int .i64 (midZ ax bx), .int .i64 (midZ ay cy)]) ∧ Below w.heap.size w w' := by
  obtain ⟨a1, a2, a3, a4⟩ := isPt_true hA
  obtain ⟨b1, b2, b3, b4⟩ := isPt_true hB
  have w1 : IntKind.i64.wrap (ax + bx) = ax + bx := by rw [IntKind.wrap_i64]; omega
  have w2 : IntKind.i64.wrap (ay + cy) = ay + cy := by rw [IntKind.wrap_i64]; omega
  have c1 := Lib.hid (fun w => Calls.mono (l01Floor_c (ax + bx) 2 w (by omega) (by omega) (by omega) (by omega)) (fun e w' h => (show _ ∧ Below w.heap.size w w' from ⟨h.1, h.2 ▸ Below.refl _ _⟩)))
  have c2 := Lib.hid (fun w => Calls.mono (l01Floor_c (ay + cy) 2 w (by omega) (by omega) (by omega) (by omega)) (fun e w' h => (show _ ∧ Below w.heap.size w w' from ⟨h.1, h.2 ▸ Below.refl _ _⟩)))
  unfold midZ
  clear a1 a2 a3 a4 b1 b2 b3 b4 hA hB
  obtain ⟨W, hW⟩ : ∃ W : World, W = (w.alloc (.cells #[.int .i64 ax, .int .i64 ay, .int .i64 bx, .int .i64 cy] 25)).alloc (.cells #[.int .i64 0, .int .i64 0] 23) := ⟨_, rfl⟩
  have s0 : W.cell? ⟨w.heap.size, 0, none⟩ = some (.int .i64 ax) := by subst hW; simp [go_sem]
  have s1 : W.cell? ⟨w.heap.size, 1, none⟩ = some (.int .i64 ay) := by subst hW; simp [go_sem]
  have s2 : W.cell? ⟨w.heap.size, 2, none⟩ = some (.int .i64 bx) := by subst hW; simp [go_sem]
  have s3 : W.cell? ⟨w.heap.size, 3, none⟩ = some (.int .i64 cy) := by subst hW; simp [go_sem]
  have z0 : W.cell? ⟨w.heap.size + 1, 0, none⟩ = some (.int .i64 0) := by subst hW; simp [go_sem]
  have z1 : W.cell? ⟨w.heap.size + 1, 1, none⟩ = some (.int .i64 0) := by subst hW; simp [go_sem]
  have z2 : W.frozen? ⟨w.heap.size + 1, 0, none⟩ = false := by subst hW; simp [go_sem]
  have z3 : W.frozen? ⟨w.heap.size + 1, 1, none⟩ = false := by subst hW; simp [go_sem]
  have hl1 : w.heap.size < W.heap.size := by subst hW; simp; omega
  have hl4 : w.heap.size + 1 < W.heap.size := by subst hW; simp
  have HD : Below w.heap.size w W := by subst hW; exact (by repeat (first | with_reducible exact Below.refl _ _ | with_reducible assumption | with_reducible refine Below.drew ?_ | with_reducible refine Below.alloc ?_ (by first | exact Nat.le_refl _ | (simp; done) | (simp; omega) | omega) _ | with_reducible refine Below.setCell ?_ (by first | exact Nat.le_refl _ | (simp; done) | (simp; omega) | omega) _ | with_reducible refine Below.trans ?_ (Below.mono (by with_reducible assumption) (by first | exact Nat.le_refl _ | (simp; done) | (simp; omega) | omega))))
  go_enter Tryz.func48, Tryz.ntmps48
  go_upto_region 1 with fail
  rw [← hW]
  clear hW
  have hgB : w.heap.size ≤ w.heap.size + 1 := by omega
  have n0 : w.heap.size ≠ w.heap.size + 1 := by omega
  generalize w.heap.size + 1 = B at *
  go_region_held3 (fun wx => ((∀ b o, b < W.heap.size → b ≠ B → wx.cell? ⟨b, o, none⟩ = W.cell? ⟨b, o, none⟩) ∧ wx.cell? ⟨B, 0, none⟩ = some (.int .i64 (rd wx ⟨B, 0, none⟩)) ∧ wx.cell? ⟨B, 1, none⟩ = some (.int .i64 (rd wx ⟨B, 1, none⟩)) ∧ wx.frozen? ⟨B, 0, none⟩ = false ∧ wx.frozen? ⟨B, 1, none⟩ = false ∧ Kept B W wx))
    (first | with_reducible assumption | with_reducible exact h4_below (by with_reducible assumption) hl4 hb | with_reducible exact h4_set1 (h4_set0 (by with_reducible assumption) _) _ | with_reducible exact h4_set0 (h4_set1 (by with_reducible assumption) _) _ | with_reducible exact h4_set0 (by with_reducible assumption) _ | with_reducible exact h4_set1 (by with_reducible assumption) _ | exact h4_mk (Kept.refl _ _).drew z0 z1 z2 z3)
    (first | (go_at_call_of 69 (ax + bx); refine (c1.out _).mono ?_; rintro e w' ⟨rfl, hb⟩) | (go_at_call_of 69 (ay + cy); refine (c2.out _).mono ?_; rintro e w' ⟨rfl, hb⟩))
  all_goals go_wp2
  all_goals have hv := h4_vals (by with_reducible assumption)
  all_goals obtain ⟨hv0, hv1⟩ := hv
  all_goals exact bodyPost_ret (v := .agg #[.int .i64 ((ax + bx) / 2), .int .i64 ((ay + cy) / 2)]) (by simp [results, Tryz.results48, go_sem, *]) rfl ⟨rfl, kept_end HD hgB (h4_kept (by with_reducible assumption))⟩
end Go.Proofs.YtjgndfphbmkhaaaGreatDoor
