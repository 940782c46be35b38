/-
  A course copied, and two courses compared. Conditions stand with each.
-/
import Derived.Test.YtjgndfphbmkhaaaGreatDoorCrsG
import Derived.Laws.IdiomCopy
namespace Go.Proofs.YtjgndfphbmkhaaaGreatDoor
set_option linter.unusedVariables false
open Go.RowKit Go.Deep

theorem is4 {V : World} {B p : Nat} {u0 u1 u2 u3 : Value} (h0 : V.cell? ⟨B, p, none⟩ = some u0) (h1 : V.cell? ⟨B, p + 1, none⟩ = some u1) (h2 : V.cell? ⟨B, p + 2, none⟩ = some u2) (h3 : V.cell? ⟨B, p + 3, none⟩ = some u3) : ∀ j, j < 4 → (V.cell? ⟨B, p + j, none⟩).isSome = true := fun j hj => by
  have : j = 0 ∨ j = 1 ∨ j = 2 ∨ j = 3 := by omega
  rcases this with rfl | rfl | rfl | rfl
  · rw [Nat.add_zero, h0]; rfl
  · rw [h1]; rfl
  · rw [h2]; rfl
  · rw [h3]; rfl
theorem set4 {V V' : World} {B p : Nat} {v0 v1 v2 v3 : Value} (e : V' = V.setCells B p [v0, v1, v2, v3]) (h : ∀ j, j < 4 → (V.cell? ⟨B, p + j, none⟩).isSome = true) :
    V'.cell? ⟨B, p, none⟩ = some v0 ∧ V'.cell? ⟨B, p + 1, none⟩ = some v1 ∧ V'.cell? ⟨B, p + 2, none⟩ = some v2 ∧ V'.cell? ⟨B, p + 3, none⟩ = some v3 ∧
    (∀ b o, (b ≠ B ∨ o < p ∨ p + 4 ≤ o) → V'.cell? ⟨b, o, none⟩ = V.cell? ⟨b, o, none⟩) ∧ (∀ b o, V'.frozen? ⟨b, o, none⟩ = V.frozen? ⟨b, o, none⟩) ∧ V'.heap.size = V.heap.size ∧ (∀ n, n ≤ B → Below n V V') := by
  subst e
  have hin := World.cell?_setCells_in B [v0, v1, v2, v3] p V h
  refine ⟨?_, ?_, ?_, ?_, ?_, ?_, ?_, ?_⟩
  · simpa using hin 0 (by simp)
  · simpa using hin 1 (by simp)
  · simpa using hin 2 (by simp)
  · simpa using hin 3 (by simp)
  · intro b o hb
    refine World.cell?_setCells_out B _ p V ⟨b, o, none⟩ (fun hbB _ => ?_)
    simp at hbB ⊢
    omega
  · intro b o; exact World.frozen?_setCells B _ p V _
  · simp [World.setCells]
  · intro n hn
    exact ((((Below.refl n V).setCell (p := ⟨B, p, none⟩) hn v0).setCell (p := ⟨B, p + 1, none⟩) hn v1).setCell (p := ⟨B, p + 1 + 1, none⟩) hn v2).setCell (p := ⟨B, p + 1 + 1 + 1, none⟩) hn v3
set_option maxHeartbeats 400000 in
theorem eqLine_same (a b c d : Int) (w : World) : Calls Tryz.prog 24 #[.agg #[.int .i64 a, .int .i64 b, .int .i64 c, .int .i64 d], .agg #[.int .i64 a, .int .i64 b, .int .i64 c, .int .i64 d]] w fun e w' => e = .returned (.bool true) ∧ Below w.heap.size w w' := by
  have ce : ∀ x y w, Calls Tryz.prog 43 #[.agg #[.int .i64 x, .int .i64 y], .agg #[.int .i64 x, .int .i64 y]] w fun e w' => e = .returned (.bool true) ∧ Below w.heap.size w w' := by
    intro x y w
    go_enter Tryz.func43, Tryz.ntmps43
    go_wp2
    go_ret
    exact ⟨rfl, (by repeat (first | with_reducible exact Below.refl _ _ | with_reducible assumption | with_reducible refine Below.drew ?_ | with_reducible refine Below.alloc ?_ (by first | exact Nat.le_refl _ | (simp; done) | (simp; omega) | omega) _ | with_reducible refine Below.setCell ?_ (by first | exact Nat.le_refl _ | (simp; done) | (simp; omega) | omega) _ | with_reducible refine Below.trans ?_ (Below.mono (by with_reducible assumption) (by first | exact Nat.le_refl _ | (simp; done) | (simp; omega) | omega))))⟩
  go_enter Tryz.func24, Tryz.ntmps24
  go_wp2_with (go_at_call 43; refine (ce _ _ _).mono ?_; rintro e w1 ⟨rfl, hb⟩; (try replace hb := below_trans (by with_reducible assumption) hb); obtain ⟨hc, hf⟩ := bcell hb; have hz := hb.size; (try simp at hz); (try have hz0 : w.heap.size ≤ w1.heap.size := by omega); (try have hz1 : w.heap.size < w1.heap.size := by omega); (try have hz2 : w.heap.size + 1 < w1.heap.size := by omega); (try have hz3 : w.heap.size + 1 + 1 < w1.heap.size := by omega); (try have hz4 : w.heap.size + 1 + 1 + 1 < w1.heap.size := by omega))
  go_ret
  exact ⟨rfl, (by repeat (first | with_reducible exact Below.refl _ _ | with_reducible assumption | with_reducible refine Below.drew ?_ | with_reducible refine Below.alloc ?_ (by first | exact Nat.le_refl _ | (simp; done) | (simp; omega) | omega) _ | with_reducible refine Below.setCell ?_ (by first | exact Nat.le_refl _ | (simp; done) | (simp; omega) | omega) _ | with_reducible refine Below.trans ?_ (Below.mono (by with_reducible assumption) (by first | exact Nat.le_refl _ | (simp; done) | (simp; omega) | omega))))⟩
set_option maxHeartbeats 400000 in
theorem eqMark_same (m : Mk) (w : World) : Calls Tryz.prog 44 #[.agg #[.string m.name, .int .i64 m.x, .int .i64 m.y, .int .i64 m.s, .int .i64 m.z], .agg #[.string m.name, .int .i64 m.x, .int .i64 m.y, .int .i64 m.s, .int .i64 m.z]] w fun e w' => e = .returned (.bool true) ∧ Below w.heap.size w w' := by
  have ce : ∀ x y w, Calls Tryz.prog 43 #[.agg #[.int .i64 x, .int .i64 y], .agg #[.int .i64 x, .int .i64 y]] w fun e w' => e = .returned (.bool true) ∧ Below w.heap.size w w' := by
    intro x y w
    go_enter Tryz.func43, Tryz.ntmps43
    go_wp2
    go_ret
    exact ⟨rfl, (by repeat (first | with_reducible exact Below.refl _ _ | with_reducible assumption | with_reducible refine Below.drew ?_ | with_reducible refine Below.alloc ?_ (by first | exact Nat.le_refl _ | (simp; done) | (simp; omega) | omega) _ | with_reducible refine Below.setCell ?_ (by first | exact Nat.le_refl _ | (simp; done) | (simp; omega) | omega) _ | with_reducible refine Below.trans ?_ (Below.mono (by with_reducible assumption) (by first | exact Nat.le_refl _ | (simp; done) | (simp; omega) | omega))))⟩
  obtain ⟨n, x, y, s, z⟩ := m
  have hn := (str_beq n n).2 rfl
  go_enter Tryz.func44, Tryz.ntmps44
  go_wp2_with (go_at_call 43; refine (ce _ _ _).mono ?_; rintro e w1 ⟨rfl, hb⟩; (try replace hb := below_trans (by with_reducible assumption) hb); obtain ⟨hc, hf⟩ := bcell hb; have hz := hb.size; (try simp at hz); (try have hz0 : w.heap.size ≤ w1.heap.size := by omega); (try have hz1 : w.heap.size < w1.heap.size := by omega); (try have hz2 : w.heap.size + 1 < w1.heap.size := by omega); (try have hz3 : w.heap.size + 1 + 1 < w1.heap.size := by omega); (try have hz4 : w.heap.size + 1 + 1 + 1 < w1.heap.size := by omega))
  go_ret
  exact ⟨rfl, (by repeat (first | with_reducible exact Below.refl _ _ | with_reducible assumption | with_reducible refine Below.drew ?_ | with_reducible refine Below.alloc ?_ (by first | exact Nat.le_refl _ | (simp; done) | (simp; omega) | omega) _ | with_reducible refine Below.setCell ?_ (by first | exact Nat.le_refl _ | (simp; done) | (simp; omega) | omega) _ | with_reducible refine Below.trans ?_ (Below.mono (by with_reducible assumption) (by first | exact Nat.le_refl _ | (simp; done) | (simp; omega) | omega))))⟩
set_option maxRecDepth 100000 in
set_option maxHeartbeats 2000000 in
theorem eqMarkS_same (a a' : Option Addr) (cap cap' : Nat) (l : List Mk) (w : World) (hl : l.length ≤ 9223372036854775807) (h : RowAt w a (mflat l)) (h' : RowAt w a' (mflat l)) : Calls Tryz.prog 25 #[.slice a l.length cap, .slice a' l.length cap'] w fun e w' => e = .returned (.bool true) ∧ Below w.heap.size w w' := by
  have H := Lib.hid (And.intro h h')
  clear h h'
  go_enter Tryz.func25, Tryz.ntmps25
  go_wp2_with fail
  go_loopw [5] (fun x wr => ∃ k : Nat, x = .int .i64 k ∧ k ≤ l.length ∧ Below w.heap.size w wr) (fun x _ => l.length - (intOf x).toNat)
  case atStart => exact ⟨0, rfl, Nat.zero_le _, Below.refl _ _⟩
  case round =>
    obtain ⟨k, rfl, hk, hbl⟩ := hrel
    by_cases h : k < l.length
    · obtain ⟨b, off, rfl, hb, c0, c1, c2, c3, c4⟩ := mark_cell (H.out.1.below hbl) h
      obtain ⟨b', off', rfl, hb', d0, d1, d2, d3, d4⟩ := mark_cell (H.out.2.below hbl) h
      have hh : (k : Int) < (l.length : Int) := by omega
      have HC := Lib.hid (fun w => eqMark_same (mk l k) w)
      generalize mk l k = m at *
      obtain ⟨n0, u0, u1, u2, u3⟩ := m
      dsimp only at c0 c1 c2 c3 c4 d0 d1 d2 d3 d4
      go_wp2_with fail
      have HB := Lib.hid hbl
      clear hbl
      refine wp_region_later (by kernel_rfl) (by kernel_rfl) ?_
      repeat (first | go_big_quiet_step ((go_at_call 44; exact later_of _ (HC.out _))) | quiet_step ((go_at_call 44; exact later_of _ (HC.out _))))
      refine wpQuiet_nil ?_
      intro _ hw'
      obtain ⟨sk6, hw''⟩ := hw'
      subst hw''
      have hbk6 := sk6.below
      generalize sk6.w = wk6 at hbk6 ⊢
      clear sk6
      try replace hbk6 := below_trans (by with_reducible assumption) hbk6
      obtain ⟨hck6, hfk6⟩ := bcell hbk6
      have hzk6 := hbk6.size
      try simp at hzk6
      try have hzk60 : w.heap.size ≤ wk6.heap.size := by omega
      try have hzk61 : w.heap.size < wk6.heap.size := by omega
      try have hzk62 : w.heap.size + 1 < wk6.heap.size := by omega
      try have hzk63 : w.heap.size + 1 + 1 < wk6.heap.size := by omega
      try have hzk64 : w.heap.size + 1 + 1 + 1 < wk6.heap.size := by omega
      go_wp2_with fail
      exact ⟨⟨k + 1, by simp, by omega, HB.out.trans (hbk6.mono HB.out.size)⟩, by simp [intOf]; omega⟩
    · have hh : ¬ (k : Int) < (l.length : Int) := by omega
      go_wp2_with fail
      go_ret
      exact ⟨rfl, hbl⟩
set_option maxRecDepth 100000 in
set_option maxHeartbeats 2000000 in
theorem eqCourse_same (x0 x1 x2 x3 x4 x5 x6 x7 : Int) (a a' : Option Addr) (cap cap' : Nat) (l : List Mk) (w : World) (hl : l.length ≤ 9223372036854775807) (h : RowAt w a (mflat l)) (h' : RowAt w a' (mflat l)) : Calls Tryz.prog 7 #[.agg #[.int .i64 x0, .int .i64 x1, .int .i64 x2, .int .i64 x3, .int .i64 x4, .int .i64 x5, .int .i64 x6, .int .i64 x7, .slice a l.length cap], .agg #[.int .i64 x0, .int .i64 x1, .int .i64 x2, .int .i64 x3, .int .i64 x4, .int .i64 x5, .int .i64 x6, .int .i64 x7, .slice a' l.length cap']] w fun e w' => e = .returned (.bool true) ∧ Below w.heap.size w w' := by
  obtain ⟨W, hW⟩ : ∃ W, W = (w.alloc (.cells #[.int .i64 x0, .int .i64 x1, .int .i64 x2, .int .i64 x3, .int .i64 x4, .int .i64 x5, .int .i64 x6, .int .i64 x7, .slice a l.length cap] 28)).alloc (.cells #[.int .i64 x0, .int .i64 x1, .int .i64 x2, .int .i64 x3, .int .i64 x4, .int .i64 x5, .int .i64 x6, .int .i64 x7, .slice a' l.length cap'] 28) := ⟨_, rfl⟩
  have HD : Below w.heap.size w W := by subst hW; exact (by repeat (first | with_reducible exact Below.refl _ _ | with_reducible assumption | with_reducible refine Below.drew ?_ | with_reducible refine Below.alloc ?_ (by first | exact Nat.le_refl _ | (simp; done) | (simp; omega) | omega) _ | with_reducible refine Below.setCell ?_ (by first | exact Nat.le_refl _ | (simp; done) | (simp; omega) | omega) _ | with_reducible refine Below.trans ?_ (Below.mono (by with_reducible assumption) (by first | exact Nat.le_refl _ | (simp; done) | (simp; omega) | omega))))
  have b0 : W.cell? ⟨w.heap.size, 0, none⟩ = some (.int .i64 x0) := by subst hW; simp [go_sem]
  have b1 : W.cell? ⟨w.heap.size, 1, none⟩ = some (.int .i64 x1) := by subst hW; simp [go_sem]
  have b2 : W.cell? ⟨w.heap.size, 2, none⟩ = some (.int .i64 x2) := by subst hW; simp [go_sem]
  have b3 : W.cell? ⟨w.heap.size, 3, none⟩ = some (.int .i64 x3) := by subst hW; simp [go_sem]
  have b4 : W.cell? ⟨w.heap.size, 4, none⟩ = some (.int .i64 x4) := by subst hW; simp [go_sem]
  have b5 : W.cell? ⟨w.heap.size, 5, none⟩ = some (.int .i64 x5) := by subst hW; simp [go_sem]
  have b6 : W.cell? ⟨w.heap.size, 6, none⟩ = some (.int .i64 x6) := by subst hW; simp [go_sem]
  have b7 : W.cell? ⟨w.heap.size, 7, none⟩ = some (.int .i64 x7) := by subst hW; simp [go_sem]
  have b8 : W.cell? ⟨w.heap.size, 8, none⟩ = some (.slice a l.length cap) := by subst hW; simp [go_sem]
  have r0 : W.cell? ⟨w.heap.size + 1, 0, none⟩ = some (.int .i64 x0) := by subst hW; simp [go_sem]
  have r1 : W.cell? ⟨w.heap.size + 1, 1, none⟩ = some (.int .i64 x1) := by subst hW; simp [go_sem]
  have r2 : W.cell? ⟨w.heap.size + 1, 2, none⟩ = some (.int .i64 x2) := by subst hW; simp [go_sem]
  have r3 : W.cell? ⟨w.heap.size + 1, 3, none⟩ = some (.int .i64 x3) := by subst hW; simp [go_sem]
  have r4 : W.cell? ⟨w.heap.size + 1, 4, none⟩ = some (.int .i64 x4) := by subst hW; simp [go_sem]
  have r5 : W.cell? ⟨w.heap.size + 1, 5, none⟩ = some (.int .i64 x5) := by subst hW; simp [go_sem]
  have r6 : W.cell? ⟨w.heap.size + 1, 6, none⟩ = some (.int .i64 x6) := by subst hW; simp [go_sem]
  have r7 : W.cell? ⟨w.heap.size + 1, 7, none⟩ = some (.int .i64 x7) := by subst hW; simp [go_sem]
  have r8 : W.cell? ⟨w.heap.size + 1, 8, none⟩ = some (.slice a' l.length cap') := by subst hW; simp [go_sem]
  have l0 : w.heap.size < W.heap.size := by subst hW; simp; omega
  have l1 : w.heap.size + 1 < W.heap.size := by subst hW; simp
  have H := Lib.hid (And.intro h h')
  clear h h'
  go_enter Tryz.func7, Tryz.ntmps7
  go_wp2_with fail
  rw [← hW]
  clear hW
  refine (eqLine_same x0 x1 x2 x3 W).mono ?_
  rintro e V1 ⟨rfl, hb⟩
  replace b0 := (hb.cell (p := ⟨w.heap.size, 0, none⟩) l0).trans b0
  replace b1 := (hb.cell (p := ⟨w.heap.size, 1, none⟩) l0).trans b1
  replace b2 := (hb.cell (p := ⟨w.heap.size, 2, none⟩) l0).trans b2
  replace b3 := (hb.cell (p := ⟨w.heap.size, 3, none⟩) l0).trans b3
  replace b4 := (hb.cell (p := ⟨w.heap.size, 4, none⟩) l0).trans b4
  replace b5 := (hb.cell (p := ⟨w.heap.size, 5, none⟩) l0).trans b5
  replace b6 := (hb.cell (p := ⟨w.heap.size, 6, none⟩) l0).trans b6
  replace b7 := (hb.cell (p := ⟨w.heap.size, 7, none⟩) l0).trans b7
  replace b8 := (hb.cell (p := ⟨w.heap.size, 8, none⟩) l0).trans b8
  replace r0 := (hb.cell (p := ⟨w.heap.size + 1, 0, none⟩) l1).trans r0
  replace r1 := (hb.cell (p := ⟨w.heap.size + 1, 1, none⟩) l1).trans r1
  replace r2 := (hb.cell (p := ⟨w.heap.size + 1, 2, none⟩) l1).trans r2
  replace r3 := (hb.cell (p := ⟨w.heap.size + 1, 3, none⟩) l1).trans r3
  replace r4 := (hb.cell (p := ⟨w.heap.size + 1, 4, none⟩) l1).trans r4
  replace r5 := (hb.cell (p := ⟨w.heap.size + 1, 5, none⟩) l1).trans r5
  replace r6 := (hb.cell (p := ⟨w.heap.size + 1, 6, none⟩) l1).trans r6
  replace r7 := (hb.cell (p := ⟨w.heap.size + 1, 7, none⟩) l1).trans r7
  replace r8 := (hb.cell (p := ⟨w.heap.size + 1, 8, none⟩) l1).trans r8
  replace l0 := Nat.lt_of_lt_of_le l0 hb.size
  replace l1 := Nat.lt_of_lt_of_le l1 hb.size
  replace HD := HD.trans (hb.mono HD.size)
  clear hb
  go_wp2_with fail
  refine (eqLine_same x4 x5 x6 x7 V1).mono ?_
  rintro e V2 ⟨rfl, hb⟩
  replace b0 := (hb.cell (p := ⟨w.heap.size, 0, none⟩) l0).trans b0
  replace b1 := (hb.cell (p := ⟨w.heap.size, 1, none⟩) l0).trans b1
  replace b2 := (hb.cell (p := ⟨w.heap.size, 2, none⟩) l0).trans b2
  replace b3 := (hb.cell (p := ⟨w.heap.size, 3, none⟩) l0).trans b3
  replace b4 := (hb.cell (p := ⟨w.heap.size, 4, none⟩) l0).trans b4
  replace b5 := (hb.cell (p := ⟨w.heap.size, 5, none⟩) l0).trans b5
  replace b6 := (hb.cell (p := ⟨w.heap.size, 6, none⟩) l0).trans b6
  replace b7 := (hb.cell (p := ⟨w.heap.size, 7, none⟩) l0).trans b7
  replace b8 := (hb.cell (p := ⟨w.heap.size, 8, none⟩) l0).trans b8
  replace r0 := (hb.cell (p := ⟨w.heap.size + 1, 0, none⟩) l1).trans r0
  replace r1 := (hb.cell (p := ⟨w.heap.size + 1, 1, none⟩) l1).trans r1
  replace r2 := (hb.cell (p := ⟨w.heap.size + 1, 2, none⟩) l1).trans r2
  replace r3 := (hb.cell (p := ⟨w.heap.size + 1, 3, none⟩) l1).trans r3
  replace r4 := (hb.cell (p := ⟨w.heap.size + 1, 4, none⟩) l1).trans r4
  replace r5 := (hb.cell (p := ⟨w.heap.size + 1, 5, none⟩) l1).trans r5
  replace r6 := (hb.cell (p := ⟨w.heap.size + 1, 6, none⟩) l1).trans r6
  replace r7 := (hb.cell (p := ⟨w.heap.size + 1, 7, none⟩) l1).trans r7
  replace r8 := (hb.cell (p := ⟨w.heap.size + 1, 8, none⟩) l1).trans r8
  replace l0 := Nat.lt_of_lt_of_le l0 hb.size
  replace l1 := Nat.lt_of_lt_of_le l1 hb.size
  replace HD := HD.trans (hb.mono HD.size)
  clear hb
  go_wp2_with fail
  refine (eqMarkS_same a a' cap cap' l V2 hl (H.out.1.below HD) (H.out.2.below HD)).mono ?_
  rintro e V3 ⟨rfl, hb⟩
  replace b0 := (hb.cell (p := ⟨w.heap.size, 0, none⟩) l0).trans b0
  replace b1 := (hb.cell (p := ⟨w.heap.size, 1, none⟩) l0).trans b1
  replace b2 := (hb.cell (p := ⟨w.heap.size, 2, none⟩) l0).trans b2
  replace b3 := (hb.cell (p := ⟨w.heap.size, 3, none⟩) l0).trans b3
  replace b4 := (hb.cell (p := ⟨w.heap.size, 4, none⟩) l0).trans b4
  replace b5 := (hb.cell (p := ⟨w.heap.size, 5, none⟩) l0).trans b5
  replace b6 := (hb.cell (p := ⟨w.heap.size, 6, none⟩) l0).trans b6
  replace b7 := (hb.cell (p := ⟨w.heap.size, 7, none⟩) l0).trans b7
  replace b8 := (hb.cell (p := ⟨w.heap.size, 8, none⟩) l0).trans b8
  replace r0 := (hb.cell (p := ⟨w.heap.size + 1, 0, none⟩) l1).trans r0
  replace r1 := (hb.cell (p := ⟨w.heap.size + 1, 1, none⟩) l1).trans r1
  replace r2 := (hb.cell (p := ⟨w.heap.size + 1, 2, none⟩) l1).trans r2
  replace r3 := (hb.cell (p := ⟨w.heap.size + 1, 3, none⟩) l1).trans r3
  replace r4 := (hb.cell (p := ⟨w.heap.size + 1, 4, none⟩) l1).trans r4
  replace r5 := (hb.cell (p := ⟨w.heap.size + 1, 5, none⟩) l1).trans r5
  replace r6 := (hb.cell (p := ⟨w.heap.size + 1, 6, none⟩) l1).trans r6
  replace r7 := (hb.cell (p := ⟨w.heap.size + 1, 7, none⟩) l1).trans r7
  replace r8 := (hb.cell (p := ⟨w.heap.size + 1, 8, none⟩) l1).trans r8
  replace l0 := Nat.lt_of_lt_of_le l0 hb.size
  replace l1 := Nat.lt_of_lt_of_le l1 hb.size
  replace HD := HD.trans (hb.mono HD.size)
  clear hb
  go_wp2_with fail
  go_ret
  exact ⟨rfl, HD⟩
end Go.Proofs.YtjgndfphbmkhaaaGreatDoor
