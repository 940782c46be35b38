/-
  FnExactPointAt: for all arguments the program's function answers as the reference's. No condition.
-/
import Derived.Test.YtdgmadpkhdfapaaRows
import Derived.Test.YtdgmadpkhdfapaaL02p
import Derived.Test.YtdgmadpkhdfapaaHeld
namespace Go.Proofs.Ytdgmadpkhdfapaa.pointAt
open Go.ChangeShapes Go.WideShapes Go.ChangeAt Go.RowKit Go.Deep
open Go.ChangeMaps (open_string shut_string)
set_option linter.unusedVariables false

set_option maxHeartbeats 3000000 in
theorem walk (a0 b0 c0 e0 a1 b1 : Int) (w : World) (w0a : (Lit.int .i64 a0).wf = true) (w0b : (Lit.int .i64 b0).wf = true) (w0c : (Lit.int .i64 c0).wf = true) (w0e : (Lit.int .i64 e0).wf = true) (w1a : (Lit.int .i64 a1).wf = true) (w1b : (Lit.int .i64 b1).wf = true) :
    Calls Try.prog 6 #[.agg #[.int .i64 a0, .int .i64 b0, .int .i64 c0, .int .i64 e0], .agg #[.int .i64 a1, .int .i64 b1]] w fun e w' => e = .returned (.bool true) ∧ Below w.heap.size w w' := by
  clear w0a w0b w0c w0e w1a w1b
  have cs := PointAtS_c a0 b0 c0 e0 a1 b1
  have ci := PointAt_c a0 b0 c0 e0 a1 b1
  generalize (pointR a0 b0 c0 e0 a1 b1).1 = n1 at *
  generalize (pointR a0 b0 c0 e0 a1 b1).2.1 = n2 at *
  generalize (pointR a0 b0 c0 e0 a1 b1).2.2 = n3 at *
  have CS := Lib.hid cs
  have CI := Lib.hid ci
  clear cs ci
  go_enter Try.func6, Try.ntmps6
  go_upto_region 1 with fail
  go_cut [5, 6] (fun sp sc wx => ∃ g : Nat, sp = .pointer (some ⟨g, 0, none⟩) ∧ sc = .int .i64 n3 ∧ wx.cell? ⟨g, 0, none⟩ = some (.int .i64 n1) ∧ wx.cell? ⟨g, 1, none⟩ = some (.int .i64 n2) ∧ ((w.alloc (.cells #[.int .i64 a0, .int .i64 b0, .int .i64 c0, .int .i64 e0] 43)).alloc (.cells #[.int .i64 a1, .int .i64 b1] 45)).heap.size ≤ g ∧ g < wx.heap.size ∧ Below ((w.alloc (.cells #[.int .i64 a0, .int .i64 b0, .int .i64 c0, .int .i64 e0] 43)).alloc (.cells #[.int .i64 a1, .int .i64 b1] 45)).heap.size ((w.alloc (.cells #[.int .i64 a0, .int .i64 b0, .int .i64 c0, .int .i64 e0] 43)).alloc (.cells #[.int .i64 a1, .int .i64 b1] 45)) wx)
  case first =>
    go_region_held3 (fun wx => Below ((w.alloc (.cells #[.int .i64 a0, .int .i64 b0, .int .i64 c0, .int .i64 e0] 43)).alloc (.cells #[.int .i64 a1, .int .i64 b1] 45)).heap.size ((w.alloc (.cells #[.int .i64 a0, .int .i64 b0, .int .i64 c0, .int .i64 e0] 43)).alloc (.cells #[.int .i64 a1, .int .i64 b1] 45)) wx ∧ ∀ b o, b < ((w.alloc (.cells #[.int .i64 a0, .int .i64 b0, .int .i64 c0, .int .i64 e0] 43)).alloc (.cells #[.int .i64 a1, .int .i64 b1] 45)).heap.size → wx.cell? ⟨b, o, none⟩ = ((w.alloc (.cells #[.int .i64 a0, .int .i64 b0, .int .i64 c0, .int .i64 e0] 43)).alloc (.cells #[.int .i64 a1, .int .i64 b1] 45)).cell? ⟨b, o, none⟩)
      (first | with_reducible exact held_step (by assumption) hb | with_reducible exact held_alloc (by assumption) _ | with_reducible exact (held_set (by with_reducible assumption) (by first | exact Nat.le_refl _ | (simp; done) | (simp; omega) | omega) _) | with_reducible exact (held_set (held_set (by with_reducible assumption) (by first | exact Nat.le_refl _ | (simp; done) | (simp; omega) | omega) _) (by first | exact Nat.le_refl _ | (simp; done) | (simp; omega) | omega) _) | with_reducible exact held_realloc (by assumption) (by first | exact Nat.le_refl _ | (simp; done) | (simp; omega) | omega) _ | with_reducible exact held_start _ _ | with_reducible exact held_begin _)
      (first | (go_at_call 26; refine (toSegment_c _ _ _ _ _).mono ?_; rintro e w1 ⟨rfl, hb⟩; have hz := held_size (by with_reducible assumption) hb; (try simp at hz); obtain ⟨hc, hf⟩ := bcell hb; have hs := hb.size; (try simp at hs); (try have hl := below_lt hb); (try simp at hl); (try have hlW : ((w.alloc (.cells #[.int .i64 a0, .int .i64 b0, .int .i64 c0, .int .i64 e0] 43)).alloc (.cells #[.int .i64 a1, .int .i64 b1] 45)).heap.size < w1.heap.size := by first | omega | (simp; omega)); (try simp at hlW); (try have hz2 : w.heap.size + 1 < w1.heap.size := by omega); (try have hz3 : w.heap.size + 1 + 1 < w1.heap.size := by omega); (try have hz4 : w.heap.size + 1 + 1 + 1 < w1.heap.size := by omega)) | (go_at_call 27; refine (toRatio_c _ _ _).mono ?_; rintro e w1 ⟨rfl, hb⟩; have hz := held_size (by with_reducible assumption) hb; (try simp at hz); obtain ⟨hc, hf⟩ := bcell hb; have hs := hb.size; (try simp at hs); (try have hl := below_lt hb); (try simp at hl); (try have hlW : ((w.alloc (.cells #[.int .i64 a0, .int .i64 b0, .int .i64 c0, .int .i64 e0] 43)).alloc (.cells #[.int .i64 a1, .int .i64 b1] 45)).heap.size < w1.heap.size := by first | omega | (simp; omega)); (try simp at hlW); (try have hz2 : w.heap.size + 1 < w1.heap.size := by omega); (try have hz3 : w.heap.size + 1 + 1 < w1.heap.size := by omega); (try have hz4 : w.heap.size + 1 + 1 + 1 < w1.heap.size := by omega)) | (go_at_call 25; refine (CS.out _).mono ?_; rintro e w1 ⟨rfl, hb⟩; have hz := held_size (by with_reducible assumption) hb; (try simp at hz); obtain ⟨hc, hf⟩ := bcell hb; have hs := hb.size; (try simp at hs); (try have hl := below_lt hb); (try simp at hl); (try have hlW : ((w.alloc (.cells #[.int .i64 a0, .int .i64 b0, .int .i64 c0, .int .i64 e0] 43)).alloc (.cells #[.int .i64 a1, .int .i64 b1] 45)).heap.size < w1.heap.size := by first | omega | (simp; omega)); (try simp at hlW); (try have hz2 : w.heap.size + 1 < w1.heap.size := by omega); (try have hz3 : w.heap.size + 1 + 1 < w1.heap.size := by omega); (try have hz4 : w.heap.size + 1 + 1 + 1 < w1.heap.size := by omega)))
    all_goals (go_wp2_with fail; go_meet; exact ⟨_, rfl, rfl, (by go_light; go_simp), (by go_light; go_simp), (by go_light; first | exact Nat.le_refl _ | (simp; done) | (simp; omega) | omega), (by go_light; first | (simp; done) | (simp; omega) | omega), (held_of (by with_reducible exact And.left (by with_reducible assumption))).1⟩)
  obtain ⟨g1, rfl, rfl, q10, q11, hg1, hl1, hb1⟩ := hcut
  obtain ⟨hc1, hf1⟩ := bcell hb1
  have hz1 := hb1.size
  (try simp at hz1 hg1)
  (try have hy10 : w.heap.size ≤ wc.heap.size := by omega)
  (try have hy11 : w.heap.size < wc.heap.size := by omega)
  (try have hy12 : w.heap.size + 1 < wc.heap.size := by omega)
  (try have hy13 : w.heap.size + 1 + 1 < wc.heap.size := by omega)
  (try have hy14 : w.heap.size + 1 + 1 + 1 < wc.heap.size := by omega)
  obtain ⟨wc1, rfl⟩ : ∃ x : World, x = wc := ⟨_, rfl⟩
  go_upto_region 2 with fail
  go_cut [7, 8] (fun sp sc wx => ∃ g : Nat, sp = .pointer (some ⟨g, 0, none⟩) ∧ sc = .int .i64 n3 ∧ wx.cell? ⟨g, 0, none⟩ = some (.int .i64 n1) ∧ wx.cell? ⟨g, 1, none⟩ = some (.int .i64 n2) ∧ wc1.heap.size ≤ g ∧ g < wx.heap.size ∧ Below wc1.heap.size wc1 wx)
  case first =>
    go_region_held3 (fun wx => Below wc1.heap.size wc1 wx ∧ ∀ b o, b < wc1.heap.size → wx.cell? ⟨b, o, none⟩ = wc1.cell? ⟨b, o, none⟩)
      (first | with_reducible exact held_step (by assumption) hb | with_reducible exact held_alloc (by assumption) _ | with_reducible exact (held_set (by with_reducible assumption) (by first | exact Nat.le_refl _ | (simp; done) | (simp; omega) | omega) _) | with_reducible exact (held_set (held_set (by with_reducible assumption) (by first | exact Nat.le_refl _ | (simp; done) | (simp; omega) | omega) _) (by first | exact Nat.le_refl _ | (simp; done) | (simp; omega) | omega) _) | with_reducible exact held_realloc (by assumption) (by first | exact Nat.le_refl _ | (simp; done) | (simp; omega) | omega) _ | with_reducible exact held_start _ _ | with_reducible exact held_begin _)
      (first | (go_at_call 26; refine (toSegment_c _ _ _ _ _).mono ?_; rintro e w1 ⟨rfl, hb⟩; have hz := held_size (by with_reducible assumption) hb; (try simp at hz); obtain ⟨hc, hf⟩ := bcell hb; have hs := hb.size; (try simp at hs); (try have hl := below_lt hb); (try simp at hl); (try have hlW : wc1.heap.size < w1.heap.size := by first | omega | (simp; omega)); (try simp at hlW); (try have hz2 : w.heap.size + 1 < w1.heap.size := by omega); (try have hz3 : w.heap.size + 1 + 1 < w1.heap.size := by omega); (try have hz4 : w.heap.size + 1 + 1 + 1 < w1.heap.size := by omega)) | (go_at_call 27; refine (toRatio_c _ _ _).mono ?_; rintro e w1 ⟨rfl, hb⟩; have hz := held_size (by with_reducible assumption) hb; (try simp at hz); obtain ⟨hc, hf⟩ := bcell hb; have hs := hb.size; (try simp at hs); (try have hl := below_lt hb); (try simp at hl); (try have hlW : wc1.heap.size < w1.heap.size := by first | omega | (simp; omega)); (try simp at hlW); (try have hz2 : w.heap.size + 1 < w1.heap.size := by omega); (try have hz3 : w.heap.size + 1 + 1 < w1.heap.size := by omega); (try have hz4 : w.heap.size + 1 + 1 + 1 < w1.heap.size := by omega)) | (go_at_call 28; refine (CI.out _).mono ?_; rintro e w1 ⟨rfl, hb⟩; have hz := held_size (by with_reducible assumption) hb; (try simp at hz); obtain ⟨hc, hf⟩ := bcell hb; have hs := hb.size; (try simp at hs); (try have hl := below_lt hb); (try simp at hl); (try have hlW : wc1.heap.size < w1.heap.size := by first | omega | (simp; omega)); (try simp at hlW); (try have hz2 : w.heap.size + 1 < w1.heap.size := by omega); (try have hz3 : w.heap.size + 1 + 1 < w1.heap.size := by omega); (try have hz4 : w.heap.size + 1 + 1 + 1 < w1.heap.size := by omega)))
    all_goals (go_wp2_with fail; go_meet; exact ⟨_, rfl, rfl, (by go_light; go_simp), (by go_light; go_simp), (by go_light; first | exact Nat.le_refl _ | (simp; done) | (simp; omega) | omega), (by go_light; first | (simp; done) | (simp; omega) | omega), (held_of (by with_reducible exact And.left (by with_reducible assumption))).1⟩)
  obtain ⟨g2, rfl, rfl, q20, q21, hg2, hl2, hb2⟩ := hcut
  obtain ⟨hc2, hf2⟩ := bcell hb2
  have hz2 := hb2.size
  (try simp at hz2 hg2)
  (try have hy20 : w.heap.size ≤ wc.heap.size := by omega)
  (try have hy21 : w.heap.size < wc.heap.size := by omega)
  (try have hy22 : w.heap.size + 1 < wc.heap.size := by omega)
  (try have hy23 : w.heap.size + 1 + 1 < wc.heap.size := by omega)
  (try have hy24 : w.heap.size + 1 + 1 + 1 < wc.heap.size := by omega)
  obtain ⟨wc2, rfl⟩ : ∃ x : World, x = wc := ⟨_, rfl⟩
  go_wp2_with (go_at_call 29; refine (eqPoint_same _ _ _).mono ?_; rintro e w1 ⟨rfl, hb⟩; (try replace hb := below_trans (by with_reducible assumption) hb); obtain ⟨hc, hf⟩ := bcell hb; have hz := hb.size; (try simp at hz); (try have hz0 : w.heap.size ≤ w1.heap.size := by omega); (try have hz1 : w.heap.size < w1.heap.size := by omega); (try have hz2 : w.heap.size + 1 < w1.heap.size := by omega); (try have hz3 : w.heap.size + 1 + 1 < w1.heap.size := by omega); (try have hz4 : w.heap.size + 1 + 1 + 1 < w1.heap.size := by omega))
  go_ret
  exact ⟨rfl, (by repeat (first | with_reducible exact Below.refl _ _ | with_reducible assumption | with_reducible refine Below.drew ?_ | with_reducible refine Below.alloc ?_ (by first | exact Nat.le_refl _ | (simp; done) | (simp; omega) | omega) _ | with_reducible refine Below.setCell ?_ (by first | exact Nat.le_refl _ | (simp; done) | (simp; omega) | omega) _ | with_reducible refine Below.trans ?_ (Below.mono (by with_reducible assumption) (by first | exact Nat.le_refl _ | (simp; done) | (simp; omega) | omega))))⟩

theorem own : ownKnob Try.prog.godebug = none := by kernel_rfl
theorem laidOut : laidOutB Try.prog = true := by kernel_rfl
set_option maxRecDepth 100000 in
theorem lifted (os : Os) (started : os.Started) (H : Type) (enc : TypeId × Value → H) :
    ReturnsInHanded {} Try.checked os 6 .any (Rows.fnExactPointAtSpec.pre6 enc Try.prog Try.f6 Rows.fnExactPointAtRow.domain false) (Rows.fnExactPointAtSpec.post enc Try.prog Try.f6 false true false false) := by
  refine returnsInHanded_of_change (C := Try.checked) own started (by kernel_rfl) Try.func6
    (ChangeSpec.witness6 (enc := enc) (C := Try.checked) false ⟨#[], #[.agg #[.int .i64 0, .int .i64 0, .int .i64 0, .int .i64 0], .agg #[.int .i64 0, .int .i64 0]], []⟩ 8 (by kernel_rfl) (by kernel_rfl) (by kernel_rfl) (by kernel_rfl)) ?_
  intro W base args ds gs before hval0 hW hcnd _
  have hval : ∀ (j : Nat) t v, Try.f6.params[j]? = some t → args[j]? = some v → Value.okWide Try.prog W .any base t v := hval0
  have hW' := hW
  obtain ⟨p, q, hA0, hV, rfl, hfz, hnd⟩ := hW
  have hA : DataW.TrodAll enc Try.prog W 0 (fun _ => true) true Try.f6.params.toList args.toList ds p := hA0
  rw [Try.params6] at hA hval
  obtain ⟨v0, vs0, d0, ds0, p0, q0, hargs, rfl, rfl, h0, r0⟩ := trodAll_cons hA
  obtain ⟨v1, vs1, d1, ds1, p1, q1, rfl, rfl, rfl, h1, r1⟩ := trodAll_cons r0
  obtain ⟨rfl, rfl, rfl⟩ := trodAll_nil r1
  obtain rfl : args = #[v0, v1] := by cases args; simp_all
  obtain ⟨rfl, rfl⟩ := trodVars_none hV
  have k0 := h0
  have lt0 : ∀ x ∈ p0, x.block < W.heap.size := by obtain ⟨m, hm⟩ := k0; exact DataW.trod_lt m _ _ _ hm
  obtain ⟨a0, b0, c0, e0, rfl, w0a, w0b, w0c, w0e⟩ := open_four (n := 4) Try.underlying43 (by kernel_rfl) (by kernel_rfl) (hval 0 43 v0 rfl rfl) h0
  have k1 := h1
  have lt1 : ∀ x ∈ p1, x.block < W.heap.size := by obtain ⟨m, hm⟩ := k1; exact DataW.trod_lt m _ _ _ hm
  obtain ⟨a1, b1, rfl, w1a, w1b⟩ := open_two (n := 4) Try.underlying45 (by kernel_rfl) (by kernel_rfl) (hval 1 45 v1 rfl rfl) h1
  clear hA0 hval0
  refine (walk a0 b0 c0 e0 a1 b1 W w0a w0b w0c w0e w1a w1b).mono fun e W' ⟨he, bel⟩ => ?_
  subst he
  exact ⟨_, rfl, _, _, _, [], _, [], hW', trodAll_mk1 (shut_bool Try.underlying4 _), (trodAll_cons_mk (Below.trod laidOut (by kernel_rfl) (of_decide_eq_true (by kernel_rfl)) k0 bel lt0) (trodAll_cons_mk (Below.trod laidOut (by kernel_rfl) (of_decide_eq_true (by kernel_rfl)) k1 bel lt1) trodAll_mk0)), rfl, bel.frame _, fun h => by cases h⟩

theorem over : Rows.fnExactPointAtRow.holds Try.pinned (OpenSpec.ofChange Rows.fnExactPointAtSpec) :=
  OpenClaim.holds_of_wide 6 Try.f6 rfl rfl rfl rfl rfl rfl rfl ⟨rfl, rfl, rfl, rfl, rfl⟩ rfl rfl rfl rfl rfl (by kernel_rfl) Try.func6 (by kernel_rfl)
    (of_decide_eq_true (by kernel_rfl)) (by unfold Func.isWrapper; first | (rw [if_pos (by decide +kernel)]; kernel_rfl) | (rw [if_neg (by decide +kernel)]; exact ⟨rfl, rfl⟩))
    (fun os started H enc _ => lifted os started H enc)

/-- The statement. -/
theorem proved : Rows.FnExactPointAtSaid := over
end Go.Proofs.Ytdgmadpkhdfapaa.pointAt
