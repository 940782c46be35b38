/-
  FnExactSideAt: for all arguments the program's function answers as the reference's and leaves its argument as it was. No condition.
-/
import Derived.Test.YtdgmadpkhdfapaaRows
import Derived.Test.YtdgmadpkhdfapaaL03t
namespace Go.Proofs.Ytdgmadpkhdfapaa.sideAt
open Go.ChangeShapes Go.WideShapes Go.ChangeAt Go.RowKit Go.Deep
open Go.ChangeMaps (open_string shut_string)
set_option linter.unusedVariables false

theorem drewAt {w : World} {a : Option Addr} {l : List Fx} (h : FixAt w a l) : FixAt w.drew a l := h

set_option maxHeartbeats 4000000 in
theorem walk (a0 : Option Addr) (cap0 : Nat) (l0 : List Fx) (ax ay bx cy t0 : Int) (w : World) (w0 : l0.length ≤ 9223372036854775807 ∧ FixAt w a0 l0) (wa : (Lit.int .i64 ax).wf = true) (wb : (Lit.int .i64 ay).wf = true) (wd : (Lit.int .i64 bx).wf = true) (we : (Lit.int .i64 cy).wf = true) (wt : (Lit.int .i64 t0).wf = true) :
    Calls Try.prog 10 #[.agg #[.slice a0 l0.length cap0], .agg #[.int .i64 ax, .int .i64 ay, .int .i64 bx, .int .i64 cy], .int .i64 t0] w fun e w' => e = .returned (.bool true) ∧ Below w.heap.size w w' := by
  obtain ⟨hm, hf0⟩ := w0
  clear wa wb wd we wt
  replace hf0 := Lib.hid hf0
  have cz := fun w => szTrack_c a0 l0.length cap0 1048576 w hm (by omega) (by omega)
  by_cases hn : (l0.length : Int) ≤ 1048576
  · rw [if_pos hn] at cz
    have CZ := Lib.hid cz
    clear cz
    have hn' : l0.length ≤ 1048576 := by omega
    have hn2 : l0.length ≤ 4611686018427387904 := by omega
    go_enter Try.func10, Try.ntmps10
    go_wp2_with (go_at_call 15; refine (CZ.out _).mono ?_; rintro e w1 ⟨rfl, hb⟩; (try replace hb := below_trans (by with_reducible assumption) hb); obtain ⟨hc, hf⟩ := bcell hb; have hz := hb.size; (try simp at hz); (try have hz0 : w.heap.size ≤ w1.heap.size := by omega); (try have hz1 : w.heap.size < w1.heap.size := by omega); (try have hz2 : w.heap.size + 1 < w1.heap.size := by omega); (try have hz3 : w.heap.size + 1 + 1 < w1.heap.size := by omega); (try have hz4 : w.heap.size + 1 + 1 + 1 < w1.heap.size := by omega))
    go_cut [8, 9] (fun x y wc => x = .int .i64 (sideR l0 ax ay bx cy t0).1 ∧ y = .int .i64 (sideR l0 ax ay bx cy t0).2 ∧ Below (w.heap.size + 2) ((w.alloc (.cells #[.slice a0 l0.length cap0] 24)).alloc (.cells #[.int .i64 ax, .int .i64 ay, .int .i64 bx, .int .i64 cy] 60)) wc)
    case first =>
      go_region_with (first | (go_at_call 17; refine (toTrack_c a0 cap0 l0 _ hn' (FixAt.below hf0.out (by repeat (first | with_reducible exact Below.refl _ _ | with_reducible assumption | with_reducible refine Below.drew ?_ | with_reducible refine Below.alloc ?_ (by first | exact Nat.le_refl _ | (simp; done) | (simp; omega) | omega) _ | with_reducible refine Below.setCell ?_ (by first | exact Nat.le_refl _ | (simp; done) | (simp; omega) | omega) _ | with_reducible refine Below.trans ?_ (Below.mono (by with_reducible assumption) (by first | exact Nat.le_refl _ | (simp; done) | (simp; omega) | omega)))))).mono ?_; rintro e w1 ⟨⟨g, rfl, hg, hlg⟩, hb⟩; have hgx := Lib.hid hg; obtain ⟨hc, hf⟩ := bcell hb; have hz := hb.size; (try simp only [World.size_drew] at hc); (try simp at hz)) | (go_at_call 39; refine (toLine_c _ _ _ _ _).mono ?_; rintro e w1 ⟨rfl, hb⟩; obtain ⟨hc, hf⟩ := bcell hb; have hz := hb.size; (try simp only [World.size_drew] at hc); (try simp at hz)) | (go_at_call 38; refine (SideAtS_c _ _ l0 _ _ _ _ _ _ hn2 (by first | exact FixAt.below (FixBlk.at (by assumption)) (by repeat (first | with_reducible exact Below.refl _ _ | with_reducible assumption | with_reducible refine Below.drew ?_ | with_reducible refine Below.alloc ?_ (by first | exact Nat.le_refl _ | (simp; done) | (simp; omega) | omega) _ | with_reducible refine Below.setCell ?_ (by first | exact Nat.le_refl _ | (simp; done) | (simp; omega) | omega) _ | with_reducible refine Below.trans ?_ (Below.mono (by with_reducible assumption) (by first | exact Nat.le_refl _ | (simp; done) | (simp; omega) | omega)))) | exact FixBlk.at (by assumption))).mono ?_; rintro e w1 ⟨rfl, hb⟩))
      all_goals go_wp2_with fail
      all_goals (go_meet; exact ⟨rfl, rfl, (by repeat (first | with_reducible exact Below.refl _ _ | with_reducible assumption | with_reducible refine Below.drew ?_ | with_reducible refine Below.alloc ?_ (by first | exact Nat.le_refl _ | (simp; done) | (simp; omega) | omega) _ | with_reducible refine Below.setCell ?_ (by first | exact Nat.le_refl _ | (simp; done) | (simp; omega) | omega) _ | with_reducible refine Below.trans ?_ (Below.mono (by with_reducible assumption) (by first | exact Nat.le_refl _ | (simp; done) | (simp; omega) | omega))))⟩)
    case rest =>
      obtain ⟨rfl, rfl, hbc⟩ := hcut
      have HB : Below w.heap.size w wc := (((Below.refl _ _).alloc (Nat.le_refl _) _).alloc (by simp) _).trans (hbc.mono (by omega))
      have cb0 := hbc.cell (p := ⟨w.heap.size, 0, none⟩) (by simp)
      have cb1 := hbc.cell (p := ⟨w.heap.size + 1, 0, none⟩) (by simp)
      have cb2 := hbc.cell (p := ⟨w.heap.size + 1, 1, none⟩) (by simp)
      have cb3 := hbc.cell (p := ⟨w.heap.size + 1, 2, none⟩) (by simp)
      have cb4 := hbc.cell (p := ⟨w.heap.size + 1, 3, none⟩) (by simp)
      have hzc := hbc.size
      simp at cb0 cb1 cb2 cb3 cb4 hzc
      go_wp2_with fail
      refine (toTrack_c a0 cap0 l0 _ hn' (FixAt.below hf0.out (by repeat (first | with_reducible exact Below.refl _ _ | with_reducible assumption | with_reducible refine Below.drew ?_ | with_reducible refine Below.alloc ?_ (by first | exact Nat.le_refl _ | (simp; done) | (simp; omega) | omega) _ | with_reducible refine Below.setCell ?_ (by first | exact Nat.le_refl _ | (simp; done) | (simp; omega) | omega) _ | with_reducible refine Below.trans ?_ (Below.mono (by with_reducible assumption) (by first | exact Nat.le_refl _ | (simp; done) | (simp; omega) | omega)))))).mono ?_
      rintro e w1 ⟨⟨g, rfl, hg, hlg⟩, hb⟩
      obtain ⟨hc, hf⟩ := bcell hb
      have hz := hb.size
      (try simp at hz)
      have hlx0 : w.heap.size < w1.heap.size := by omega
      have hlx1 : w.heap.size + 1 < w1.heap.size := by omega
      have hlx2 : w.heap.size < wc.heap.size := by omega
      have hlx3 : w.heap.size + 1 < wc.heap.size := by omega
      go_wp2_with fail
      refine wp_region_later (by kernel_rfl) (by kernel_rfl) ?_
      repeat (first | go_big_quiet_step ((first | (go_at_call 39; exact later_of _ (toLine_c _ _ _ _ _)) | (go_at_call 40; exact later_of _ (SideAt_c _ _ l0 _ _ _ _ _ _ hn2 (FixAt.below (FixAt.below (FixBlk.at hg) (by repeat (first | with_reducible exact Below.refl _ _ | with_reducible assumption | with_reducible refine Below.drew ?_ | with_reducible refine Below.alloc ?_ (by first | exact Nat.le_refl _ | (simp; done) | (simp; omega) | omega) _ | with_reducible refine Below.setCell ?_ (by first | exact Nat.le_refl _ | (simp; done) | (simp; omega) | omega) _ | with_reducible refine Below.trans ?_ (Below.mono (by with_reducible assumption) (by first | exact Nat.le_refl _ | (simp; done) | (simp; omega) | omega))))) (Later.below _)))))) | quiet_step ((first | (go_at_call 39; exact later_of _ (toLine_c _ _ _ _ _)) | (go_at_call 40; exact later_of _ (SideAt_c _ _ l0 _ _ _ _ _ _ hn2 (FixAt.below (FixAt.below (FixBlk.at hg) (by repeat (first | with_reducible exact Below.refl _ _ | with_reducible assumption | with_reducible refine Below.drew ?_ | with_reducible refine Below.alloc ?_ (by first | exact Nat.le_refl _ | (simp; done) | (simp; omega) | omega) _ | with_reducible refine Below.setCell ?_ (by first | exact Nat.le_refl _ | (simp; done) | (simp; omega) | omega) _ | with_reducible refine Below.trans ?_ (Below.mono (by with_reducible assumption) (by first | exact Nat.le_refl _ | (simp; done) | (simp; omega) | omega))))) (Later.below _)))))))
      refine wpQuiet_nil ?_
      intro _ hw'
      obtain ⟨s7, hw''⟩ := hw'
      subst hw''
      have hb7 := s7.below
      generalize s7.w = w7 at hb7 ⊢
      clear s7
      try replace hb7 := below_trans (by with_reducible assumption) hb7
      obtain ⟨hc7, hf7⟩ := bcell hb7
      have hz7 := hb7.size
      try simp at hz7
      try have hz70 : w.heap.size ≤ w7.heap.size := by omega
      try have hz71 : w.heap.size < w7.heap.size := by omega
      try have hz72 : w.heap.size + 1 < w7.heap.size := by omega
      try have hz73 : w.heap.size + 1 + 1 < w7.heap.size := by omega
      try have hz74 : w.heap.size + 1 + 1 + 1 < w7.heap.size := by omega
      have hx0 := Lib.hid (FixAt.below (FixAt.below (FixBlk.at hg) (by repeat (first | with_reducible exact Below.refl _ _ | with_reducible assumption | with_reducible refine Below.drew ?_ | with_reducible refine Below.alloc ?_ (by first | exact Nat.le_refl _ | (simp; done) | (simp; omega) | omega) _ | with_reducible refine Below.setCell ?_ (by first | exact Nat.le_refl _ | (simp; done) | (simp; omega) | omega) _ | with_reducible refine Below.trans ?_ (Below.mono (by with_reducible assumption) (by first | exact Nat.le_refl _ | (simp; done) | (simp; omega) | omega))))) hb7)
      have hy0 : w1.heap.size < w7.heap.size := by omega
      have hy1 : w.heap.size < w7.heap.size := by omega
      have hy2 : w.heap.size + 1 < w7.heap.size := by omega
      go_wp2_with fail
      go_region_with (first | (go_at_call 17; refine (toTrack_c a0 cap0 l0 _ hn' (FixAt.below hf0.out (by repeat (first | with_reducible exact Below.refl _ _ | with_reducible assumption | with_reducible refine Below.drew ?_ | with_reducible refine Below.alloc ?_ (by first | exact Nat.le_refl _ | (simp; done) | (simp; omega) | omega) _ | with_reducible refine Below.setCell ?_ (by first | exact Nat.le_refl _ | (simp; done) | (simp; omega) | omega) _ | with_reducible refine Below.trans ?_ (Below.mono (by with_reducible assumption) (by first | exact Nat.le_refl _ | (simp; done) | (simp; omega) | omega)))))).mono ?_; rintro e w1 ⟨⟨g, rfl, hg, hlg⟩, hb⟩; have hx1 : Hid (FixAt w1 _ l0) := Lib.hid (by first | exact FixAt.below (drewAt hx0.out) hb | exact FixAt.below hx0.out hb | exact FixAt.below (drewAt (drewAt hx0.out)) hb | exact FixAt.below (drewAt (drewAt (drewAt hx0.out))) hb); (try replace hb := below_trans (by with_reducible assumption) hb); obtain ⟨hc, hf⟩ := bcell hb; have hz := hb.size; (try simp at hz); (try have hz0 : w.heap.size ≤ w1.heap.size := by omega); (try have hz1 : w.heap.size < w1.heap.size := by omega); (try have hz2 : w.heap.size + 1 < w1.heap.size := by omega); (try simp only [World.size_drew] at hc)) | (go_at_call 19; refine (eqTrack_c _ _ _ _ l0 _ hn2 hx1.out (FixBlk.at (by assumption))).mono ?_; rintro e w1 ⟨rfl, hb⟩; (try replace hb := below_trans (by with_reducible assumption) hb); obtain ⟨hc, hf⟩ := bcell hb; have hz := hb.size; (try simp at hz); (try have hz0 : w.heap.size ≤ w1.heap.size := by omega); (try have hz1 : w.heap.size < w1.heap.size := by omega); (try have hz2 : w.heap.size + 1 < w1.heap.size := by omega); (try have hz3 : w.heap.size + 1 + 1 < w1.heap.size := by omega); (try have hz4 : w.heap.size + 1 + 1 + 1 < w1.heap.size := by omega)))
      all_goals go_wp2
      all_goals go_ret
      all_goals exact ⟨rfl, (by repeat (first | with_reducible exact Below.refl _ _ | with_reducible assumption | with_reducible refine Below.drew ?_ | with_reducible refine Below.alloc ?_ (by first | exact Nat.le_refl _ | (simp; done) | (simp; omega) | omega) _ | with_reducible refine Below.setCell ?_ (by first | exact Nat.le_refl _ | (simp; done) | (simp; omega) | omega) _ | with_reducible refine Below.trans ?_ (Below.mono (by with_reducible assumption) (by first | exact Nat.le_refl _ | (simp; done) | (simp; omega) | omega))))⟩
  · rw [if_neg hn] at cz
    have CZ := Lib.hid cz
    clear cz
    go_enter Try.func10, Try.ntmps10
    go_wp2_with (go_at_call 15; refine (CZ.out _).mono ?_; rintro e w1 ⟨rfl, hb⟩; (try replace hb := below_trans (by with_reducible assumption) hb); obtain ⟨hc, hf⟩ := bcell hb; have hz := hb.size; (try simp at hz); (try have hz0 : w.heap.size ≤ w1.heap.size := by omega); (try have hz1 : w.heap.size < w1.heap.size := by omega); (try have hz2 : w.heap.size + 1 < w1.heap.size := by omega); (try have hz3 : w.heap.size + 1 + 1 < w1.heap.size := by omega); (try have hz4 : w.heap.size + 1 + 1 + 1 < w1.heap.size := by omega))
    go_ret
    exact ⟨rfl, (by repeat (first | with_reducible exact Below.refl _ _ | with_reducible assumption | with_reducible refine Below.drew ?_ | with_reducible refine Below.alloc ?_ (by first | exact Nat.le_refl _ | (simp; done) | (simp; omega) | omega) _ | with_reducible refine Below.setCell ?_ (by first | exact Nat.le_refl _ | (simp; done) | (simp; omega) | omega) _ | with_reducible refine Below.trans ?_ (Below.mono (by with_reducible assumption) (by first | exact Nat.le_refl _ | (simp; done) | (simp; omega) | omega))))⟩

theorem own : ownKnob Try.prog.godebug = none := by kernel_rfl
theorem laidOut : laidOutB Try.prog = true := by kernel_rfl
set_option maxRecDepth 100000 in
theorem lifted (os : Os) (started : os.Started) (H : Type) (enc : TypeId × Value → H) :
    ReturnsInHanded {} Try.checked os 10 .any (Rows.fnExactSideAtSpec.pre6 enc Try.prog Try.f10 Rows.fnExactSideAtRow.domain false) (Rows.fnExactSideAtSpec.post enc Try.prog Try.f10 false true false false) := by
  refine returnsInHanded_of_change (C := Try.checked) own started (by kernel_rfl) Try.func10
    (ChangeSpec.witness6 (enc := enc) (C := Try.checked) false ⟨#[], #[.agg #[.slice none 0 0], .agg #[.int .i64 0, .int .i64 0, .int .i64 0, .int .i64 0], .int .i64 0], []⟩ 8 (by kernel_rfl) (by kernel_rfl) (by kernel_rfl) (by kernel_rfl)) ?_
  intro W base args ds gs before hval0 hW hcnd _
  have hval : ∀ (j : Nat) t v, Try.f10.params[j]? = some t → args[j]? = some v → Value.okWide Try.prog W .any base t v := hval0
  have hW' := hW
  obtain ⟨p, q, hA0, hV, rfl, hfz, hnd⟩ := hW
  have hA : DataW.TrodAll enc Try.prog W 0 (fun _ => true) true Try.f10.params.toList args.toList ds p := hA0
  rw [Try.params10] at hA hval
  obtain ⟨v0, vs0, d0, ds0, p0, q0, hargs, rfl, rfl, h0, r0⟩ := trodAll_cons hA
  obtain ⟨v1, vs1, d1, ds1, p1, q1, rfl, rfl, rfl, h1, r1⟩ := trodAll_cons r0
  obtain ⟨v2, vs2, d2, ds2, p2, q2, rfl, rfl, rfl, h2, r2⟩ := trodAll_cons r1
  obtain ⟨rfl, rfl, rfl⟩ := trodAll_nil r2
  obtain rfl : args = #[v0, v1, v2] := by cases args; simp_all
  obtain ⟨rfl, rfl⟩ := trodVars_none hV
  have k0 := h0
  have lt0 : ∀ x ∈ p0, x.block < W.heap.size := by obtain ⟨m, hm⟩ := k0; exact DataW.trod_lt m _ _ _ hm
  obtain ⟨⟨a0, cap0⟩, l0, rfl, w0⟩ := open_track (n := 0) Try.underlying24 Try.underlying22 Try.underlying104 (by kernel_rfl) (by kernel_rfl) (by kernel_rfl) ⟨by kernel_rfl, by kernel_rfl⟩ (hval 0 24 v0 rfl rfl) h0
  have k1 := h1
  have lt1 : ∀ x ∈ p1, x.block < W.heap.size := by obtain ⟨m, hm⟩ := k1; exact DataW.trod_lt m _ _ _ hm
  obtain ⟨a1, b1, c1, e1, rfl, w1a, w1b, w1c, w1e⟩ := open_four (n := 4) Try.underlying60 (by kernel_rfl) (by kernel_rfl) (hval 1 60 v1 rfl rfl) h1
  obtain ⟨a2, rfl, rfl, rfl, w2⟩ := open_int Try.underlying2 (hval 2 2 v2 rfl rfl) h2
  clear hA0 hval0
  refine (walk a0 cap0 l0 a1 b1 c1 e1 a2 W w0 w1a w1b w1c w1e w2).mono fun e W' ⟨he, bel⟩ => ?_
  subst he
  exact ⟨_, rfl, _, _, _, [], _, [], hW', trodAll_mk1 (shut_bool Try.underlying4 _), (trodAll_cons_mk (Below.trod laidOut (by kernel_rfl) (of_decide_eq_true (by kernel_rfl)) k0 bel lt0) (trodAll_cons_mk (Below.trod laidOut (by kernel_rfl) (of_decide_eq_true (by kernel_rfl)) k1 bel lt1) (trodAll_cons_mk (shut_int Try.underlying2 w2) trodAll_mk0))), rfl, bel.frame _, fun h => by cases h⟩

theorem over : Rows.fnExactSideAtRow.holds Try.pinned (OpenSpec.ofChange Rows.fnExactSideAtSpec) :=
  OpenClaim.holds_of_wide 10 Try.f10 rfl rfl rfl rfl rfl rfl rfl ⟨rfl, rfl, rfl, rfl, rfl⟩ rfl rfl rfl rfl rfl (by kernel_rfl) Try.func10 (by kernel_rfl)
    (of_decide_eq_true (by kernel_rfl)) (by unfold Func.isWrapper; first | (rw [if_pos (by decide +kernel)]; kernel_rfl) | (rw [if_neg (by decide +kernel)]; exact ⟨rfl, rfl⟩))
    (fun os started H enc _ => lifted os started H enc)

/-- The statement. -/
theorem proved : Rows.FnExactSideAtSaid := over
end Go.Proofs.Ytdgmadpkhdfapaa.sideAt
