/-
  FnRatios: for every code the law's function answers true. No condition.
-/
import Derived.Test.YtiinhelljcgeaaaRows
import Derived.Test.YtiinhelljcgeaaaPlain3
import Derived.Test.YtiinhelljcgeaaaL02e
import Derived.Test.YtiinhelljcgeaaaDraw5
namespace Go.Proofs.Ytiinhelljcgeaaa.fnRatios
open Go.ChangeShapes Go.WideShapes Go.ChangeAt Go.RowKit Go.Deep
open Go.ChangeMaps (open_string shut_string)
set_option linter.unusedVariables false

set_option maxRecDepth 100000 in
set_option maxHeartbeats 4000000 in
theorem walk (a : Option Addr) (cap n : Nat) (w : World) (w0 : n ≤ 9223372036854775807 ∧ BytesB w.heap.size w a n) :
    Calls Try.prog 5 #[.slice a n cap] w fun e w' => e = .returned (.bool true) ∧ Below w.heap.size w w' := by
  obtain ⟨hn, hb⟩ := w0
  have HB := Lib.hid hb
  clear hb
  by_cases h : (4096 : Int) < (n : Int)
  · have CB := Lib.hid (fun w => big_t a n cap w hn h)
    go_enter Try.func5, Try.ntmps5
    go_wp2_with (go_at_call 15; refine (CB.out _).mono ?_; rintro e w' ⟨rfl, rfl⟩)
    go_ret
    exact ⟨rfl, (by repeat (first | with_reducible exact Below.refl _ _ | with_reducible assumption | with_reducible refine Below.drew ?_ | with_reducible refine Below.alloc ?_ (by first | exact Nat.le_refl _ | (simp; done) | (simp; omega) | omega) _ | with_reducible refine Below.setCell ?_ (by first | exact Nat.le_refl _ | (simp; done) | (simp; omega) | omega) _ | with_reducible refine Below.trans ?_ (Below.mono (by with_reducible assumption) (by first | exact Nat.le_refl _ | (simp; done) | (simp; omega) | omega))))⟩
  have CB := Lib.hid (fun w => big_f a n cap w hn h)
  clear h
  go_enter Try.func5, Try.ntmps5
  go_upto_region 4 with (first | (go_at_call 15; refine (CB.out _).mono ?_; rintro e w' ⟨rfl, rfl⟩) | (go_at_call 23; refine (DrawCompareRatios_c a n cap _ hn (bytes_at HB.out (by repeat (first | with_reducible exact Below.refl _ _ | with_reducible assumption | with_reducible refine Below.drew ?_ | with_reducible refine Below.alloc ?_ (by first | exact Nat.le_refl _ | (simp; done) | (simp; omega) | omega) _ | with_reducible refine Below.setCell ?_ (by first | exact Nat.le_refl _ | (simp; done) | (simp; omega) | omega) _ | with_reducible refine Below.trans ?_ (Below.mono (by with_reducible assumption) (by first | exact Nat.le_refl _ | (simp; done) | (simp; omega) | omega)))))).mono ?_; rintro e w1 ⟨⟨x, y, z, u, rfl, wy, wu⟩, hb⟩; (try replace hb := below_trans (by with_reducible assumption) hb); obtain ⟨hc, hf⟩ := bcell hb; have hz := hb.size; (try simp at hz); (try have hz0 : w.heap.size ≤ w1.heap.size := by omega); (try have hz1 : w.heap.size < w1.heap.size := by omega); (try have hz2 : w.heap.size + 1 < w1.heap.size := by omega); (try have hz3 : w.heap.size + 1 + 1 < w1.heap.size := by omega); (try have hz4 : w.heap.size + 1 + 1 + 1 < w1.heap.size := by omega)))
  obtain ⟨wD, hwD⟩ : ∃ x : World, x = w1 := ⟨_, rfl⟩
  subst hwD
  have KD : Below w.heap.size w wD := (by repeat (first | with_reducible exact Below.refl _ _ | with_reducible assumption | with_reducible refine Below.drew ?_ | with_reducible refine Below.alloc ?_ (by first | exact Nat.le_refl _ | (simp; done) | (simp; omega) | omega) _ | with_reducible refine Below.setCell ?_ (by first | exact Nat.le_refl _ | (simp; done) | (simp; omega) | omega) _ | with_reducible refine Below.trans ?_ (Below.mono (by with_reducible assumption) (by first | exact Nat.le_refl _ | (simp; done) | (simp; omega) | omega))))
  clear hb hc hf
  by_cases h : cmpOK x y z u = true
  · have h0 := h
    unfold cmpOK at h0
    simp only [Bool.and_eq_true] at h0
    obtain ⟨⟨⟨e1, e2⟩, e3⟩, e4⟩ := h0
    obtain ⟨b1, b2⟩ := inR_true e1
    obtain ⟨b3, b4⟩ := inR_true e2
    obtain ⟨b5, b6⟩ := inR_true e3
    obtain ⟨b7, b8⟩ := inR_true e4
    have hs : cmpOK z u x y = true := by unfold cmpOK; rw [e1, e2, e3, e4]; rfl
    have hz : cmpZ z u x y = -cmpZ x y z u := by
      unfold cmpZ
      rw [← sgn_minus', show z * y - x * u = -(x * u - z * y) by omega]
    have E1 : cmpR x y z u = (cmpZ x y z u, 0) := by simp only [cmpR, if_pos h]
    have E2 : cmpR z u x y = (-cmpZ x y z u, 0) := by simp only [cmpR, if_pos hs, hz]
    have C1 := Lib.hid (fun w => E1 ▸ CompareRatios_c x y z u w (by omega) (by omega))
    have C2 := Lib.hid (fun w => E1 ▸ CompareRatiosS_c x y z u w (by omega) (by omega))
    have C3 := Lib.hid (fun w => E2 ▸ CompareRatios_c z u x y w (by omega) (by omega))
    clear E1 E2 hs hz h e1 e2 e3 e4
    have hb := sgn_bd (x * u - z * y)
    have hp := @sgn_pos_iff (x * u - z * y)
    have hq := @sgn_neg_iff (x * u - z * y)
    have HB2 := Lib.hid hp
    have HB3 := Lib.hid hq
    unfold cmpZ at C1 C2 C3
    clear hp hq
    generalize sgn (x * u - z * y) = c at *
    obtain ⟨c0, c1⟩ := hb
    go_upto_region 5 with (go_at_call 24; refine (C1.out _).mono ?_; rintro e w1 ⟨rfl, hb⟩; (try replace hb := below_trans (by with_reducible assumption) hb); obtain ⟨hc, hf⟩ := bcell hb; have hz := hb.size; (try simp at hz); (try have hz0 : w.heap.size ≤ w1.heap.size := by omega); (try have hz1 : w.heap.size < w1.heap.size := by omega); (try have hz2 : w.heap.size + 1 < w1.heap.size := by omega); (try have hz3 : w.heap.size + 1 + 1 < w1.heap.size := by omega); (try have hz4 : w.heap.size + 1 + 1 + 1 < w1.heap.size := by omega))
    clear C1
    go_upto_region 11 with (first | (go_at_call 25; refine (C2.out _).mono ?_; rintro e w1 ⟨rfl, hb⟩; (try replace hb := below_trans (by with_reducible assumption) hb); obtain ⟨hc, hf⟩ := bcell hb; have hz := hb.size; (try simp at hz); (try have hz0 : w.heap.size ≤ w1.heap.size := by omega); (try have hz1 : w.heap.size < w1.heap.size := by omega); (try have hz2 : w.heap.size + 1 < w1.heap.size := by omega); (try have hz3 : w.heap.size + 1 + 1 < w1.heap.size := by omega); (try have hz4 : w.heap.size + 1 + 1 + 1 < w1.heap.size := by omega)) | (go_at_call 24; refine (C3.out _).mono ?_; rintro e w1 ⟨rfl, hb⟩; (try replace hb := below_trans (by with_reducible assumption) hb); obtain ⟨hc, hf⟩ := bcell hb; have hz := hb.size; (try simp at hz); (try have hz0 : w.heap.size ≤ w1.heap.size := by omega); (try have hz1 : w.heap.size < w1.heap.size := by omega); (try have hz2 : w.heap.size + 1 < w1.heap.size := by omega); (try have hz3 : w.heap.size + 1 + 1 < w1.heap.size := by omega); (try have hz4 : w.heap.size + 1 + 1 + 1 < w1.heap.size := by omega)))
    clear C2 C3
    have k1 : wD.heap.size < w1.heap.size := by omega
    have k2 : wD.heap.size + 1 < w1.heap.size := by omega
    by_cases g : y ≤ 1000000 ∧ u ≤ 1000000
    · obtain ⟨g1, g2⟩ := g
      have m1 := mul_bd (a := x) (b := u) (m := 1000000) (n := 1000000) (by omega) (by omega) (by omega) (by omega)
      have m2 := mul_bd (a := z) (b := y) (m := 1000000) (n := 1000000) (by omega) (by omega) (by omega) (by omega)
      have hp := HB2.out
      have hq := HB3.out
      obtain ⟨P, hP⟩ : ∃ P, x * u = P := ⟨_, rfl⟩
      obtain ⟨Q, hQ⟩ : ∃ Q, z * y = Q := ⟨_, rfl⟩
      rw [hP] at m1 hp hq
      rw [hQ] at m2 hp hq
      have m3 : -1000000000000 ≤ P ∧ P ≤ 1000000000000 := by omega
      have m4 : -1000000000000 ≤ Q ∧ Q ≤ 1000000000000 := by omega
      obtain ⟨m5, m6⟩ := m3
      obtain ⟨m7, m8⟩ := m4
      clear m1 m2
      have tri : (c = 0 ∧ P = Q) ∨ (c = 1 ∧ Q < P) ∨ (c = -1 ∧ P < Q) := by omega
      clear hp hq
      rcases tri with ⟨rfl, rfl⟩ | ⟨rfl, t1⟩ | ⟨rfl, t1⟩
      · go_upto_region 15 with fail
        refine wp_region_later (by kernel_rfl) (by kernel_rfl) ?_
        repeat (first | go_big_quiet_step (fail) | quiet_step (fail))
        refine wpQuiet_nil ?_
        intro _ hw'
        obtain ⟨s15, hw''⟩ := hw'
        subst hw''
        have hb15 := s15.below
        generalize s15.w = w15 at hb15 ⊢
        clear s15
        try replace hb15 := below_trans (by with_reducible assumption) hb15
        obtain ⟨hc15, hf15⟩ := bcell hb15
        have hz15 := hb15.size
        try simp at hz15
        try have hz150 : w.heap.size ≤ w15.heap.size := by omega
        try have hz151 : w.heap.size < w15.heap.size := by omega
        try have hz152 : w.heap.size + 1 < w15.heap.size := by omega
        try have hz153 : w.heap.size + 1 + 1 < w15.heap.size := by omega
        try have hz154 : w.heap.size + 1 + 1 + 1 < w15.heap.size := by omega
        go_wp2
        all_goals go_ret
        all_goals exact ⟨by first | rfl | exact ret_bool (by simp), (by repeat (first | with_reducible exact Below.refl _ _ | with_reducible assumption | with_reducible refine Below.drew ?_ | with_reducible refine Below.alloc ?_ (by first | exact Nat.le_refl _ | (simp; done) | (simp; omega) | omega) _ | with_reducible refine Below.setCell ?_ (by first | exact Nat.le_refl _ | (simp; done) | (simp; omega) | omega) _ | with_reducible refine Below.trans ?_ (Below.mono (by with_reducible assumption) (by first | exact Nat.le_refl _ | (simp; done) | (simp; omega) | omega))))⟩
      · have t2 : P ≠ Q := by omega
        have t3 : ¬ P < Q := by omega
        go_upto_region 15 with fail
        refine wp_region_later (by kernel_rfl) (by kernel_rfl) ?_
        repeat (first | go_big_quiet_step (fail) | quiet_step (fail))
        refine wpQuiet_nil ?_
        intro _ hw'
        obtain ⟨s15, hw''⟩ := hw'
        subst hw''
        have hb15 := s15.below
        generalize s15.w = w15 at hb15 ⊢
        clear s15
        try replace hb15 := below_trans (by with_reducible assumption) hb15
        obtain ⟨hc15, hf15⟩ := bcell hb15
        have hz15 := hb15.size
        try simp at hz15
        try have hz150 : w.heap.size ≤ w15.heap.size := by omega
        try have hz151 : w.heap.size < w15.heap.size := by omega
        try have hz152 : w.heap.size + 1 < w15.heap.size := by omega
        try have hz153 : w.heap.size + 1 + 1 < w15.heap.size := by omega
        try have hz154 : w.heap.size + 1 + 1 + 1 < w15.heap.size := by omega
        go_wp2
        all_goals go_ret
        all_goals exact ⟨by first | rfl | exact ret_bool (by simp [t2]), (by repeat (first | with_reducible exact Below.refl _ _ | with_reducible assumption | with_reducible refine Below.drew ?_ | with_reducible refine Below.alloc ?_ (by first | exact Nat.le_refl _ | (simp; done) | (simp; omega) | omega) _ | with_reducible refine Below.setCell ?_ (by first | exact Nat.le_refl _ | (simp; done) | (simp; omega) | omega) _ | with_reducible refine Below.trans ?_ (Below.mono (by with_reducible assumption) (by first | exact Nat.le_refl _ | (simp; done) | (simp; omega) | omega))))⟩
      · have t2 : P ≠ Q := by omega
        go_upto_region 15 with fail
        refine wp_region_later (by kernel_rfl) (by kernel_rfl) ?_
        repeat (first | go_big_quiet_step (fail) | quiet_step (fail))
        refine wpQuiet_nil ?_
        intro _ hw'
        obtain ⟨s15, hw''⟩ := hw'
        subst hw''
        have hb15 := s15.below
        generalize s15.w = w15 at hb15 ⊢
        clear s15
        try replace hb15 := below_trans (by with_reducible assumption) hb15
        obtain ⟨hc15, hf15⟩ := bcell hb15
        have hz15 := hb15.size
        try simp at hz15
        try have hz150 : w.heap.size ≤ w15.heap.size := by omega
        try have hz151 : w.heap.size < w15.heap.size := by omega
        try have hz152 : w.heap.size + 1 < w15.heap.size := by omega
        try have hz153 : w.heap.size + 1 + 1 < w15.heap.size := by omega
        try have hz154 : w.heap.size + 1 + 1 + 1 < w15.heap.size := by omega
        go_wp2
        all_goals go_ret
        all_goals exact ⟨by first | rfl | exact ret_bool (by simp [t2]), (by repeat (first | with_reducible exact Below.refl _ _ | with_reducible assumption | with_reducible refine Below.drew ?_ | with_reducible refine Below.alloc ?_ (by first | exact Nat.le_refl _ | (simp; done) | (simp; omega) | omega) _ | with_reducible refine Below.setCell ?_ (by first | exact Nat.le_refl _ | (simp; done) | (simp; omega) | omega) _ | with_reducible refine Below.trans ?_ (Below.mono (by with_reducible assumption) (by first | exact Nat.le_refl _ | (simp; done) | (simp; omega) | omega))))⟩
    · by_cases g1 : 1000000 < y
      · go_wp2
        all_goals go_ret
        all_goals exact ⟨rfl, (by repeat (first | with_reducible exact Below.refl _ _ | with_reducible assumption | with_reducible refine Below.drew ?_ | with_reducible refine Below.alloc ?_ (by first | exact Nat.le_refl _ | (simp; done) | (simp; omega) | omega) _ | with_reducible refine Below.setCell ?_ (by first | exact Nat.le_refl _ | (simp; done) | (simp; omega) | omega) _ | with_reducible refine Below.trans ?_ (Below.mono (by with_reducible assumption) (by first | exact Nat.le_refl _ | (simp; done) | (simp; omega) | omega))))⟩
      · have g2 : 1000000 < u := by omega
        go_wp2
        all_goals go_ret
        all_goals exact ⟨rfl, (by repeat (first | with_reducible exact Below.refl _ _ | with_reducible assumption | with_reducible refine Below.drew ?_ | with_reducible refine Below.alloc ?_ (by first | exact Nat.le_refl _ | (simp; done) | (simp; omega) | omega) _ | with_reducible refine Below.setCell ?_ (by first | exact Nat.le_refl _ | (simp; done) | (simp; omega) | omega) _ | with_reducible refine Below.trans ?_ (Below.mono (by with_reducible assumption) (by first | exact Nat.le_refl _ | (simp; done) | (simp; omega) | omega))))⟩
  · have E : cmpR x y z u = (0, 2) := by simp only [cmpR, if_neg h]
    have C1 := Lib.hid (fun w => E ▸ CompareRatios_c x y z u w wy wu)
    have C2 := Lib.hid (fun w => E ▸ CompareRatiosS_c x y z u w wy wu)
    clear E h
    go_wp2_with (first | (go_at_call 24; refine (C1.out _).mono ?_; rintro e w1 ⟨rfl, hb⟩; (try replace hb := below_trans (by with_reducible assumption) hb); obtain ⟨hc, hf⟩ := bcell hb; have hz := hb.size; (try simp at hz); (try have hz0 : w.heap.size ≤ w1.heap.size := by omega); (try have hz1 : w.heap.size < w1.heap.size := by omega); (try have hz2 : w.heap.size + 1 < w1.heap.size := by omega); (try have hz3 : w.heap.size + 1 + 1 < w1.heap.size := by omega); (try have hz4 : w.heap.size + 1 + 1 + 1 < w1.heap.size := by omega)) | (go_at_call 25; refine (C2.out _).mono ?_; rintro e w1 ⟨rfl, hb⟩; (try replace hb := below_trans (by with_reducible assumption) hb); obtain ⟨hc, hf⟩ := bcell hb; have hz := hb.size; (try simp at hz); (try have hz0 : w.heap.size ≤ w1.heap.size := by omega); (try have hz1 : w.heap.size < w1.heap.size := by omega); (try have hz2 : w.heap.size + 1 < w1.heap.size := by omega); (try have hz3 : w.heap.size + 1 + 1 < w1.heap.size := by omega); (try have hz4 : w.heap.size + 1 + 1 + 1 < w1.heap.size := by omega)))
    go_ret
    exact ⟨rfl, (by repeat (first | with_reducible exact Below.refl _ _ | with_reducible assumption | with_reducible refine Below.drew ?_ | with_reducible refine Below.alloc ?_ (by first | exact Nat.le_refl _ | (simp; done) | (simp; omega) | omega) _ | with_reducible refine Below.setCell ?_ (by first | exact Nat.le_refl _ | (simp; done) | (simp; omega) | omega) _ | with_reducible refine Below.trans ?_ (Below.mono (by with_reducible assumption) (by first | exact Nat.le_refl _ | (simp; done) | (simp; omega) | omega))))⟩

theorem own : ownKnob Try.prog.godebug = none := by kernel_rfl
theorem laidOut : laidOutB Try.prog = true := by kernel_rfl
set_option maxRecDepth 100000 in
theorem lifted (os : Os) (started : os.Started) (H : Type) (enc : TypeId × Value → H) :
    ReturnsInHanded {} Try.checked os 5 .any (Rows.fnRatiosSpec.pre6 enc Try.prog Try.f5 Rows.fnRatiosRow.domain false) (Rows.fnRatiosSpec.post enc Try.prog Try.f5 false true false false) := by
  refine returnsInHanded_of_change (C := Try.checked) own started (by kernel_rfl) Try.func5
    (ChangeSpec.witness6 (enc := enc) (C := Try.checked) false ⟨#[], #[.slice none 0 0], []⟩ 8 (by kernel_rfl) (by kernel_rfl) (by kernel_rfl) (by kernel_rfl)) ?_
  intro W base args ds gs before hval0 hW hcnd _
  have hval : ∀ (j : Nat) t v, Try.f5.params[j]? = some t → args[j]? = some v → Value.okWide Try.prog W .any base t v := hval0
  have hW' := hW
  obtain ⟨p, q, hA0, hV, rfl, hfz, hnd⟩ := hW
  have hA : DataW.TrodAll enc Try.prog W 0 (fun _ => true) true Try.f5.params.toList args.toList ds p := hA0
  rw [Try.params5] at hA hval
  obtain ⟨v0, vs0, d0, ds0, p0, q0, hargs, rfl, rfl, h0, r0⟩ := trodAll_cons hA
  obtain ⟨rfl, rfl, rfl⟩ := trodAll_nil r0
  obtain rfl : args = #[v0] := by cases args; simp_all
  obtain ⟨rfl, rfl⟩ := trodVars_none hV
  have k0 := h0
  have lt0 : ∀ x ∈ p0, x.block < W.heap.size := by obtain ⟨m, hm⟩ := k0; exact DataW.trod_lt m _ _ _ hm
  obtain ⟨⟨a0, cap0⟩, n0, rfl, w0⟩ := open_bytes Try.underlying22 Try.underlying5 (by kernel_rfl) (hval 0 22 v0 rfl rfl) h0
  clear hA0 hval0
  refine (walk a0 cap0 n0 W w0).mono fun e W' ⟨he, bel⟩ => ?_
  subst he
  exact ⟨_, rfl, _, _, _, [], _, [], hW', trodAll_mk1 (shut_bool Try.underlying4 _), (trodAll_cons_mk (Below.trod laidOut (by kernel_rfl) (of_decide_eq_true (by kernel_rfl)) k0 bel lt0) trodAll_mk0), rfl, bel.frame _, fun h => by cases h⟩

theorem over : Rows.fnRatiosRow.holds Try.pinned (OpenSpec.ofChange Rows.fnRatiosSpec) :=
  OpenClaim.holds_of_wide 5 Try.f5 rfl rfl rfl rfl rfl rfl rfl ⟨rfl, rfl, rfl, rfl, rfl⟩ rfl rfl rfl rfl rfl (by kernel_rfl) Try.func5 (by kernel_rfl)
    (of_decide_eq_true (by kernel_rfl)) (by unfold Func.isWrapper; first | (rw [if_pos (by decide +kernel)]; kernel_rfl) | (rw [if_neg (by decide +kernel)]; exact ⟨rfl, rfl⟩))
    (fun os started H enc _ => lifted os started H enc)

/-- The statement. -/
theorem proved : Rows.FnRatiosSaid := over
end Go.Proofs.Ytiinhelljcgeaaa.fnRatios
