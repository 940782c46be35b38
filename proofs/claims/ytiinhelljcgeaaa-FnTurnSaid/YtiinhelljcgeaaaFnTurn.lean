/-
  FnTurn: for every code the law's function answers true. No condition.
-/
import Derived.Test.YtiinhelljcgeaaaRows
import Derived.Test.YtiinhelljcgeaaaPlain3
import Derived.Test.YtiinhelljcgeaaaDraw4
namespace Go.Proofs.Ytiinhelljcgeaaa.fnTurn
open Go.ChangeShapes Go.WideShapes Go.ChangeAt Go.RowKit Go.Deep
open Go.ChangeMaps (open_string shut_string)
set_option linter.unusedVariables false

set_option maxRecDepth 100000 in
set_option maxHeartbeats 4000000 in
theorem walk (a : Option Addr) (cap n : Nat) (w : World) (w0 : n ≤ 9223372036854775807 ∧ BytesB w.heap.size w a n) :
    Calls Try.prog 4 #[.slice a n cap] w fun e w' => e = .returned (.bool true) ∧ Below w.heap.size w w' := by
  obtain ⟨hn, hb⟩ := w0
  have HB := Lib.hid hb
  clear hb
  by_cases h : (4096 : Int) < (n : Int)
  · have CB := Lib.hid (fun w => big_t a n cap w hn h)
    go_enter Try.func4, Try.ntmps4
    go_wp2_with (go_at_call 15; refine (CB.out _).mono ?_; rintro e w' ⟨rfl, rfl⟩)
    go_ret
    exact ⟨rfl, (by repeat (first | with_reducible exact Below.refl _ _ | with_reducible assumption | with_reducible refine Below.drew ?_ | with_reducible refine Below.alloc ?_ (by first | exact Nat.le_refl _ | (simp; done) | (simp; omega) | omega) _ | with_reducible refine Below.setCell ?_ (by first | exact Nat.le_refl _ | (simp; done) | (simp; omega) | omega) _ | with_reducible refine Below.trans ?_ (Below.mono (by with_reducible assumption) (by first | exact Nat.le_refl _ | (simp; done) | (simp; omega) | omega))))⟩
  have CB := Lib.hid (fun w => big_f a n cap w hn h)
  clear h
  go_enter Try.func4, Try.ntmps4
  go_upto_region 4 with (first | (go_at_call 15; refine (CB.out _).mono ?_; rintro e w' ⟨rfl, rfl⟩) | (go_at_call 19; refine (DrawTurnOf_c a n cap _ hn (bytes_at HB.out (by repeat (first | with_reducible exact Below.refl _ _ | with_reducible assumption | with_reducible refine Below.drew ?_ | with_reducible refine Below.alloc ?_ (by first | exact Nat.le_refl _ | (simp; done) | (simp; omega) | omega) _ | with_reducible refine Below.setCell ?_ (by first | exact Nat.le_refl _ | (simp; done) | (simp; omega) | omega) _ | with_reducible refine Below.trans ?_ (Below.mono (by with_reducible assumption) (by first | exact Nat.le_refl _ | (simp; done) | (simp; omega) | omega)))))).mono ?_; rintro e w1 ⟨⟨x, y, z, u, v, t, rfl⟩, hb⟩; (try replace hb := below_trans (by with_reducible assumption) hb); obtain ⟨hc, hf⟩ := bcell hb; have hz := hb.size; (try simp at hz); (try have hz0 : w.heap.size ≤ w1.heap.size := by omega); (try have hz1 : w.heap.size < w1.heap.size := by omega); (try have hz2 : w.heap.size + 1 < w1.heap.size := by omega); (try have hz3 : w.heap.size + 1 + 1 < w1.heap.size := by omega); (try have hz4 : w.heap.size + 1 + 1 + 1 < w1.heap.size := by omega)))
  obtain ⟨wD, hwD⟩ : ∃ x : World, x = w1 := ⟨_, rfl⟩
  subst hwD
  have KD : Below w.heap.size w wD := (by repeat (first | with_reducible exact Below.refl _ _ | with_reducible assumption | with_reducible refine Below.drew ?_ | with_reducible refine Below.alloc ?_ (by first | exact Nat.le_refl _ | (simp; done) | (simp; omega) | omega) _ | with_reducible refine Below.setCell ?_ (by first | exact Nat.le_refl _ | (simp; done) | (simp; omega) | omega) _ | with_reducible refine Below.trans ?_ (Below.mono (by with_reducible assumption) (by first | exact Nat.le_refl _ | (simp; done) | (simp; omega) | omega))))
  clear hb hc hf
  by_cases h : (isPt x y && isPt z u && isPt v t) = true
  · simp only [Bool.and_eq_true] at h
    obtain ⟨⟨hp, hq⟩, hr⟩ := h
    have E1 : turnR x y z u v t = (turnZ x y z u v t, 0) := by simp [turnR, hp, hq, hr]
    have E2 : turnR z u x y v t = (-turnZ x y z u v t, 0) := by simp [turnR, hp, hq, hr, turn_swap x y z u v t]
    have E3 : turnR z u v t x y = (turnZ x y z u v t, 0) := by simp [turnR, hp, hq, hr, turn_round x y z u v t]
    have D1 : sqR x y z u = (sqZ x y z u, 0) := by simp [sqR, hp, hq]
    have D2 : sqR z u x y = (sqZ x y z u, 0) := by simp [sqR, hp, hq, sq_sym x y z u]
    obtain ⟨b1, b2⟩ := turn_bd (show turnZ x y z u v t = _ from rfl)
    have C1 := Lib.hid (fun w => E1 ▸ TurnOf_c x y z u v t w)
    have C2 := Lib.hid (fun w => E1 ▸ TurnOfS_c x y z u v t w)
    have C3 := Lib.hid (fun w => E2 ▸ TurnOf_c z u x y v t w)
    have C4 := Lib.hid (fun w => E3 ▸ TurnOf_c z u v t x y w)
    have C5 := Lib.hid (fun w => D1 ▸ SquareDistance_c x y z u w)
    have C6 := Lib.hid (fun w => D2 ▸ SquareDistance_c z u x y w)
    clear E1 E2 E3 D1 D2 hp hq hr
    have H0 := Lib.hid (fun (h1 : x = z) (h2 : y = u) => show sqZ x y z u = 0 by rw [h1, h2]; exact sq_same z u)
    have H1 := Lib.hid (fun (h : x ≠ z ∨ y ≠ u) => show sqZ x y z u ≠ 0 by have := sq_pos h; omega)
    generalize sqZ x y z u = S at *
    generalize turnZ x y z u v t = T at *
    go_upto_region 5 with (go_at_call 20; refine (C1.out _).mono ?_; rintro e w1 ⟨rfl, hb⟩; (try replace hb := below_trans (by with_reducible assumption) hb); obtain ⟨hc, hf⟩ := bcell hb; have hz := hb.size; (try simp at hz); (try have hz0 : w.heap.size ≤ w1.heap.size := by omega); (try have hz1 : w.heap.size < w1.heap.size := by omega); (try have hz2 : w.heap.size + 1 < w1.heap.size := by omega); (try have hz3 : w.heap.size + 1 + 1 < w1.heap.size := by omega); (try have hz4 : w.heap.size + 1 + 1 + 1 < w1.heap.size := by omega))
    clear C1
    go_upto_region 11 with (first | (go_at_call 21; refine (C2.out _).mono ?_; rintro e w1 ⟨rfl, hb⟩; (try replace hb := below_trans (by with_reducible assumption) hb); obtain ⟨hc, hf⟩ := bcell hb; have hz := hb.size; (try simp at hz); (try have hz0 : w.heap.size ≤ w1.heap.size := by omega); (try have hz1 : w.heap.size < w1.heap.size := by omega); (try have hz2 : w.heap.size + 1 < w1.heap.size := by omega); (try have hz3 : w.heap.size + 1 + 1 < w1.heap.size := by omega); (try have hz4 : w.heap.size + 1 + 1 + 1 < w1.heap.size := by omega)) | (go_at_call 20; refine (C3.out _).mono ?_; rintro e w1 ⟨rfl, hb⟩; (try replace hb := below_trans (by with_reducible assumption) hb); obtain ⟨hc, hf⟩ := bcell hb; have hz := hb.size; (try simp at hz); (try have hz0 : w.heap.size ≤ w1.heap.size := by omega); (try have hz1 : w.heap.size < w1.heap.size := by omega); (try have hz2 : w.heap.size + 1 < w1.heap.size := by omega); (try have hz3 : w.heap.size + 1 + 1 < w1.heap.size := by omega); (try have hz4 : w.heap.size + 1 + 1 + 1 < w1.heap.size := by omega)))
    clear C2 C3
    go_upto_region 12 with (go_at_call 20; refine (C4.out _).mono ?_; rintro e w1 ⟨rfl, hb⟩; (try replace hb := below_trans (by with_reducible assumption) hb); obtain ⟨hc, hf⟩ := bcell hb; have hz := hb.size; (try simp at hz); (try have hz0 : w.heap.size ≤ w1.heap.size := by omega); (try have hz1 : w.heap.size < w1.heap.size := by omega); (try have hz2 : w.heap.size + 1 < w1.heap.size := by omega); (try have hz3 : w.heap.size + 1 + 1 < w1.heap.size := by omega); (try have hz4 : w.heap.size + 1 + 1 + 1 < w1.heap.size := by omega))
    clear C4
    go_upto_region 13 with (go_at_call 22; refine (C5.out _).mono ?_; rintro e w1 ⟨rfl, hb⟩; (try replace hb := below_trans (by with_reducible assumption) hb); obtain ⟨hc, hf⟩ := bcell hb; have hz := hb.size; (try simp at hz); (try have hz0 : w.heap.size ≤ w1.heap.size := by omega); (try have hz1 : w.heap.size < w1.heap.size := by omega); (try have hz2 : w.heap.size + 1 < w1.heap.size := by omega); (try have hz3 : w.heap.size + 1 + 1 < w1.heap.size := by omega); (try have hz4 : w.heap.size + 1 + 1 + 1 < w1.heap.size := by omega))
    clear C5
    go_upto_region 14 with (go_at_call 22; refine (C6.out _).mono ?_; rintro e w1 ⟨rfl, hb⟩; (try replace hb := below_trans (by with_reducible assumption) hb); obtain ⟨hc, hf⟩ := bcell hb; have hz := hb.size; (try simp at hz); (try have hz0 : w.heap.size ≤ w1.heap.size := by omega); (try have hz1 : w.heap.size < w1.heap.size := by omega); (try have hz2 : w.heap.size + 1 < w1.heap.size := by omega); (try have hz3 : w.heap.size + 1 + 1 < w1.heap.size := by omega); (try have hz4 : w.heap.size + 1 + 1 + 1 < w1.heap.size := by omega))
    clear C6
    by_cases hx : x = z
    · by_cases hy : y = u
      · have hS := H0.out hx hy
        subst hx hy hS
        go_wp2
        go_ret
        exact ⟨rfl, (by repeat (first | with_reducible exact Below.refl _ _ | with_reducible assumption | with_reducible refine Below.drew ?_ | with_reducible refine Below.alloc ?_ (by first | exact Nat.le_refl _ | (simp; done) | (simp; omega) | omega) _ | with_reducible refine Below.setCell ?_ (by first | exact Nat.le_refl _ | (simp; done) | (simp; omega) | omega) _ | with_reducible refine Below.trans ?_ (Below.mono (by with_reducible assumption) (by first | exact Nat.le_refl _ | (simp; done) | (simp; omega) | omega))))⟩
      · have hS := H1.out (.inr hy)
        go_wp2
        go_ret
        exact ⟨ret_bool (by simp [hS]), (by repeat (first | with_reducible exact Below.refl _ _ | with_reducible assumption | with_reducible refine Below.drew ?_ | with_reducible refine Below.alloc ?_ (by first | exact Nat.le_refl _ | (simp; done) | (simp; omega) | omega) _ | with_reducible refine Below.setCell ?_ (by first | exact Nat.le_refl _ | (simp; done) | (simp; omega) | omega) _ | with_reducible refine Below.trans ?_ (Below.mono (by with_reducible assumption) (by first | exact Nat.le_refl _ | (simp; done) | (simp; omega) | omega))))⟩
    · have hS := H1.out (.inl hx)
      go_wp2
      go_ret
      exact ⟨ret_bool (by simp [hS]), (by repeat (first | with_reducible exact Below.refl _ _ | with_reducible assumption | with_reducible refine Below.drew ?_ | with_reducible refine Below.alloc ?_ (by first | exact Nat.le_refl _ | (simp; done) | (simp; omega) | omega) _ | with_reducible refine Below.setCell ?_ (by first | exact Nat.le_refl _ | (simp; done) | (simp; omega) | omega) _ | with_reducible refine Below.trans ?_ (Below.mono (by with_reducible assumption) (by first | exact Nat.le_refl _ | (simp; done) | (simp; omega) | omega))))⟩
  · have E : turnR x y z u v t = (0, 1) := by simp only [turnR, if_neg h]
    have C1 := Lib.hid (fun w => E ▸ TurnOf_c x y z u v t w)
    have C2 := Lib.hid (fun w => E ▸ TurnOfS_c x y z u v t w)
    clear E h
    go_wp2_with (first | (go_at_call 20; refine (C1.out _).mono ?_; rintro e w1 ⟨rfl, hb⟩; (try replace hb := below_trans (by with_reducible assumption) hb); obtain ⟨hc, hf⟩ := bcell hb; have hz := hb.size; (try simp at hz); (try have hz0 : w.heap.size ≤ w1.heap.size := by omega); (try have hz1 : w.heap.size < w1.heap.size := by omega); (try have hz2 : w.heap.size + 1 < w1.heap.size := by omega); (try have hz3 : w.heap.size + 1 + 1 < w1.heap.size := by omega); (try have hz4 : w.heap.size + 1 + 1 + 1 < w1.heap.size := by omega)) | (go_at_call 21; refine (C2.out _).mono ?_; rintro e w1 ⟨rfl, hb⟩; (try replace hb := below_trans (by with_reducible assumption) hb); obtain ⟨hc, hf⟩ := bcell hb; have hz := hb.size; (try simp at hz); (try have hz0 : w.heap.size ≤ w1.heap.size := by omega); (try have hz1 : w.heap.size < w1.heap.size := by omega); (try have hz2 : w.heap.size + 1 < w1.heap.size := by omega); (try have hz3 : w.heap.size + 1 + 1 < w1.heap.size := by omega); (try have hz4 : w.heap.size + 1 + 1 + 1 < w1.heap.size := by omega)))
    go_ret
    exact ⟨rfl, (by repeat (first | with_reducible exact Below.refl _ _ | with_reducible assumption | with_reducible refine Below.drew ?_ | with_reducible refine Below.alloc ?_ (by first | exact Nat.le_refl _ | (simp; done) | (simp; omega) | omega) _ | with_reducible refine Below.setCell ?_ (by first | exact Nat.le_refl _ | (simp; done) | (simp; omega) | omega) _ | with_reducible refine Below.trans ?_ (Below.mono (by with_reducible assumption) (by first | exact Nat.le_refl _ | (simp; done) | (simp; omega) | omega))))⟩

theorem own : ownKnob Try.prog.godebug = none := by kernel_rfl
theorem laidOut : laidOutB Try.prog = true := by kernel_rfl
set_option maxRecDepth 100000 in
theorem lifted (os : Os) (started : os.Started) (H : Type) (enc : TypeId × Value → H) :
    ReturnsInHanded {} Try.checked os 4 .any (Rows.fnTurnSpec.pre6 enc Try.prog Try.f4 Rows.fnTurnRow.domain false) (Rows.fnTurnSpec.post enc Try.prog Try.f4 false true false false) := by
  refine returnsInHanded_of_change (C := Try.checked) own started (by kernel_rfl) Try.func4
    (ChangeSpec.witness6 (enc := enc) (C := Try.checked) false ⟨#[], #[.slice none 0 0], []⟩ 8 (by kernel_rfl) (by kernel_rfl) (by kernel_rfl) (by kernel_rfl)) ?_
  intro W base args ds gs before hval0 hW hcnd _
  have hval : ∀ (j : Nat) t v, Try.f4.params[j]? = some t → args[j]? = some v → Value.okWide Try.prog W .any base t v := hval0
  have hW' := hW
  obtain ⟨p, q, hA0, hV, rfl, hfz, hnd⟩ := hW
  have hA : DataW.TrodAll enc Try.prog W 0 (fun _ => true) true Try.f4.params.toList args.toList ds p := hA0
  rw [Try.params4] at hA hval
  obtain ⟨v0, vs0, d0, ds0, p0, q0, hargs, rfl, rfl, h0, r0⟩ := trodAll_cons hA
  obtain ⟨rfl, rfl, rfl⟩ := trodAll_nil r0
  obtain rfl : args = #[v0] := by cases args; simp_all
  obtain ⟨rfl, rfl⟩ := trodVars_none hV
  have k0 := h0
  have lt0 : ∀ x ∈ p0, x.block < W.heap.size := by obtain ⟨m, hm⟩ := k0; exact DataW.trod_lt m _ _ _ hm
  obtain ⟨⟨a0, cap0⟩, n0, rfl, w0⟩ := open_bytes Try.underlying22 Try.underlying5 (by kernel_rfl) (hval 0 22 v0 rfl rfl) h0
  clear hA0 hval0
  refine (walk a0 cap0 n0 W w0).mono fun e W' ⟨he, bel⟩ => ?_
  subst he
  exact ⟨_, rfl, _, _, _, [], _, [], hW', trodAll_mk1 (shut_bool Try.underlying4 _), (trodAll_cons_mk (Below.trod laidOut (by kernel_rfl) (of_decide_eq_true (by kernel_rfl)) k0 bel lt0) trodAll_mk0), rfl, bel.frame _, fun h => by cases h⟩

theorem over : Rows.fnTurnRow.holds Try.pinned (OpenSpec.ofChange Rows.fnTurnSpec) :=
  OpenClaim.holds_of_wide 4 Try.f4 rfl rfl rfl rfl rfl rfl rfl ⟨rfl, rfl, rfl, rfl, rfl⟩ rfl rfl rfl rfl rfl (by kernel_rfl) Try.func4 (by kernel_rfl)
    (of_decide_eq_true (by kernel_rfl)) (by unfold Func.isWrapper; first | (rw [if_pos (by decide +kernel)]; kernel_rfl) | (rw [if_neg (by decide +kernel)]; exact ⟨rfl, rfl⟩))
    (fun os started H enc _ => lifted os started H enc)

/-- The statement. -/
theorem proved : Rows.FnTurnSaid := over
end Go.Proofs.Ytiinhelljcgeaaa.fnTurn
