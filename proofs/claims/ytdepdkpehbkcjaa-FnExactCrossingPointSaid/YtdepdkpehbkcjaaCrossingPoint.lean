/-
  FnExactCrossingPoint: for all arguments the program's function answers as the reference's and leaves its argument as it was. No condition.
-/
import Derived.Test.YtdepdkpehbkcjaaRows
import Derived.Test.YtdepdkpehbkcjaaL05j
namespace Go.Proofs.Ytdepdkpehbkcjaa.crossingPoint
open Go.ChangeShapes Go.WideShapes Go.ChangeAt Go.RowKit Go.Deep
open Go.ChangeMaps (open_string shut_string)
set_option linter.unusedVariables false

set_option maxRecDepth 100000 in
set_option maxHeartbeats 2000000 in
theorem walk (a0 : Option Addr) (cap0 : Nat) (l : List Fx) (ax ay bx cy j : Int) (w : World) (w0 : l.length ≤ 9223372036854775807 ∧ FixAt w a0 l) (vax : (Lit.int .i64 ax).wf = true) (vay : (Lit.int .i64 ay).wf = true) (vbx : (Lit.int .i64 bx).wf = true) (vcy : (Lit.int .i64 cy).wf = true) (vj : (Lit.int .i64 j).wf = true) :
    Calls Try.prog 7 #[.agg #[.slice a0 l.length cap0], .agg #[.int .i64 ax, .int .i64 ay, .int .i64 bx, .int .i64 cy], .int .i64 j] w fun e w' => e = .returned (.bool true) ∧ Below w.heap.size w w' := by
  obtain ⟨hl0, hf0⟩ := w0
  clear vax vay vbx vcy vj
  replace hf0 := Lib.hid hf0
  go_enter Try.func7, Try.ntmps7
  go_wp2_with fail
  obtain ⟨W, hW⟩ : ∃ W, W = ((w.alloc (.cells #[.slice a0 l.length cap0] 47)).alloc (.cells #[.int .i64 ax, .int .i64 ay, .int .i64 bx, .int .i64 cy] 62)) := ⟨_, rfl⟩
  have HD : Below w.heap.size w W := by subst hW; exact (by repeat (first | with_reducible exact Below.refl _ _ | with_reducible assumption | with_reducible refine Below.drew ?_ | with_reducible refine Below.alloc ?_ (by first | exact Nat.le_refl _ | (simp; done) | (simp; omega) | omega) _ | with_reducible refine Below.setCell ?_ (by first | exact Nat.le_refl _ | (simp; done) | (simp; omega) | omega) _ | with_reducible refine Below.trans ?_ (Below.mono (by with_reducible assumption) (by first | exact Nat.le_refl _ | (simp; done) | (simp; omega) | omega))))
  have b00 : W.cell? ⟨w.heap.size, 0, none⟩ = some (.slice a0 l.length cap0) := by subst hW; simp [go_sem]
  have L0 : w.heap.size < W.heap.size := by subst hW; first | (simp; done) | (simp; omega)
  have b10 : W.cell? ⟨w.heap.size + 1, 0, none⟩ = some (.int .i64 ax) := by subst hW; simp [go_sem]
  have b11 : W.cell? ⟨w.heap.size + 1, 1, none⟩ = some (.int .i64 ay) := by subst hW; simp [go_sem]
  have b12 : W.cell? ⟨w.heap.size + 1, 2, none⟩ = some (.int .i64 bx) := by subst hW; simp [go_sem]
  have b13 : W.cell? ⟨w.heap.size + 1, 3, none⟩ = some (.int .i64 cy) := by subst hW; simp [go_sem]
  have L1 : w.heap.size + 1 < W.heap.size := by subst hW; first | (simp; done) | (simp; omega)
  rw [← hW]
  clear hW
  generalize w.heap.size + 1 = B1 at *
  obtain ⟨B0, hB0⟩ : ∃ B, B = w.heap.size := ⟨_, rfl⟩
  rw [← hB0] at b00 L0
  try rw [← hB0]
  replace hB0 := Lib.hid hB0
  have cz := szTrack_c a0 l.length cap0 1048576 W hl0 (by omega) (by omega)
  by_cases hn : (l.length : Int) ≤ 1048576
  case neg =>
    rw [if_neg hn] at cz
    refine cz.mono ?_
    rintro e V1 ⟨rfl, hb⟩
    go_wp2_with fail
    go_ret
    exact ⟨rfl, HD.trans (hb.mono HD.size)⟩
  rw [if_pos hn] at cz
  refine (cz).mono ?_
  rintro e V1 ⟨rfl, hb⟩
  replace HD := HD.trans (hb.mono HD.size)
  obtain ⟨hc, hf⟩ := bcell hb
  have hz := hb.size
  replace b00 := (hc _ 0 L0).trans b00
  replace b10 := (hc _ 0 L1).trans b10
  replace b11 := (hc _ 1 L1).trans b11
  replace b12 := (hc _ 2 L1).trans b12
  replace b13 := (hc _ 3 L1).trans b13
  replace L0 := Nat.lt_of_lt_of_le L0 hz
  replace L1 := Nat.lt_of_lt_of_le L1 hz
  clear hc hf hz hb
  go_wp2_with fail
  clear cz
  have hl1 : l.length ≤ 1048576 := by omega
  have hl2 : l.length ≤ 4611686018427387904 := by omega
  have cs := fun g w h => CrossingPointS_c (some ⟨g, 0, none⟩) l.length l ax ay bx cy j w hl2 h
  have ci := fun g w h => CrossingPoint_c (some ⟨g, 0, none⟩) l.length l ax ay bx cy j w hl2 h
  generalize (crPtR l ax ay bx cy j).1 = R0 at *
  generalize (crPtR l ax ay bx cy j).2.1 = R1 at *
  generalize (crPtR l ax ay bx cy j).2.2 = R2 at *
  have CS := Lib.hid cs
  have CI := Lib.hid ci
  clear cs ci
  have FV := Lib.hid (FixAt.below hf0.out HD)
  go_cut [8, 9] (fun sp sc wx => ∃ g : Nat, sp = .pointer (some ⟨g, 0, none⟩) ∧ sc = .int .i64 R2 ∧ wx.cell? ⟨g, 0, none⟩ = some (.int .i64 R0) ∧ wx.cell? ⟨g, 1, none⟩ = some (.int .i64 R1) ∧ g < wx.heap.size ∧ Below V1.heap.size V1 wx)
  case first =>
    go_region_held3 (fun wx => Below V1.heap.size V1 wx ∧ ∀ b o, b < V1.heap.size → wx.cell? ⟨b, o, none⟩ = V1.cell? ⟨b, o, none⟩)
      (first | with_reducible exact held_step (by assumption) hb | with_reducible exact held_alloc (by assumption) _ | with_reducible exact (held_set (by with_reducible assumption) (by first | exact Nat.le_refl _ | (simp; done) | (simp; omega) | omega) _) | with_reducible exact (held_set (held_set (by with_reducible assumption) (by first | exact Nat.le_refl _ | (simp; done) | (simp; omega) | omega) _) (by first | exact Nat.le_refl _ | (simp; done) | (simp; omega) | omega) _) | with_reducible exact held_realloc (by assumption) (by first | exact Nat.le_refl _ | (simp; done) | (simp; omega) | omega) _ | with_reducible exact held_start _ _ | with_reducible exact held_begin _)
      (first | (go_at_call 28; refine (toTrack_c a0 cap0 l _ hl1 (FixAt.below FV.out (And.left (by with_reducible assumption)))).mono ?_; rintro e w1 ⟨⟨g, rfl, hg, hlg⟩, hb⟩; have hz := held_size (by with_reducible assumption) hb; (try simp at hz); have hs := hb.size; (try simp at hs); obtain ⟨hc, hf⟩ := bcell hb; (try have hl := below_lt hb); (try simp at hl); (try have hlW : V1.heap.size < w1.heap.size := by first | omega | (simp; omega))) | (go_at_call 33; refine (toLine_c _ _ _ _ _).mono ?_; rintro e w1 ⟨rfl, hb⟩; have hz := held_size (by with_reducible assumption) hb; (try simp at hz); have hs := hb.size; (try simp at hs); obtain ⟨hc, hf⟩ := bcell hb; (try have hl := below_lt hb); (try simp at hl); (try have hlW : V1.heap.size < w1.heap.size := by first | omega | (simp; omega))) | (go_at_call 35; refine (CS.out _ _ (FixAt.below (FixBlk.at (by assumption)) (by repeat (first | with_reducible exact Below.refl _ _ | with_reducible assumption | with_reducible refine Below.drew ?_ | with_reducible refine Below.alloc ?_ (by first | exact Nat.le_refl _ | (simp; done) | (simp; omega) | omega) _ | with_reducible refine Below.setCell ?_ (by first | exact Nat.le_refl _ | (simp; done) | (simp; omega) | omega) _ | with_reducible refine Below.trans ?_ (Below.mono (by with_reducible assumption) (by first | exact Nat.le_refl _ | (simp; done) | (simp; omega) | omega)))))).mono ?_; rintro e w1 ⟨rfl, hb⟩; have hz := held_size (by with_reducible assumption) hb; (try simp at hz); have hs := hb.size; (try simp at hs); obtain ⟨hc, hf⟩ := bcell hb; (try have hl := below_lt hb); (try simp at hl); (try have hlW : V1.heap.size < w1.heap.size := by first | omega | (simp; omega))))
    all_goals (go_wp2_with fail; go_meet; exact ⟨_, rfl, rfl, (by go_light; go_simp), (by go_light; go_simp), (by go_light; first | (simp; done) | (simp; omega) | omega), (held_of (by with_reducible exact And.left (by with_reducible assumption))).1⟩)
  case rest =>
    obtain ⟨C1, rfl, rfl, k10, k11, K1, hb⟩ := hcut
    obtain ⟨V2, rfl⟩ : ∃ x : World, x = wc := ⟨_, rfl⟩
    replace HD := HD.trans (hb.mono HD.size)
    obtain ⟨hc, hf⟩ := bcell hb
    have hz := hb.size
    replace b00 := (hc _ 0 L0).trans b00
    replace b10 := (hc _ 0 L1).trans b10
    replace b11 := (hc _ 1 L1).trans b11
    replace b12 := (hc _ 2 L1).trans b12
    replace b13 := (hc _ 3 L1).trans b13
    replace FV := Lib.hid (FixAt.below FV.out hb)
    replace L0 := Nat.lt_of_lt_of_le L0 hz
    replace L1 := Nat.lt_of_lt_of_le L1 hz
    clear hc hf hz hb
    go_wp2_with fail
    refine (toTrack_c a0 cap0 l V2 hl1 FV.out).mono ?_
    rintro e V3 ⟨⟨g0, rfl, hg, hlg⟩, hb⟩
    have hG0 := Lib.hid hg
    clear hg hlg
    replace HD := HD.trans (hb.mono HD.size)
    obtain ⟨hc, hf⟩ := bcell hb
    have hz := hb.size
    replace b00 := (hc _ 0 L0).trans b00
    replace b10 := (hc _ 0 L1).trans b10
    replace b11 := (hc _ 1 L1).trans b11
    replace b12 := (hc _ 2 L1).trans b12
    replace b13 := (hc _ 3 L1).trans b13
    replace k10 := (hc _ 0 K1).trans k10
    replace k11 := (hc _ 1 K1).trans k11
    replace FV := Lib.hid (FixAt.below FV.out hb)
    replace L0 := Nat.lt_of_lt_of_le L0 hz
    replace L1 := Nat.lt_of_lt_of_le L1 hz
    replace K1 := Nat.lt_of_lt_of_le K1 hz
    clear hc hf hz hb
    go_wp2_with fail
    obtain ⟨V4, hV4⟩ : ∃ x, x = V3.alloc (.cells #[.slice (some ⟨g0, 0, none⟩) l.length l.length] 26) := ⟨_, rfl⟩
    have hb : Below V3.heap.size V3 V4 := by subst hV4; exact (Below.refl _ _).alloc (Nat.le_refl _) _
    have k00 : V4.cell? ⟨V3.heap.size, 0, none⟩ = some (.slice (some ⟨g0, 0, none⟩) l.length l.length) := by subst hV4; simp [go_sem]
    have K0 : V3.heap.size < V4.heap.size := by subst hV4; simp
    have hS0 := Lib.hid (show V4.heap.size = V3.heap.size + 1 by subst hV4; simp)
    rw [← hV4]
    clear hV4
    replace HD := HD.trans (hb.mono HD.size)
    obtain ⟨hc, hf⟩ := bcell hb
    have hz := hb.size
    replace b00 := (hc _ 0 L0).trans b00
    replace b10 := (hc _ 0 L1).trans b10
    replace b11 := (hc _ 1 L1).trans b11
    replace b12 := (hc _ 2 L1).trans b12
    replace b13 := (hc _ 3 L1).trans b13
    replace k10 := (hc _ 0 K1).trans k10
    replace k11 := (hc _ 1 K1).trans k11
    replace FV := Lib.hid (FixAt.below FV.out hb)
    replace hG0 := Lib.hid (FixBlk.below hG0.out hb)
    replace L0 := Nat.lt_of_lt_of_le L0 hz
    replace L1 := Nat.lt_of_lt_of_le L1 hz
    replace K1 := Nat.lt_of_lt_of_le K1 hz
    clear hc hf hz hb
    obtain ⟨C0, hC0⟩ : ∃ x, x = V3.heap.size := ⟨_, rfl⟩
    rw [← hC0] at k00 K0
    try rw [← hC0]
    replace hC0 := Lib.hid hC0
    go_cut [11, 12] (fun sp sc wx => ∃ g : Nat, sp = .pointer (some ⟨g, 0, none⟩) ∧ sc = .int .i64 R2 ∧ wx.cell? ⟨g, 0, none⟩ = some (.int .i64 R0) ∧ wx.cell? ⟨g, 1, none⟩ = some (.int .i64 R1) ∧ g < wx.heap.size ∧ Below V4.heap.size V4 wx)
    case first =>
      go_region_held3 (fun wx => Below V4.heap.size V4 wx ∧ ∀ b o, b < V4.heap.size → wx.cell? ⟨b, o, none⟩ = V4.cell? ⟨b, o, none⟩)
        (first | with_reducible exact held_step (by assumption) hb | with_reducible exact held_alloc (by assumption) _ | with_reducible exact (held_set (by with_reducible assumption) (by first | exact Nat.le_refl _ | (simp; done) | (simp; omega) | omega) _) | with_reducible exact (held_set (held_set (by with_reducible assumption) (by first | exact Nat.le_refl _ | (simp; done) | (simp; omega) | omega) _) (by first | exact Nat.le_refl _ | (simp; done) | (simp; omega) | omega) _) | with_reducible exact held_realloc (by assumption) (by first | exact Nat.le_refl _ | (simp; done) | (simp; omega) | omega) _ | with_reducible exact held_start _ _ | with_reducible exact held_begin _)
        (first | (go_at_call 33; refine (toLine_c _ _ _ _ _).mono ?_; rintro e w1 ⟨rfl, hb⟩; have hz := held_size (by with_reducible assumption) hb; (try simp at hz); have hs := hb.size; (try simp at hs); obtain ⟨hc, hf⟩ := bcell hb; (try have hl := below_lt hb); (try simp at hl); (try have hlW : V4.heap.size < w1.heap.size := by first | omega | (simp; omega))) | (go_at_call 36; refine (CI.out _ _ (FixAt.below (FixBlk.at hG0.out) (And.left (by with_reducible assumption)))).mono ?_; rintro e w1 ⟨rfl, hb⟩; have hz := held_size (by with_reducible assumption) hb; (try simp at hz); have hs := hb.size; (try simp at hs); obtain ⟨hc, hf⟩ := bcell hb; (try have hl := below_lt hb); (try simp at hl); (try have hlW : V4.heap.size < w1.heap.size := by first | omega | (simp; omega))))
      all_goals (go_wp2_with fail; go_meet; exact ⟨_, rfl, rfl, (by go_light; go_simp), (by go_light; go_simp), (by go_light; first | (simp; done) | (simp; omega) | omega), (held_of (by with_reducible exact And.left (by with_reducible assumption))).1⟩)
    case rest =>
      obtain ⟨C2, rfl, rfl, k20, k21, K2, hb⟩ := hcut
      obtain ⟨V5, rfl⟩ : ∃ x : World, x = wc := ⟨_, rfl⟩
      replace HD := HD.trans (hb.mono HD.size)
      obtain ⟨hc, hf⟩ := bcell hb
      have hz := hb.size
      replace b00 := (hc _ 0 L0).trans b00
      replace b10 := (hc _ 0 L1).trans b10
      replace b11 := (hc _ 1 L1).trans b11
      replace b12 := (hc _ 2 L1).trans b12
      replace b13 := (hc _ 3 L1).trans b13
      replace k10 := (hc _ 0 K1).trans k10
      replace k11 := (hc _ 1 K1).trans k11
      replace k00 := (hc _ 0 K0).trans k00
      replace FV := Lib.hid (FixAt.below FV.out hb)
      replace hG0 := Lib.hid (FixBlk.below hG0.out hb)
      replace L0 := Nat.lt_of_lt_of_le L0 hz
      replace L1 := Nat.lt_of_lt_of_le L1 hz
      replace K1 := Nat.lt_of_lt_of_le K1 hz
      replace K0 := Nat.lt_of_lt_of_le K0 hz
      clear hc hf hz hb
      go_wp2_with fail
      refine (eqPoint_same R0 R1 V5).mono ?_
      rintro e V6 ⟨rfl, hb⟩
      replace HD := HD.trans (hb.mono HD.size)
      obtain ⟨hc, hf⟩ := bcell hb
      have hz := hb.size
      replace b00 := (hc _ 0 L0).trans b00
      replace b10 := (hc _ 0 L1).trans b10
      replace b11 := (hc _ 1 L1).trans b11
      replace b12 := (hc _ 2 L1).trans b12
      replace b13 := (hc _ 3 L1).trans b13
      replace k10 := (hc _ 0 K1).trans k10
      replace k11 := (hc _ 1 K1).trans k11
      replace k00 := (hc _ 0 K0).trans k00
      replace k20 := (hc _ 0 K2).trans k20
      replace k21 := (hc _ 1 K2).trans k21
      replace FV := Lib.hid (FixAt.below FV.out hb)
      replace hG0 := Lib.hid (FixBlk.below hG0.out hb)
      replace L0 := Nat.lt_of_lt_of_le L0 hz
      replace L1 := Nat.lt_of_lt_of_le L1 hz
      replace K1 := Nat.lt_of_lt_of_le K1 hz
      replace K0 := Nat.lt_of_lt_of_le K0 hz
      replace K2 := Nat.lt_of_lt_of_le K2 hz
      clear hc hf hz hb
      go_wp2_with fail
      go_cut [50] (fun s50 wx => s50 = .bool false ∧ Below V6.heap.size V6 wx)
      case first =>
        go_region_held3 (fun wx => Below V6.heap.size V6 wx ∧ ∀ b o, b < V6.heap.size → wx.cell? ⟨b, o, none⟩ = V6.cell? ⟨b, o, none⟩)
          (first | with_reducible exact held_step (by assumption) hb | with_reducible exact held_start _ _ | with_reducible exact held_begin _)
          (first | (go_at_call 28; refine (toTrack_c a0 cap0 l _ hl1 (FixAt.below FV.out (And.left (by with_reducible assumption)))).mono ?_; rintro e w1 ⟨⟨g, rfl, hg, hlg⟩, hb⟩; have hz := held_size (by with_reducible assumption) hb; (try simp at hz); have hs := hb.size; (try simp at hs)) | (go_at_call 31; refine (eqTrack_c _ _ _ _ l _ hl2 (FixAt.below (FixBlk.at hG0.out) (And.left (by with_reducible assumption))) (FixBlk.at (by assumption))).mono ?_; rintro e w1 ⟨rfl, hb⟩; have hz := held_size (by with_reducible assumption) hb; (try simp at hz); have hs := hb.size; (try simp at hs)))
        all_goals go_wp2_with fail
        all_goals (go_meet; exact ⟨rfl, And.left (by with_reducible assumption)⟩)
      case rest =>
        obtain ⟨rfl, hb⟩ := hcut
        obtain ⟨V7, rfl⟩ : ∃ x : World, x = wc := ⟨_, rfl⟩
        replace HD := HD.trans (hb.mono HD.size)
        obtain ⟨hc, hf⟩ := bcell hb
        have hz := hb.size
        replace b00 := (hc _ 0 L0).trans b00
        replace b10 := (hc _ 0 L1).trans b10
        replace b11 := (hc _ 1 L1).trans b11
        replace b12 := (hc _ 2 L1).trans b12
        replace b13 := (hc _ 3 L1).trans b13
        replace k10 := (hc _ 0 K1).trans k10
        replace k11 := (hc _ 1 K1).trans k11
        replace k00 := (hc _ 0 K0).trans k00
        replace k20 := (hc _ 0 K2).trans k20
        replace k21 := (hc _ 1 K2).trans k21
        replace FV := Lib.hid (FixAt.below FV.out hb)
        replace hG0 := Lib.hid (FixBlk.below hG0.out hb)
        replace L0 := Nat.lt_of_lt_of_le L0 hz
        replace L1 := Nat.lt_of_lt_of_le L1 hz
        replace K1 := Nat.lt_of_lt_of_le K1 hz
        replace K0 := Nat.lt_of_lt_of_le K0 hz
        replace K2 := Nat.lt_of_lt_of_le K2 hz
        clear hc hf hz hb
        go_wp2_with fail
        go_ret
        exact ⟨rfl, HD⟩

theorem own : ownKnob Try.prog.godebug = none := by kernel_rfl
theorem laidOut : laidOutB Try.prog = true := by kernel_rfl
set_option maxRecDepth 100000 in
theorem lifted (os : Os) (started : os.Started) (H : Type) (enc : TypeId × Value → H) :
    ReturnsInHanded {} Try.checked os 7 .any (Rows.fnExactCrossingPointSpec.pre6 enc Try.prog Try.f7 Rows.fnExactCrossingPointRow.domain false) (Rows.fnExactCrossingPointSpec.post enc Try.prog Try.f7 false true false false) := by
  refine returnsInHanded_of_change (C := Try.checked) own started (by kernel_rfl) Try.func7
    (ChangeSpec.witness6 (enc := enc) (C := Try.checked) false ⟨#[], #[.agg #[.slice none 0 0], .agg #[.int .i64 0, .int .i64 0, .int .i64 0, .int .i64 0], .int .i64 0], []⟩ 8 (by kernel_rfl) (by kernel_rfl) (by kernel_rfl) (by kernel_rfl)) ?_
  intro W base args ds gs before hval0 hW hcnd _
  have hval : ∀ (j : Nat) t v, Try.f7.params[j]? = some t → args[j]? = some v → Value.okWide Try.prog W .any base t v := hval0
  have hW' := hW
  obtain ⟨p, q, hA0, hV, rfl, hfz, hnd⟩ := hW
  have hA : DataW.TrodAll enc Try.prog W 0 (fun _ => true) true Try.f7.params.toList args.toList ds p := hA0
  rw [Try.params7] at hA hval
  obtain ⟨v0, vs0, d0, ds0, p0, q0, hargs, rfl, rfl, h0, r0⟩ := trodAll_cons hA
  obtain ⟨v1, vs1, d1, ds1, p1, q1, rfl, rfl, rfl, h1, r1⟩ := trodAll_cons r0
  obtain ⟨v2, vs2, d2, ds2, p2, q2, rfl, rfl, rfl, h2, r2⟩ := trodAll_cons r1
  obtain ⟨rfl, rfl, rfl⟩ := trodAll_nil r2
  obtain rfl : args = #[v0, v1, v2] := by cases args; simp_all
  obtain ⟨rfl, rfl⟩ := trodVars_none hV
  have k0 := h0
  have lt0 : ∀ x ∈ p0, x.block < W.heap.size := by obtain ⟨m, hm⟩ := k0; exact DataW.trod_lt m _ _ _ hm
  obtain ⟨⟨a0, cap0⟩, l0, rfl, w0⟩ := open_track (n := 0) Try.underlying47 Try.underlying45 Try.underlying141 (by kernel_rfl) (by kernel_rfl) (by kernel_rfl) ⟨by kernel_rfl, by kernel_rfl⟩ (hval 0 47 v0 rfl rfl) h0
  have k1 := h1
  have lt1 : ∀ x ∈ p1, x.block < W.heap.size := by obtain ⟨m, hm⟩ := k1; exact DataW.trod_lt m _ _ _ hm
  obtain ⟨a1, b1, c1, e1, rfl, w1a, w1b, w1c, w1e⟩ := open_four (n := 4) Try.underlying62 (by kernel_rfl) (by kernel_rfl) (hval 1 62 v1 rfl rfl) h1
  obtain ⟨a2, rfl, rfl, rfl, w2⟩ := open_int Try.underlying2 (hval 2 2 v2 rfl rfl) h2
  clear hA0 hval0
  refine (walk a0 cap0 l0 a1 b1 c1 e1 a2 W w0 w1a w1b w1c w1e w2).mono fun e W' ⟨he, bel⟩ => ?_
  subst he
  exact ⟨_, rfl, _, _, _, [], _, [], hW', trodAll_mk1 (shut_bool Try.underlying4 _), (trodAll_cons_mk (Below.trod laidOut (by kernel_rfl) (of_decide_eq_true (by kernel_rfl)) k0 bel lt0) (trodAll_cons_mk (Below.trod laidOut (by kernel_rfl) (of_decide_eq_true (by kernel_rfl)) k1 bel lt1) (trodAll_cons_mk (shut_int Try.underlying2 w2) trodAll_mk0))), rfl, bel.frame _, fun h => by cases h⟩

theorem over : Rows.fnExactCrossingPointRow.holds Try.pinned (OpenSpec.ofChange Rows.fnExactCrossingPointSpec) :=
  OpenClaim.holds_of_wide 7 Try.f7 rfl rfl rfl rfl rfl rfl rfl ⟨rfl, rfl, rfl, rfl, rfl⟩ rfl rfl rfl rfl rfl (by kernel_rfl) Try.func7 (by kernel_rfl)
    (of_decide_eq_true (by kernel_rfl)) (by unfold Func.isWrapper; first | (rw [if_pos (by decide +kernel)]; kernel_rfl) | (rw [if_neg (by decide +kernel)]; exact ⟨rfl, rfl⟩))
    (fun os started H enc _ => lifted os started H enc)

/-- The statement. -/
theorem proved : Rows.FnExactCrossingPointSaid := over
end Go.Proofs.Ytdepdkpehbkcjaa.crossingPoint
