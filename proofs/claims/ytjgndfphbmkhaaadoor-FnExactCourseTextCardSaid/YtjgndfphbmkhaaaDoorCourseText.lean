/-
  FnExactCourseText: for all arguments the program's function answers as the reference's and leaves its argument as it was. No condition.
-/
import Derived.Test.YtjgndfphbmkhaaaDoorRows
import Derived.Test.YtjgndfphbmkhaaaDoorTie
import Derived.Test.YtjgndfphbmkhaaaDoorCards
import Derived.LaidMore
import Derived.Lay
import Derived.SevenTiedAt
import Derived.Test.YtjgndfphbmkhaaaDoorTxt7
namespace Go.Proofs.YtjgndfphbmkhaaaDoor.courseText
open Go.ChangeShapes Go.WideShapes Go.ChangeAt Go.RowKit Go.Deep
open Go.ChangeMaps (open_string shut_string)
set_option linter.unusedVariables false

set_option maxRecDepth 100000 in
theorem tabOf {W : World} (h : laidMetH Tryd.prog Rows.fnExactCourseTextRow.laid W) : Tab W := by
  rw [MakeChecks.laidMetH_plain _ _ _ (by kernel_rfl)] at h
  obtain ⟨ps, ⟨g1, t1, cs1, f1, p1, q1, _, _, _, _, ⟨g2, t2, cs2, f2, p2, q2, _, _, _, _, ⟨g3, t3, cs3, f3, p3, q3, hg3, ht3, hv3, hd3, _, _⟩, _⟩, _⟩, _⟩ := h
  obtain rfl := Option.some.inj ((show Tryd.prog.globalNamed "internal/strconv.uint64pow10" = some 3 by kernel_rfl).symm.trans hg3)
  obtain rfl := Option.some.inj ((show (Tryd.prog.globals[3]?).map (·.type) = some 139 by kernel_rfl).symm.trans ht3)
  unfold Tab Lib.TabIs
  rw [hv3, ← Lib.cells_of_tab Tryd.underlying139 Tryd.underlying117 (by kernel_rfl) (by kernel_rfl) hd3]
set_option maxRecDepth 100000 in
set_option maxHeartbeats 4000000 in
theorem walk (x0 x1 x2 x3 x4 x5 x6 x7 : Int) (a0 : Option Addr) (cap0 : Nat) (l : List Mk) (w : World) (w0 : l.length ≤ 9223372036854775807 ∧ RowAt w a0 (mflat l) ∧ (∀ i, i < l.length → (mk l i).name.size ≤ maxLen)) (wT : Tab w) :
    Calls Tryd.prog 6 #[.agg #[.int .i64 x0, .int .i64 x1, .int .i64 x2, .int .i64 x3, .int .i64 x4, .int .i64 x5, .int .i64 x6, .int .i64 x7, .slice a0 l.length cap0]] w fun e w' => e = .returned (.bool true) ∧ Below w.heap.size w w' := by
  obtain ⟨hl0, hf0, hs0⟩ := w0
  have HS := Lib.hid hs0
  clear hs0
  replace hf0 := Lib.hid hf0
  have HT0 := Lib.hid wT
  clear wT
  go_enter Tryd.func6, Tryd.ntmps6
  go_wp2_with fail
  obtain ⟨W, hW⟩ : ∃ W, W = (w.alloc (.cells #[.int .i64 x0, .int .i64 x1, .int .i64 x2, .int .i64 x3, .int .i64 x4, .int .i64 x5, .int .i64 x6, .int .i64 x7, .slice a0 l.length cap0] 38)) := ⟨_, rfl⟩
  have HD : Below w.heap.size w W := by subst hW; exact (by repeat (first | with_reducible exact Below.refl _ _ | with_reducible assumption | with_reducible refine Below.drew ?_ | with_reducible refine Below.alloc ?_ (by first | exact Nat.le_refl _ | (simp; done) | (simp; omega) | omega) _ | with_reducible refine Below.setCell ?_ (by first | exact Nat.le_refl _ | (simp; done) | (simp; omega) | omega) _ | with_reducible refine Below.trans ?_ (Below.mono (by with_reducible assumption) (by first | exact Nat.le_refl _ | (simp; done) | (simp; omega) | omega))))
  have b00 : W.cell? ⟨w.heap.size, 0, none⟩ = some (.int .i64 x0) := by subst hW; simp [go_sem]
  have b01 : W.cell? ⟨w.heap.size, 1, none⟩ = some (.int .i64 x1) := by subst hW; simp [go_sem]
  have b02 : W.cell? ⟨w.heap.size, 2, none⟩ = some (.int .i64 x2) := by subst hW; simp [go_sem]
  have b03 : W.cell? ⟨w.heap.size, 3, none⟩ = some (.int .i64 x3) := by subst hW; simp [go_sem]
  have b04 : W.cell? ⟨w.heap.size, 4, none⟩ = some (.int .i64 x4) := by subst hW; simp [go_sem]
  have b05 : W.cell? ⟨w.heap.size, 5, none⟩ = some (.int .i64 x5) := by subst hW; simp [go_sem]
  have b06 : W.cell? ⟨w.heap.size, 6, none⟩ = some (.int .i64 x6) := by subst hW; simp [go_sem]
  have b07 : W.cell? ⟨w.heap.size, 7, none⟩ = some (.int .i64 x7) := by subst hW; simp [go_sem]
  have b08 : W.cell? ⟨w.heap.size, 8, none⟩ = some (.slice a0 l.length cap0) := by subst hW; simp [go_sem]
  have L0 : w.heap.size < W.heap.size := by subst hW; first | (simp; done) | (simp; omega)
  rw [← hW]
  clear hW
  obtain ⟨B0, hB0⟩ : ∃ B, B = w.heap.size := ⟨_, rfl⟩
  rw [← hB0] at b00 b01 b02 b03 b04 b05 b06 b07 b08 L0
  try rw [← hB0]
  replace hB0 := Lib.hid hB0
  have FV := Lib.hid (hf0.out.below HD)
  have HT := Lib.hid (HT0.out.below HD)
  clear hf0 HT0
  refine (szCourse_c x0 x1 x2 x3 x4 x5 x6 x7 a0 cap0 l 1048576 W hl0 FV.out HS.out (by omega) (by omega)).mono ?_
  rintro e V1 ⟨⟨z, rfl, hz0⟩, hb⟩
  replace HD := HD.trans (hb.mono HD.size)
  obtain ⟨hc, hf⟩ := bcell hb
  have hz := hb.size
  replace b00 := (hc _ 0 L0).trans b00
  replace b01 := (hc _ 1 L0).trans b01
  replace b02 := (hc _ 2 L0).trans b02
  replace b03 := (hc _ 3 L0).trans b03
  replace b04 := (hc _ 4 L0).trans b04
  replace b05 := (hc _ 5 L0).trans b05
  replace b06 := (hc _ 6 L0).trans b06
  replace b07 := (hc _ 7 L0).trans b07
  replace b08 := (hc _ 8 L0).trans b08
  replace FV := Lib.hid (RowAt.below FV.out hb)
  replace HT := Lib.hid (Tab.below HT.out hb)
  replace L0 := Nat.lt_of_lt_of_le L0 hz
  clear hc hf hz hb
  by_cases hn : z < 0
  case pos =>
    go_wp2_with fail
    go_ret
    exact ⟨rfl, HD⟩
  have hl9 := hz0 (by omega)
  have hl1 : l.length ≤ 1048576 := by omega
  have hl2 : l.length ≤ 4611686018427387904 := by omega
  have hl3 : l.length ≤ 9223372036854775807 := by omega
  clear hl9 hz0
  go_wp2_with fail
  have cs := fun g w h => CourseTextS_c x0 x1 x2 x3 x4 x5 x6 x7 (some ⟨g, 0, none⟩) l.length l w hl2 h HS.out
  have ci := fun g w h ht => CourseText_c x0 x1 x2 x3 x4 x5 x6 x7 (some ⟨g, 0, none⟩) l.length l w hl2 h HS.out (Nat.le_refl _) ht
  generalize ctR x0 x1 x2 x3 x4 x5 x6 x7 l = R at *
  have CS := Lib.hid cs
  have CI := Lib.hid ci
  clear cs ci
  refine (toCourse_c x0 x1 x2 x3 x4 x5 x6 x7 a0 cap0 l V1 hl1 FV.out).mono ?_
  rintro e U1 ⟨⟨g1, rfl, hg, hlg⟩, hb⟩
  have hG1 := Lib.hid (rowAt_own hg)
  clear hg hlg
  replace HD := HD.trans (hb.mono HD.size)
  obtain ⟨hc, hf⟩ := bcell hb
  have hz := hb.size
  replace b00 := (hc _ 0 L0).trans b00
  replace b01 := (hc _ 1 L0).trans b01
  replace b02 := (hc _ 2 L0).trans b02
  replace b03 := (hc _ 3 L0).trans b03
  replace b04 := (hc _ 4 L0).trans b04
  replace b05 := (hc _ 5 L0).trans b05
  replace b06 := (hc _ 6 L0).trans b06
  replace b07 := (hc _ 7 L0).trans b07
  replace b08 := (hc _ 8 L0).trans b08
  replace FV := Lib.hid (RowAt.below FV.out hb)
  replace HT := Lib.hid (Tab.below HT.out hb)
  replace L0 := Nat.lt_of_lt_of_le L0 hz
  clear hc hf hz hb
  go_wp2_with fail
  refine (CS.out _ U1 hG1.out).mono ?_
  rintro e V2 ⟨rfl, hb⟩
  clear hG1
  replace HD := HD.trans (hb.mono HD.size)
  obtain ⟨hc, hf⟩ := bcell hb
  have hz := hb.size
  replace b00 := (hc _ 0 L0).trans b00
  replace b01 := (hc _ 1 L0).trans b01
  replace b02 := (hc _ 2 L0).trans b02
  replace b03 := (hc _ 3 L0).trans b03
  replace b04 := (hc _ 4 L0).trans b04
  replace b05 := (hc _ 5 L0).trans b05
  replace b06 := (hc _ 6 L0).trans b06
  replace b07 := (hc _ 7 L0).trans b07
  replace b08 := (hc _ 8 L0).trans b08
  replace FV := Lib.hid (RowAt.below FV.out hb)
  replace HT := Lib.hid (Tab.below HT.out hb)
  replace L0 := Nat.lt_of_lt_of_le L0 hz
  clear hc hf hz hb
  go_wp2_with fail
  refine (toCourse_c x0 x1 x2 x3 x4 x5 x6 x7 a0 cap0 l V2 hl1 FV.out).mono ?_
  rintro e V3 ⟨⟨g0, rfl, hg, hlg⟩, hb⟩
  have hG0 := Lib.hid (rowAt_own hg)
  clear hg hlg
  replace HD := HD.trans (hb.mono HD.size)
  obtain ⟨hc, hf⟩ := bcell hb
  have hz := hb.size
  replace b00 := (hc _ 0 L0).trans b00
  replace b01 := (hc _ 1 L0).trans b01
  replace b02 := (hc _ 2 L0).trans b02
  replace b03 := (hc _ 3 L0).trans b03
  replace b04 := (hc _ 4 L0).trans b04
  replace b05 := (hc _ 5 L0).trans b05
  replace b06 := (hc _ 6 L0).trans b06
  replace b07 := (hc _ 7 L0).trans b07
  replace b08 := (hc _ 8 L0).trans b08
  replace FV := Lib.hid (RowAt.below FV.out hb)
  replace HT := Lib.hid (Tab.below HT.out hb)
  replace L0 := Nat.lt_of_lt_of_le L0 hz
  clear hc hf hz hb
  go_wp2_with fail
  obtain ⟨V4, hV4⟩ : ∃ x, x = V3.alloc (.cells #[.int .i64 x0, .int .i64 x1, .int .i64 x2, .int .i64 x3, .int .i64 x4, .int .i64 x5, .int .i64 x6, .int .i64 x7, .slice (some ⟨g0, 0, none⟩) l.length l.length] 46) := ⟨_, rfl⟩
  have hb : Below V3.heap.size V3 V4 := by subst hV4; exact (Below.refl _ _).alloc (Nat.le_refl _) _
  have k00 : V4.cell? ⟨V3.heap.size, 0, none⟩ = some (.int .i64 x0) := by subst hV4; simp [go_sem]
  have k01 : V4.cell? ⟨V3.heap.size, 1, none⟩ = some (.int .i64 x1) := by subst hV4; simp [go_sem]
  have k02 : V4.cell? ⟨V3.heap.size, 2, none⟩ = some (.int .i64 x2) := by subst hV4; simp [go_sem]
  have k03 : V4.cell? ⟨V3.heap.size, 3, none⟩ = some (.int .i64 x3) := by subst hV4; simp [go_sem]
  have k04 : V4.cell? ⟨V3.heap.size, 4, none⟩ = some (.int .i64 x4) := by subst hV4; simp [go_sem]
  have k05 : V4.cell? ⟨V3.heap.size, 5, none⟩ = some (.int .i64 x5) := by subst hV4; simp [go_sem]
  have k06 : V4.cell? ⟨V3.heap.size, 6, none⟩ = some (.int .i64 x6) := by subst hV4; simp [go_sem]
  have k07 : V4.cell? ⟨V3.heap.size, 7, none⟩ = some (.int .i64 x7) := by subst hV4; simp [go_sem]
  have k08 : V4.cell? ⟨V3.heap.size, 8, none⟩ = some (.slice (some ⟨g0, 0, none⟩) l.length l.length) := by subst hV4; simp [go_sem]
  have K0 : V3.heap.size < V4.heap.size := by subst hV4; simp
  have hS0 := Lib.hid (show V4.heap.size = V3.heap.size + 1 by subst hV4; simp)
  rw [← hV4]
  clear hV4
  replace HD := HD.trans (hb.mono HD.size)
  obtain ⟨hc, hf⟩ := bcell hb
  have hz := hb.size
  replace b00 := (hc _ 0 L0).trans b00
  replace b01 := (hc _ 1 L0).trans b01
  replace b02 := (hc _ 2 L0).trans b02
  replace b03 := (hc _ 3 L0).trans b03
  replace b04 := (hc _ 4 L0).trans b04
  replace b05 := (hc _ 5 L0).trans b05
  replace b06 := (hc _ 6 L0).trans b06
  replace b07 := (hc _ 7 L0).trans b07
  replace b08 := (hc _ 8 L0).trans b08
  replace FV := Lib.hid (RowAt.below FV.out hb)
  replace HT := Lib.hid (Tab.below HT.out hb)
  replace hG0 := Lib.hid (RowAt.below hG0.out hb)
  replace L0 := Nat.lt_of_lt_of_le L0 hz
  clear hc hf hz hb
  obtain ⟨C0, hC0⟩ : ∃ x, x = V3.heap.size := ⟨_, rfl⟩
  rw [← hC0] at k00 k01 k02 k03 k04 k05 k06 k07 k08 K0
  try rw [← hC0]
  replace hC0 := Lib.hid hC0
  go_wp2_with fail
  refine (CI.out _ V4 hG0.out HT.out).mono ?_
  rintro e V5 ⟨rfl, hb⟩
  replace HD := HD.trans (hb.mono HD.size)
  obtain ⟨hc, hf⟩ := bcell hb
  have hz := hb.size
  replace b00 := (hc _ 0 L0).trans b00
  replace b01 := (hc _ 1 L0).trans b01
  replace b02 := (hc _ 2 L0).trans b02
  replace b03 := (hc _ 3 L0).trans b03
  replace b04 := (hc _ 4 L0).trans b04
  replace b05 := (hc _ 5 L0).trans b05
  replace b06 := (hc _ 6 L0).trans b06
  replace b07 := (hc _ 7 L0).trans b07
  replace b08 := (hc _ 8 L0).trans b08
  replace k00 := (hc _ 0 K0).trans k00
  replace k01 := (hc _ 1 K0).trans k01
  replace k02 := (hc _ 2 K0).trans k02
  replace k03 := (hc _ 3 K0).trans k03
  replace k04 := (hc _ 4 K0).trans k04
  replace k05 := (hc _ 5 K0).trans k05
  replace k06 := (hc _ 6 K0).trans k06
  replace k07 := (hc _ 7 K0).trans k07
  replace k08 := (hc _ 8 K0).trans k08
  replace FV := Lib.hid (RowAt.below FV.out hb)
  replace HT := Lib.hid (Tab.below HT.out hb)
  replace hG0 := Lib.hid (RowAt.below hG0.out hb)
  replace L0 := Nat.lt_of_lt_of_le L0 hz
  replace K0 := Nat.lt_of_lt_of_le K0 hz
  clear hc hf hz hb
  go_wp2_with fail
  go_cut [26] (fun s26 wx => s26 = .bool false ∧ Below V5.heap.size V5 wx)
  case first =>
    go_region_held3 (fun wx => Below V5.heap.size V5 wx ∧ ∀ b o, b < V5.heap.size → wx.cell? ⟨b, o, none⟩ = V5.cell? ⟨b, o, none⟩)
      (first | with_reducible exact held_step (by assumption) hb | with_reducible exact held_start _ _ | with_reducible exact held_begin _)
      (first | (go_at_call 17; refine (toCourse_c x0 x1 x2 x3 x4 x5 x6 x7 a0 cap0 l _ hl1 (FV.out.below (And.left (by with_reducible assumption)))).mono ?_; rintro e w1 ⟨⟨g, rfl, hg, hlg⟩, hb⟩; have hz := held_size (by with_reducible assumption) hb; (try simp at hz); have hs := hb.size; (try simp at hs)) | (go_at_call 19; refine (eqCourse_same x0 x1 x2 x3 x4 x5 x6 x7 _ _ _ _ l _ hl3 (hG0.out.below (And.left (by with_reducible assumption))) (RowAt.below (rowAt_own (by assumption)) (by repeat (first | with_reducible exact Below.refl _ _ | with_reducible assumption | with_reducible refine Below.drew ?_ | with_reducible refine Below.alloc ?_ (by first | exact Nat.le_refl _ | (simp; done) | (simp; omega) | omega) _ | with_reducible refine Below.setCell ?_ (by first | exact Nat.le_refl _ | (simp; done) | (simp; omega) | omega) _ | with_reducible refine Below.trans ?_ (Below.mono (by with_reducible assumption) (by first | exact Nat.le_refl _ | (simp; done) | (simp; omega) | omega)))))).mono ?_; rintro e w1 ⟨rfl, hb⟩; have hz := held_size (by with_reducible assumption) hb; (try simp at hz); have hs := hb.size; (try simp at hs)))
    all_goals go_wp2_with fail
    all_goals (go_meet; exact ⟨rfl, And.left (by with_reducible assumption)⟩)
  case rest =>
    obtain ⟨rfl, hb⟩ := hcut
    obtain ⟨V6, rfl⟩ : ∃ x : World, x = wc := ⟨_, rfl⟩
    replace HD := HD.trans (hb.mono HD.size)
    obtain ⟨hc, hf⟩ := bcell hb
    have hz := hb.size
    replace b00 := (hc _ 0 L0).trans b00
    replace b01 := (hc _ 1 L0).trans b01
    replace b02 := (hc _ 2 L0).trans b02
    replace b03 := (hc _ 3 L0).trans b03
    replace b04 := (hc _ 4 L0).trans b04
    replace b05 := (hc _ 5 L0).trans b05
    replace b06 := (hc _ 6 L0).trans b06
    replace b07 := (hc _ 7 L0).trans b07
    replace b08 := (hc _ 8 L0).trans b08
    replace k00 := (hc _ 0 K0).trans k00
    replace k01 := (hc _ 1 K0).trans k01
    replace k02 := (hc _ 2 K0).trans k02
    replace k03 := (hc _ 3 K0).trans k03
    replace k04 := (hc _ 4 K0).trans k04
    replace k05 := (hc _ 5 K0).trans k05
    replace k06 := (hc _ 6 K0).trans k06
    replace k07 := (hc _ 7 K0).trans k07
    replace k08 := (hc _ 8 K0).trans k08
    replace FV := Lib.hid (RowAt.below FV.out hb)
    replace HT := Lib.hid (Tab.below HT.out hb)
    replace hG0 := Lib.hid (RowAt.below hG0.out hb)
    replace L0 := Nat.lt_of_lt_of_le L0 hz
    replace K0 := Nat.lt_of_lt_of_le K0 hz
    clear hc hf hz hb
    go_wp2_with fail
    go_ret
    exact ⟨rfl, HD⟩

theorem own : ownKnob Tryd.prog.godebug = none := by kernel_rfl
theorem laidOut : laidOutB Tryd.prog = true := by kernel_rfl
set_option maxRecDepth 100000 in
theorem lifted (os : Os) (started : os.Started) (H : Type) (enc : TypeId × Value → H) :
    ReturnsInHanded {} Tryd.checked os 6 .any (fun w args => (Rows.fnExactCourseTextSpec.pre enc Tryd.prog Tryd.f6 Rows.fnExactCourseTextRow.domain false w args ∧ laidMetH Tryd.prog Rows.fnExactCourseTextRow.laid w) ∧ sizedMet enc Tryd.prog Tryd.f6 (OpenSpec.ofChange Rows.fnExactCourseTextSpec) false w args)
      (Rows.fnExactCourseTextSpec.post enc Tryd.prog Tryd.f6 false true false false) := by
  refine returnsInHanded_of_change_and (C := Tryd.checked) (X := fun w _ => laidMetH Tryd.prog Rows.fnExactCourseTextRow.laid w) (fun _ _ _ hh h => h.of_heap hh) own started (by kernel_rfl) Tryd.func6
    (ChangeSpec.witness_shaped (enc := enc) (C := Tryd.checked) (os := os) (X := fun w _ => laidMetH Tryd.prog Rows.fnExactCourseTextRow.laid w) false (World.laidAll Tryd.prog os Rows.fnExactCourseTextRow.laid) #[.agg #[.int .i64 0, .int .i64 0, .int .i64 0, .int .i64 0, .int .i64 0, .int .i64 0, .int .i64 0, .int .i64 0, .slice none 0 0]] 8 (World.laidAll_os _ _ _)
      (World.shaped_of_ZipB (by kernel_rfl) (by kernel_rfl)) (by kernel_rfl) (by kernel_rfl) (by kernel_rfl)
      (by rw [MakeChecks.laidMetH_plain _ _ _ (by kernel_rfl)]; exact laidMet_laidAll _ (by kernel_rfl) (by kernel_rfl))) ?_
  intro W base args ds gs before hval0 hW _ _ hLaid _
  have hval : ∀ (j : Nat) t v, Tryd.f6.params[j]? = some t → args[j]? = some v → Value.okWide Tryd.prog W .any base t v := hval0
  have hW' := hW
  obtain ⟨p, q, hA0, hV, rfl, hfz, hnd⟩ := hW
  have hA : DataW.TrodAll enc Tryd.prog W 0 (fun _ => true) true Tryd.f6.params.toList args.toList ds p := hA0
  rw [Tryd.params6] at hA hval
  obtain ⟨v0, vs0, d0, ds0, p0, q0, hargs, rfl, rfl, h0, r0⟩ := trodAll_cons hA
  obtain ⟨rfl, rfl, rfl⟩ := trodAll_nil r0
  obtain rfl : args = #[v0] := by cases args; simp_all
  obtain ⟨rfl, rfl⟩ := trodVars_none hV
  have k0 := h0
  have lt0 : ∀ x ∈ p0, x.block < W.heap.size := by obtain ⟨m, hm⟩ := k0; exact DataW.trod_lt m _ _ _ hm
  obtain ⟨c0x0, c0x1, c0x2, c0x3, c0x4, c0x5, c0x6, c0x7, ⟨a0, cap0⟩, l0, rfl, w0⟩ := open_course (hval 0 38 v0 rfl rfl) h0
  clear hA0 hval0
  refine (walk c0x0 c0x1 c0x2 c0x3 c0x4 c0x5 c0x6 c0x7 a0 cap0 l0 W w0 (tabOf hLaid)).mono fun e W' ⟨he, bel⟩ => ?_
  subst he
  exact ⟨_, rfl, _, _, _, [], _, [], hW', trodAll_mk1 (shut_bool Tryd.underlying4 _), (trodAll_cons_mk (Below.trod laidOut (by kernel_rfl) (of_decide_eq_true (by kernel_rfl)) k0 bel lt0) trodAll_mk0), rfl, bel.frame _, fun h => by cases h⟩

theorem over : Rows.fnExactCourseTextRow.holds Tryd.pinned (OpenSpec.ofChange Rows.fnExactCourseTextSpec) :=
  OpenClaim.holds_of_wide 6 Tryd.f6 rfl rfl rfl rfl rfl rfl rfl ⟨rfl, rfl, rfl, rfl, rfl⟩ rfl rfl rfl rfl rfl (by kernel_rfl) Tryd.func6 (by kernel_rfl)
    (of_decide_eq_true (by kernel_rfl)) (by unfold Func.isWrapper; first | (rw [if_pos (by decide +kernel)]; kernel_rfl) | (rw [if_neg (by decide +kernel)]; exact ⟨rfl, rfl⟩))
    (fun os started H enc _ => lifted os started H enc)

theorem carded : Rows.FnExactCourseTextCardSaid :=
  Claim7.holds_tied_plain_at .later [] [.data, .data, .data, .data, .pinned] true (true, "ed96ea063d2c200333f753eab7cef21ae3ac934f090119a8d0bdc4f41c124830") true over (fun _ h => by cases h) (by kernel_rfl) (fun _ h => by cases h) fnExactCourseText_row_tie rfl ⟨rfl, rfl⟩ (by kernel_rfl) rfl
    (fun f fn hf hfn => by
      obtain rfl : f = 6 := Option.some.inj ((show Tryd.prog.funcNamed "loop.example/g00887/laws.FnExactCourseText" = some 6 by kernel_rfl).symm.trans hf) |>.symm
      obtain rfl : fn = Tryd.f6 := (Option.some.inj (Tryd.func6.symm.trans hfn)).symm
      exact ⟨by kernel_rfl, fun j t ht => by
        rw [Tryd.params6] at ht
        have hm : t ∈ [38] := by simpa using Array.mem_of_getElem? ht
        have hall : ([38].all fun u => !Tryd.prog.wantsStandIn u) = true := by kernel_rfl
        exact (show Tryd.prog.wantsStandIn t = false by simpa using List.all_eq_true.1 hall t hm)⟩)
    (by kernel_rfl)

/-- The statement. -/
theorem proved : Rows.FnExactCourseTextCardSaid := carded
end Go.Proofs.YtjgndfphbmkhaaaDoor.courseText
