/-
  FnExactReachedAt: for all arguments the program's function answers as the reference's and leaves its argument as it was. No condition.
-/
import Derived.Test.YthgngpmeaobidaaGreatDoorRows
import Derived.Test.YthgngpmeaobidaaGreatDoorTie
import Derived.Test.YthgngpmeaobidaaGreatDoorCards
import Derived.LaidMore
import Derived.Lay
import Derived.SevenTiedAt
import Derived.Test.YthgngpmeaobidaaGreatDoorCrsS
namespace Go.Proofs.YthgngpmeaobidaaGreatDoor.reachedAt
open Go.ChangeShapes Go.WideShapes Go.ChangeAt Go.RowKit Go.Deep
open Go.ChangeMaps (open_string shut_string)
set_option linter.unusedVariables false

set_option maxRecDepth 100000 in
set_option maxHeartbeats 4000000 in
theorem walk (x0 x1 x2 x3 x4 x5 x6 x7 : Int) (a0 : Option Addr) (cap0 : Nat) (l : List Mk) (a1 : Option Addr) (cap1 : Nat) (q : List Fx) (t : Int) (w : World) (w0 : l.length ≤ 9223372036854775807 ∧ RowAt w a0 (mflat l) ∧ (∀ i, i < l.length → (mk l i).name.size ≤ maxLen)) (w1 : q.length ≤ 9223372036854775807 ∧ FixAt w a1 q) (vt : (Lit.int .i64 t).wf = true) :
    Calls Tryz.prog 4 #[.agg #[.int .i64 x0, .int .i64 x1, .int .i64 x2, .int .i64 x3, .int .i64 x4, .int .i64 x5, .int .i64 x6, .int .i64 x7, .slice a0 l.length cap0], .agg #[.slice a1 q.length cap1], .int .i64 t] w fun e w' => e = .returned (.bool true) ∧ Below w.heap.size w w' := by
  obtain ⟨hl0, hf0, hs0⟩ := w0
  have HS := Lib.hid hs0
  clear hs0
  replace hf0 := Lib.hid hf0
  clear vt
  obtain ⟨hq0, hf1⟩ := w1
  replace hf1 := Lib.hid hf1
  go_enter Tryz.func4, Tryz.ntmps4
  go_wp2_with fail
  obtain ⟨W, hW⟩ : ∃ W, W = ((w.alloc (.cells #[.int .i64 x0, .int .i64 x1, .int .i64 x2, .int .i64 x3, .int .i64 x4, .int .i64 x5, .int .i64 x6, .int .i64 x7, .slice a0 l.length cap0] 28)).alloc (.cells #[.slice a1 q.length cap1] 31)) := ⟨_, rfl⟩
  have HD : Below w.heap.size w W := by subst hW; exact (by repeat (first | with_reducible exact Below.refl _ _ | with_reducible assumption | with_reducible refine Below.drew ?_ | with_reducible refine Below.alloc ?_ (by first | exact Nat.le_refl _ | (simp; done) | (simp; omega) | omega) _ | with_reducible refine Below.setCell ?_ (by first | exact Nat.le_refl _ | (simp; done) | (simp; omega) | omega) _ | with_reducible refine Below.trans ?_ (Below.mono (by with_reducible assumption) (by first | exact Nat.le_refl _ | (simp; done) | (simp; omega) | omega))))
  have b00 : W.cell? ⟨w.heap.size, 0, none⟩ = some (.int .i64 x0) := by subst hW; simp [go_sem]
  have b01 : W.cell? ⟨w.heap.size, 1, none⟩ = some (.int .i64 x1) := by subst hW; simp [go_sem]
  have b02 : W.cell? ⟨w.heap.size, 2, none⟩ = some (.int .i64 x2) := by subst hW; simp [go_sem]
  have b03 : W.cell? ⟨w.heap.size, 3, none⟩ = some (.int .i64 x3) := by subst hW; simp [go_sem]
  have b04 : W.cell? ⟨w.heap.size, 4, none⟩ = some (.int .i64 x4) := by subst hW; simp [go_sem]
  have b05 : W.cell? ⟨w.heap.size, 5, none⟩ = some (.int .i64 x5) := by subst hW; simp [go_sem]
  have b06 : W.cell? ⟨w.heap.size, 6, none⟩ = some (.int .i64 x6) := by subst hW; simp [go_sem]
  have b07 : W.cell? ⟨w.heap.size, 7, none⟩ = some (.int .i64 x7) := by subst hW; simp [go_sem]
  have b08 : W.cell? ⟨w.heap.size, 8, none⟩ = some (.slice a0 l.length cap0) := by subst hW; simp [go_sem]
  have L0 : w.heap.size < W.heap.size := by subst hW; first | (simp; done) | (simp; omega)
  have b10 : W.cell? ⟨w.heap.size + 1, 0, none⟩ = some (.slice a1 q.length cap1) := by subst hW; simp [go_sem]
  have L1 : w.heap.size + 1 < W.heap.size := by subst hW; first | (simp; done) | (simp; omega)
  rw [← hW]
  clear hW
  generalize w.heap.size + 1 = B1 at *
  obtain ⟨B0, hB0⟩ : ∃ B, B = w.heap.size := ⟨_, rfl⟩
  rw [← hB0] at b00 b01 b02 b03 b04 b05 b06 b07 b08 L0
  try rw [← hB0]
  replace hB0 := Lib.hid hB0
  have FV := Lib.hid (hf0.out.below HD)
  have FT := Lib.hid (FixAt.below hf1.out HD)
  clear hf0 hf1
  refine (szCourseB_c x0 x1 x2 x3 x4 x5 x6 x7 a0 cap0 l 1048576 W hl0 FV.out HS.out (by omega) (by omega)).mono ?_
  rintro e V1 ⟨⟨z, rfl, hz0, hz1⟩, hb⟩
  replace HD := HD.trans (hb.mono HD.size)
  obtain ⟨hc, hf⟩ := bcell hb
  have hz := hb.size
  replace b00 := (hc _ 0 L0).trans b00
  replace b01 := (hc _ 1 L0).trans b01
  replace b02 := (hc _ 2 L0).trans b02
  replace b03 := (hc _ 3 L0).trans b03
  replace b04 := (hc _ 4 L0).trans b04
  replace b05 := (hc _ 5 L0).trans b05
  replace b06 := (hc _ 6 L0).trans b06
  replace b07 := (hc _ 7 L0).trans b07
  replace b08 := (hc _ 8 L0).trans b08
  replace b10 := (hc _ 0 L1).trans b10
  replace FV := Lib.hid (RowAt.below FV.out hb)
  replace FT := Lib.hid (FixAt.below FT.out hb)
  replace L0 := Nat.lt_of_lt_of_le L0 hz
  replace L1 := Nat.lt_of_lt_of_le L1 hz
  clear hc hf hz hb
  by_cases hn : z < 0
  case pos =>
    go_wp2_with fail
    go_ret
    exact ⟨rfl, HD⟩
  have hl9 := hz0 (by omega)
  have hl1 : l.length ≤ 1048576 := by omega
  have hl2 : l.length ≤ 4611686018427387904 := by omega
  have hl3 : l.length ≤ 9223372036854775807 := by omega
  have hzz : 0 ≤ z := by omega
  clear hl9 hz0
  go_wp2_with fail
  have cz := szTrack_c a1 q.length cap1 z V1 hq0 hzz hz1
  by_cases hn2 : (q.length : Int) ≤ z
  case neg =>
    rw [if_neg hn2] at cz
    refine cz.mono ?_
    rintro e V2 ⟨rfl, hb⟩
    go_wp2_with fail
    go_ret
    exact ⟨rfl, HD.trans (hb.mono HD.size)⟩
  rw [if_pos hn2] at cz
  have hq1 : q.length ≤ 1048576 := by omega
  have hq2 : q.length ≤ 4611686018427387904 := by omega
  have hnz : ¬ z - (q.length : Int) < 0 := by omega
  refine (cz).mono ?_
  rintro e V2 ⟨rfl, hb⟩
  clear cz
  replace HD := HD.trans (hb.mono HD.size)
  obtain ⟨hc, hf⟩ := bcell hb
  have hz := hb.size
  replace b00 := (hc _ 0 L0).trans b00
  replace b01 := (hc _ 1 L0).trans b01
  replace b02 := (hc _ 2 L0).trans b02
  replace b03 := (hc _ 3 L0).trans b03
  replace b04 := (hc _ 4 L0).trans b04
  replace b05 := (hc _ 5 L0).trans b05
  replace b06 := (hc _ 6 L0).trans b06
  replace b07 := (hc _ 7 L0).trans b07
  replace b08 := (hc _ 8 L0).trans b08
  replace b10 := (hc _ 0 L1).trans b10
  replace FV := Lib.hid (RowAt.below FV.out hb)
  replace FT := Lib.hid (FixAt.below FT.out hb)
  replace L0 := Nat.lt_of_lt_of_le L0 hz
  replace L1 := Nat.lt_of_lt_of_le L1 hz
  clear hc hf hz hb
  generalize z - (q.length : Int) = z2 at *
  clear hn hn2 hzz hz1
  go_wp2_with fail
  have cs := fun g g' w h hf => ReachedAtS_c x0 x1 x2 x3 x4 x5 x6 x7 (some ⟨g, 0, none⟩) l.length l (some ⟨g', 0, none⟩) q.length q t w hl2 h HS.out hq2 hf
  have ci := fun g g' w h hf => ReachedAt_c x0 x1 x2 x3 x4 x5 x6 x7 (some ⟨g, 0, none⟩) l.length l (some ⟨g', 0, none⟩) q.length q t w hl2 h HS.out (Nat.le_refl _) hq2 hf
  generalize (rchR x0 x1 x2 x3 x4 x5 x6 x7 l q t).1 = R1 at *
  generalize (rchR x0 x1 x2 x3 x4 x5 x6 x7 l q t).2 = R2 at *
  have CS := Lib.hid cs
  have CI := Lib.hid ci
  clear cs ci
  go_cut [8, 9] (fun s8 s9 wx => s8 = .int .i64 R1 ∧ s9 = .int .i64 R2 ∧ Below V2.heap.size V2 wx)
  case first =>
    go_region_held3 (fun wx => Below V2.heap.size V2 wx ∧ ∀ b o, b < V2.heap.size → wx.cell? ⟨b, o, none⟩ = V2.cell? ⟨b, o, none⟩)
      (first | with_reducible exact held_step (by assumption) hb | with_reducible exact held_start _ _ | with_reducible exact held_begin _)
      (first | (go_at_call 8; refine (toCourse_c x0 x1 x2 x3 x4 x5 x6 x7 a0 cap0 l _ hl1 (FV.out.below (And.left (by with_reducible assumption)))).mono ?_; rintro e w1 ⟨⟨g, rfl, hg, hlg⟩, hb⟩; have hz := held_size (by with_reducible assumption) hb; (try simp at hz); have hs := hb.size; (try simp at hs)) | (go_at_call 9; refine (toTrack_c a1 cap1 q _ hq1 (FixAt.below FT.out (And.left (by with_reducible assumption)))).mono ?_; rintro e w1 ⟨⟨g, rfl, hg, hlg⟩, hb⟩; have hz := held_size (by with_reducible assumption) hb; (try simp at hz); have hs := hb.size; (try simp at hs)) | (go_at_call 13; refine (CS.out _ _ _ (RowAt.below (rowAt_own (by assumption)) (by repeat (first | with_reducible exact Below.refl _ _ | with_reducible assumption | with_reducible refine Below.drew ?_ | with_reducible refine Below.alloc ?_ (by first | exact Nat.le_refl _ | (simp; done) | (simp; omega) | omega) _ | with_reducible refine Below.setCell ?_ (by first | exact Nat.le_refl _ | (simp; done) | (simp; omega) | omega) _ | with_reducible refine Below.trans ?_ (Below.mono (by with_reducible assumption) (by first | exact Nat.le_refl _ | (simp; done) | (simp; omega) | omega))))) (FixAt.below (FixBlk.at (by assumption)) (by repeat (first | with_reducible exact Below.refl _ _ | with_reducible assumption | with_reducible refine Below.drew ?_ | with_reducible refine Below.alloc ?_ (by first | exact Nat.le_refl _ | (simp; done) | (simp; omega) | omega) _ | with_reducible refine Below.setCell ?_ (by first | exact Nat.le_refl _ | (simp; done) | (simp; omega) | omega) _ | with_reducible refine Below.trans ?_ (Below.mono (by with_reducible assumption) (by first | exact Nat.le_refl _ | (simp; done) | (simp; omega) | omega)))))).mono ?_; rintro e w1 ⟨rfl, hb⟩; have hz := held_size (by with_reducible assumption) hb; (try simp at hz); have hs := hb.size; (try simp at hs)))
    all_goals go_wp2_with fail
    all_goals (go_meet; exact ⟨rfl, rfl, And.left (by with_reducible assumption)⟩)
  case rest =>
    obtain ⟨rfl, rfl, hb⟩ := hcut
    obtain ⟨V3, rfl⟩ : ∃ x : World, x = wc := ⟨_, rfl⟩
    replace HD := HD.trans (hb.mono HD.size)
    obtain ⟨hc, hf⟩ := bcell hb
    have hz := hb.size
    replace b00 := (hc _ 0 L0).trans b00
    replace b01 := (hc _ 1 L0).trans b01
    replace b02 := (hc _ 2 L0).trans b02
    replace b03 := (hc _ 3 L0).trans b03
    replace b04 := (hc _ 4 L0).trans b04
    replace b05 := (hc _ 5 L0).trans b05
    replace b06 := (hc _ 6 L0).trans b06
    replace b07 := (hc _ 7 L0).trans b07
    replace b08 := (hc _ 8 L0).trans b08
    replace b10 := (hc _ 0 L1).trans b10
    replace FV := Lib.hid (RowAt.below FV.out hb)
    replace FT := Lib.hid (FixAt.below FT.out hb)
    replace L0 := Nat.lt_of_lt_of_le L0 hz
    replace L1 := Nat.lt_of_lt_of_le L1 hz
    clear hc hf hz hb
    go_wp2_with fail
    refine (toCourse_c x0 x1 x2 x3 x4 x5 x6 x7 a0 cap0 l V3 hl1 FV.out).mono ?_
    rintro e V4 ⟨⟨g0, rfl, hg, hlg⟩, hb⟩
    have hG0 := Lib.hid (rowAt_own hg)
    clear hg hlg
    replace HD := HD.trans (hb.mono HD.size)
    obtain ⟨hc, hf⟩ := bcell hb
    have hz := hb.size
    replace b00 := (hc _ 0 L0).trans b00
    replace b01 := (hc _ 1 L0).trans b01
    replace b02 := (hc _ 2 L0).trans b02
    replace b03 := (hc _ 3 L0).trans b03
    replace b04 := (hc _ 4 L0).trans b04
    replace b05 := (hc _ 5 L0).trans b05
    replace b06 := (hc _ 6 L0).trans b06
    replace b07 := (hc _ 7 L0).trans b07
    replace b08 := (hc _ 8 L0).trans b08
    replace b10 := (hc _ 0 L1).trans b10
    replace FV := Lib.hid (RowAt.below FV.out hb)
    replace FT := Lib.hid (FixAt.below FT.out hb)
    replace L0 := Nat.lt_of_lt_of_le L0 hz
    replace L1 := Nat.lt_of_lt_of_le L1 hz
    clear hc hf hz hb
    go_wp2_with fail
    obtain ⟨V5, hV5⟩ : ∃ x, x = V4.alloc (.cells #[.int .i64 x0, .int .i64 x1, .int .i64 x2, .int .i64 x3, .int .i64 x4, .int .i64 x5, .int .i64 x6, .int .i64 x7, .slice (some ⟨g0, 0, none⟩) l.length l.length] 41) := ⟨_, rfl⟩
    have hb : Below V4.heap.size V4 V5 := by subst hV5; exact (Below.refl _ _).alloc (Nat.le_refl _) _
    have k20 : V5.cell? ⟨V4.heap.size, 0, none⟩ = some (.int .i64 x0) := by subst hV5; simp [go_sem]
    have k21 : V5.cell? ⟨V4.heap.size, 1, none⟩ = some (.int .i64 x1) := by subst hV5; simp [go_sem]
    have k22 : V5.cell? ⟨V4.heap.size, 2, none⟩ = some (.int .i64 x2) := by subst hV5; simp [go_sem]
    have k23 : V5.cell? ⟨V4.heap.size, 3, none⟩ = some (.int .i64 x3) := by subst hV5; simp [go_sem]
    have k24 : V5.cell? ⟨V4.heap.size, 4, none⟩ = some (.int .i64 x4) := by subst hV5; simp [go_sem]
    have k25 : V5.cell? ⟨V4.heap.size, 5, none⟩ = some (.int .i64 x5) := by subst hV5; simp [go_sem]
    have k26 : V5.cell? ⟨V4.heap.size, 6, none⟩ = some (.int .i64 x6) := by subst hV5; simp [go_sem]
    have k27 : V5.cell? ⟨V4.heap.size, 7, none⟩ = some (.int .i64 x7) := by subst hV5; simp [go_sem]
    have k28 : V5.cell? ⟨V4.heap.size, 8, none⟩ = some (.slice (some ⟨g0, 0, none⟩) l.length l.length) := by subst hV5; simp [go_sem]
    have K2 : V4.heap.size < V5.heap.size := by subst hV5; simp
    have hS2 := Lib.hid (show V5.heap.size = V4.heap.size + 1 by subst hV5; simp)
    rw [← hV5]
    clear hV5
    replace HD := HD.trans (hb.mono HD.size)
    obtain ⟨hc, hf⟩ := bcell hb
    have hz := hb.size
    replace b00 := (hc _ 0 L0).trans b00
    replace b01 := (hc _ 1 L0).trans b01
    replace b02 := (hc _ 2 L0).trans b02
    replace b03 := (hc _ 3 L0).trans b03
    replace b04 := (hc _ 4 L0).trans b04
    replace b05 := (hc _ 5 L0).trans b05
    replace b06 := (hc _ 6 L0).trans b06
    replace b07 := (hc _ 7 L0).trans b07
    replace b08 := (hc _ 8 L0).trans b08
    replace b10 := (hc _ 0 L1).trans b10
    replace FV := Lib.hid (RowAt.below FV.out hb)
    replace FT := Lib.hid (FixAt.below FT.out hb)
    replace hG0 := Lib.hid (RowAt.below hG0.out hb)
    replace L0 := Nat.lt_of_lt_of_le L0 hz
    replace L1 := Nat.lt_of_lt_of_le L1 hz
    clear hc hf hz hb
    obtain ⟨C2, hC2⟩ : ∃ x, x = V4.heap.size := ⟨_, rfl⟩
    rw [← hC2] at k20 k21 k22 k23 k24 k25 k26 k27 k28 K2
    try rw [← hC2]
    replace hC2 := Lib.hid hC2
    go_wp2_with fail
    refine (toTrack_c a1 cap1 q V5 hq1 FT.out).mono ?_
    rintro e V6 ⟨⟨g1, rfl, hg, hlg⟩, hb⟩
    have hG1 := Lib.hid hg
    clear hg hlg
    replace HD := HD.trans (hb.mono HD.size)
    obtain ⟨hc, hf⟩ := bcell hb
    have hz := hb.size
    replace b00 := (hc _ 0 L0).trans b00
    replace b01 := (hc _ 1 L0).trans b01
    replace b02 := (hc _ 2 L0).trans b02
    replace b03 := (hc _ 3 L0).trans b03
    replace b04 := (hc _ 4 L0).trans b04
    replace b05 := (hc _ 5 L0).trans b05
    replace b06 := (hc _ 6 L0).trans b06
    replace b07 := (hc _ 7 L0).trans b07
    replace b08 := (hc _ 8 L0).trans b08
    replace b10 := (hc _ 0 L1).trans b10
    replace k20 := (hc _ 0 K2).trans k20
    replace k21 := (hc _ 1 K2).trans k21
    replace k22 := (hc _ 2 K2).trans k22
    replace k23 := (hc _ 3 K2).trans k23
    replace k24 := (hc _ 4 K2).trans k24
    replace k25 := (hc _ 5 K2).trans k25
    replace k26 := (hc _ 6 K2).trans k26
    replace k27 := (hc _ 7 K2).trans k27
    replace k28 := (hc _ 8 K2).trans k28
    replace FV := Lib.hid (RowAt.below FV.out hb)
    replace FT := Lib.hid (FixAt.below FT.out hb)
    replace hG0 := Lib.hid (RowAt.below hG0.out hb)
    replace L0 := Nat.lt_of_lt_of_le L0 hz
    replace L1 := Nat.lt_of_lt_of_le L1 hz
    replace K2 := Nat.lt_of_lt_of_le K2 hz
    clear hc hf hz hb
    go_wp2_with fail
    obtain ⟨V7, hV7⟩ : ∃ x, x = V6.alloc (.cells #[.slice (some ⟨g1, 0, none⟩) q.length q.length] 45) := ⟨_, rfl⟩
    have hb : Below V6.heap.size V6 V7 := by subst hV7; exact (Below.refl _ _).alloc (Nat.le_refl _) _
    have k30 : V7.cell? ⟨V6.heap.size, 0, none⟩ = some (.slice (some ⟨g1, 0, none⟩) q.length q.length) := by subst hV7; simp [go_sem]
    have K3 : V6.heap.size < V7.heap.size := by subst hV7; simp
    have hS3 := Lib.hid (show V7.heap.size = V6.heap.size + 1 by subst hV7; simp)
    rw [← hV7]
    clear hV7
    replace HD := HD.trans (hb.mono HD.size)
    obtain ⟨hc, hf⟩ := bcell hb
    have hz := hb.size
    replace b00 := (hc _ 0 L0).trans b00
    replace b01 := (hc _ 1 L0).trans b01
    replace b02 := (hc _ 2 L0).trans b02
    replace b03 := (hc _ 3 L0).trans b03
    replace b04 := (hc _ 4 L0).trans b04
    replace b05 := (hc _ 5 L0).trans b05
    replace b06 := (hc _ 6 L0).trans b06
    replace b07 := (hc _ 7 L0).trans b07
    replace b08 := (hc _ 8 L0).trans b08
    replace b10 := (hc _ 0 L1).trans b10
    replace k20 := (hc _ 0 K2).trans k20
    replace k21 := (hc _ 1 K2).trans k21
    replace k22 := (hc _ 2 K2).trans k22
    replace k23 := (hc _ 3 K2).trans k23
    replace k24 := (hc _ 4 K2).trans k24
    replace k25 := (hc _ 5 K2).trans k25
    replace k26 := (hc _ 6 K2).trans k26
    replace k27 := (hc _ 7 K2).trans k27
    replace k28 := (hc _ 8 K2).trans k28
    replace FV := Lib.hid (RowAt.below FV.out hb)
    replace FT := Lib.hid (FixAt.below FT.out hb)
    replace hG0 := Lib.hid (RowAt.below hG0.out hb)
    replace hG1 := Lib.hid (FixBlk.below hG1.out hb)
    replace L0 := Nat.lt_of_lt_of_le L0 hz
    replace L1 := Nat.lt_of_lt_of_le L1 hz
    replace K2 := Nat.lt_of_lt_of_le K2 hz
    clear hc hf hz hb
    obtain ⟨C3, hC3⟩ : ∃ x, x = V6.heap.size := ⟨_, rfl⟩
    rw [← hC3] at k30 K3
    try rw [← hC3]
    replace hC3 := Lib.hid hC3
    go_wp2_with fail
    refine (CI.out _ _ V7 hG0.out (FixBlk.at hG1.out)).mono ?_
    rintro e V8 ⟨rfl, hb⟩
    replace HD := HD.trans (hb.mono HD.size)
    obtain ⟨hc, hf⟩ := bcell hb
    have hz := hb.size
    replace b00 := (hc _ 0 L0).trans b00
    replace b01 := (hc _ 1 L0).trans b01
    replace b02 := (hc _ 2 L0).trans b02
    replace b03 := (hc _ 3 L0).trans b03
    replace b04 := (hc _ 4 L0).trans b04
    replace b05 := (hc _ 5 L0).trans b05
    replace b06 := (hc _ 6 L0).trans b06
    replace b07 := (hc _ 7 L0).trans b07
    replace b08 := (hc _ 8 L0).trans b08
    replace b10 := (hc _ 0 L1).trans b10
    replace k20 := (hc _ 0 K2).trans k20
    replace k21 := (hc _ 1 K2).trans k21
    replace k22 := (hc _ 2 K2).trans k22
    replace k23 := (hc _ 3 K2).trans k23
    replace k24 := (hc _ 4 K2).trans k24
    replace k25 := (hc _ 5 K2).trans k25
    replace k26 := (hc _ 6 K2).trans k26
    replace k27 := (hc _ 7 K2).trans k27
    replace k28 := (hc _ 8 K2).trans k28
    replace k30 := (hc _ 0 K3).trans k30
    replace FV := Lib.hid (RowAt.below FV.out hb)
    replace FT := Lib.hid (FixAt.below FT.out hb)
    replace hG0 := Lib.hid (RowAt.below hG0.out hb)
    replace hG1 := Lib.hid (FixBlk.below hG1.out hb)
    replace L0 := Nat.lt_of_lt_of_le L0 hz
    replace L1 := Nat.lt_of_lt_of_le L1 hz
    replace K2 := Nat.lt_of_lt_of_le K2 hz
    replace K3 := Nat.lt_of_lt_of_le K3 hz
    clear hc hf hz hb
    go_wp2_with fail
    go_cut [56] (fun s56 wx => s56 = .bool false ∧ Below V8.heap.size V8 wx)
    case first =>
      go_region_held3 (fun wx => Below V8.heap.size V8 wx ∧ ∀ b o, b < V8.heap.size → wx.cell? ⟨b, o, none⟩ = V8.cell? ⟨b, o, none⟩)
        (first | with_reducible exact held_step (by assumption) hb | with_reducible exact held_start _ _ | with_reducible exact held_begin _)
        (first | (go_at_call 8; refine (toCourse_c x0 x1 x2 x3 x4 x5 x6 x7 a0 cap0 l _ hl1 (FV.out.below (And.left (by with_reducible assumption)))).mono ?_; rintro e w1 ⟨⟨g, rfl, hg, hlg⟩, hb⟩; have hz := held_size (by with_reducible assumption) hb; (try simp at hz); have hs := hb.size; (try simp at hs)) | (go_at_call 11; refine (eqCourse_same x0 x1 x2 x3 x4 x5 x6 x7 _ _ _ _ l _ hl3 (hG0.out.below (And.left (by with_reducible assumption))) (RowAt.below (rowAt_own (by assumption)) (by repeat (first | with_reducible exact Below.refl _ _ | with_reducible assumption | with_reducible refine Below.drew ?_ | with_reducible refine Below.alloc ?_ (by first | exact Nat.le_refl _ | (simp; done) | (simp; omega) | omega) _ | with_reducible refine Below.setCell ?_ (by first | exact Nat.le_refl _ | (simp; done) | (simp; omega) | omega) _ | with_reducible refine Below.trans ?_ (Below.mono (by with_reducible assumption) (by first | exact Nat.le_refl _ | (simp; done) | (simp; omega) | omega)))))).mono ?_; rintro e w1 ⟨rfl, hb⟩; have hz := held_size (by with_reducible assumption) hb; (try simp at hz); have hs := hb.size; (try simp at hs)))
      all_goals go_wp2_with fail
      all_goals (go_meet; exact ⟨rfl, And.left (by with_reducible assumption)⟩)
    case rest =>
      obtain ⟨rfl, hb⟩ := hcut
      obtain ⟨V9, rfl⟩ : ∃ x : World, x = wc := ⟨_, rfl⟩
      replace HD := HD.trans (hb.mono HD.size)
      obtain ⟨hc, hf⟩ := bcell hb
      have hz := hb.size
      replace b00 := (hc _ 0 L0).trans b00
      replace b01 := (hc _ 1 L0).trans b01
      replace b02 := (hc _ 2 L0).trans b02
      replace b03 := (hc _ 3 L0).trans b03
      replace b04 := (hc _ 4 L0).trans b04
      replace b05 := (hc _ 5 L0).trans b05
      replace b06 := (hc _ 6 L0).trans b06
      replace b07 := (hc _ 7 L0).trans b07
      replace b08 := (hc _ 8 L0).trans b08
      replace b10 := (hc _ 0 L1).trans b10
      replace k20 := (hc _ 0 K2).trans k20
      replace k21 := (hc _ 1 K2).trans k21
      replace k22 := (hc _ 2 K2).trans k22
      replace k23 := (hc _ 3 K2).trans k23
      replace k24 := (hc _ 4 K2).trans k24
      replace k25 := (hc _ 5 K2).trans k25
      replace k26 := (hc _ 6 K2).trans k26
      replace k27 := (hc _ 7 K2).trans k27
      replace k28 := (hc _ 8 K2).trans k28
      replace k30 := (hc _ 0 K3).trans k30
      replace FV := Lib.hid (RowAt.below FV.out hb)
      replace FT := Lib.hid (FixAt.below FT.out hb)
      replace hG0 := Lib.hid (RowAt.below hG0.out hb)
      replace hG1 := Lib.hid (FixBlk.below hG1.out hb)
      replace L0 := Nat.lt_of_lt_of_le L0 hz
      replace L1 := Nat.lt_of_lt_of_le L1 hz
      replace K2 := Nat.lt_of_lt_of_le K2 hz
      replace K3 := Nat.lt_of_lt_of_le K3 hz
      clear hc hf hz hb
      go_wp2_with fail
      go_cut [61] (fun s61 wx => s61 = .bool false ∧ Below V9.heap.size V9 wx)
      case first =>
        go_region_held3 (fun wx => Below V9.heap.size V9 wx ∧ ∀ b o, b < V9.heap.size → wx.cell? ⟨b, o, none⟩ = V9.cell? ⟨b, o, none⟩)
          (first | with_reducible exact held_step (by assumption) hb | with_reducible exact held_start _ _ | with_reducible exact held_begin _)
          (first | (go_at_call 9; refine (toTrack_c a1 cap1 q _ hq1 (FixAt.below FT.out (And.left (by with_reducible assumption)))).mono ?_; rintro e w1 ⟨⟨g, rfl, hg, hlg⟩, hb⟩; have hz := held_size (by with_reducible assumption) hb; (try simp at hz); have hs := hb.size; (try simp at hs)) | (go_at_call 12; refine (eqTrack_c _ _ _ _ q _ hq2 (FixAt.below (FixBlk.at hG1.out) (And.left (by with_reducible assumption))) (FixBlk.at (by assumption))).mono ?_; rintro e w1 ⟨rfl, hb⟩; have hz := held_size (by with_reducible assumption) hb; (try simp at hz); have hs := hb.size; (try simp at hs)))
        all_goals go_wp2_with fail
        all_goals (go_meet; exact ⟨rfl, And.left (by with_reducible assumption)⟩)
      case rest =>
        obtain ⟨rfl, hb⟩ := hcut
        obtain ⟨V10, rfl⟩ : ∃ x : World, x = wc := ⟨_, rfl⟩
        replace HD := HD.trans (hb.mono HD.size)
        obtain ⟨hc, hf⟩ := bcell hb
        have hz := hb.size
        replace b00 := (hc _ 0 L0).trans b00
        replace b01 := (hc _ 1 L0).trans b01
        replace b02 := (hc _ 2 L0).trans b02
        replace b03 := (hc _ 3 L0).trans b03
        replace b04 := (hc _ 4 L0).trans b04
        replace b05 := (hc _ 5 L0).trans b05
        replace b06 := (hc _ 6 L0).trans b06
        replace b07 := (hc _ 7 L0).trans b07
        replace b08 := (hc _ 8 L0).trans b08
        replace b10 := (hc _ 0 L1).trans b10
        replace k20 := (hc _ 0 K2).trans k20
        replace k21 := (hc _ 1 K2).trans k21
        replace k22 := (hc _ 2 K2).trans k22
        replace k23 := (hc _ 3 K2).trans k23
        replace k24 := (hc _ 4 K2).trans k24
        replace k25 := (hc _ 5 K2).trans k25
        replace k26 := (hc _ 6 K2).trans k26
        replace k27 := (hc _ 7 K2).trans k27
        replace k28 := (hc _ 8 K2).trans k28
        replace k30 := (hc _ 0 K3).trans k30
        replace FV := Lib.hid (RowAt.below FV.out hb)
        replace FT := Lib.hid (FixAt.below FT.out hb)
        replace hG0 := Lib.hid (RowAt.below hG0.out hb)
        replace hG1 := Lib.hid (FixBlk.below hG1.out hb)
        replace L0 := Nat.lt_of_lt_of_le L0 hz
        replace L1 := Nat.lt_of_lt_of_le L1 hz
        replace K2 := Nat.lt_of_lt_of_le K2 hz
        replace K3 := Nat.lt_of_lt_of_le K3 hz
        clear hc hf hz hb
        go_wp2_with fail
        go_ret
        exact ⟨rfl, HD⟩

theorem own : ownKnob Tryz.prog.godebug = none := by kernel_rfl
theorem laidOut : laidOutB Tryz.prog = true := by kernel_rfl
set_option maxRecDepth 100000 in
theorem lifted (os : Os) (started : os.Started) (H : Type) (enc : TypeId × Value → H) :
    ReturnsInHanded {} Tryz.checked os 4 .any (fun w args => (Rows.fnExactReachedAtSpec.pre enc Tryz.prog Tryz.f4 Rows.fnExactReachedAtRow.domain false w args ∧ laidMetH Tryz.prog Rows.fnExactReachedAtRow.laid w) ∧ sizedMet enc Tryz.prog Tryz.f4 (OpenSpec.ofChange Rows.fnExactReachedAtSpec) false w args)
      (Rows.fnExactReachedAtSpec.post enc Tryz.prog Tryz.f4 false true false false) := by
  refine returnsInHanded_of_change_and (C := Tryz.checked) (X := fun w _ => laidMetH Tryz.prog Rows.fnExactReachedAtRow.laid w) (fun _ _ _ hh h => h.of_heap hh) own started (by kernel_rfl) Tryz.func4
    (ChangeSpec.witness_shaped (enc := enc) (C := Tryz.checked) (os := os) (X := fun w _ => laidMetH Tryz.prog Rows.fnExactReachedAtRow.laid w) false (World.laidAll Tryz.prog os Rows.fnExactReachedAtRow.laid) #[.agg #[.int .i64 0, .int .i64 0, .int .i64 0, .int .i64 0, .int .i64 0, .int .i64 0, .int .i64 0, .int .i64 0, .slice none 0 0], .agg #[.slice none 0 0], .int .i64 0] 8 (World.laidAll_os _ _ _)
      (World.shaped_of_ZipB (by kernel_rfl) (by kernel_rfl)) (by kernel_rfl) (by kernel_rfl) (by kernel_rfl)
      (by rw [MakeChecks.laidMetH_plain _ _ _ (by kernel_rfl)]; exact laidMet_laidAll _ (by kernel_rfl) (by kernel_rfl))) ?_
  intro W base args ds gs before hval0 hW _ _ _ _
  have hval : ∀ (j : Nat) t v, Tryz.f4.params[j]? = some t → args[j]? = some v → Value.okWide Tryz.prog W .any base t v := hval0
  have hW' := hW
  obtain ⟨p, q, hA0, hV, rfl, hfz, hnd⟩ := hW
  have hA : DataW.TrodAll enc Tryz.prog W 0 (fun _ => true) true Tryz.f4.params.toList args.toList ds p := hA0
  rw [Tryz.params4] at hA hval
  obtain ⟨v0, vs0, d0, ds0, p0, q0, hargs, rfl, rfl, h0, r0⟩ := trodAll_cons hA
  obtain ⟨v1, vs1, d1, ds1, p1, q1, rfl, rfl, rfl, h1, r1⟩ := trodAll_cons r0
  obtain ⟨v2, vs2, d2, ds2, p2, q2, rfl, rfl, rfl, h2, r2⟩ := trodAll_cons r1
  obtain ⟨rfl, rfl, rfl⟩ := trodAll_nil r2
  obtain rfl : args = #[v0, v1, v2] := by cases args; simp_all
  obtain ⟨rfl, rfl⟩ := trodVars_none hV
  have k0 := h0
  have lt0 : ∀ x ∈ p0, x.block < W.heap.size := by obtain ⟨m, hm⟩ := k0; exact DataW.trod_lt m _ _ _ hm
  obtain ⟨c0x0, c0x1, c0x2, c0x3, c0x4, c0x5, c0x6, c0x7, ⟨a0, cap0⟩, l0, rfl, w0⟩ := open_course (hval 0 28 v0 rfl rfl) h0
  have k1 := h1
  have lt1 : ∀ x ∈ p1, x.block < W.heap.size := by obtain ⟨m, hm⟩ := k1; exact DataW.trod_lt m _ _ _ hm
  obtain ⟨⟨a1, cap1⟩, l1, rfl, w1⟩ := open_track (n := 0) Tryz.underlying31 Tryz.underlying29 Tryz.underlying88 (by kernel_rfl) (by kernel_rfl) (by kernel_rfl) ⟨by kernel_rfl, by kernel_rfl⟩ (hval 1 31 v1 rfl rfl) h1
  obtain ⟨a2, rfl, rfl, rfl, w2⟩ := open_int Tryz.underlying2 (hval 2 2 v2 rfl rfl) h2
  clear hA0 hval0
  refine (walk c0x0 c0x1 c0x2 c0x3 c0x4 c0x5 c0x6 c0x7 a0 cap0 l0 a1 cap1 l1 a2 W w0 w1 w2).mono fun e W' ⟨he, bel⟩ => ?_
  subst he
  exact ⟨_, rfl, _, _, _, [], _, [], hW', trodAll_mk1 (shut_bool Tryz.underlying4 _), (trodAll_cons_mk (Below.trod laidOut (by kernel_rfl) (of_decide_eq_true (by kernel_rfl)) k0 bel lt0) (trodAll_cons_mk (Below.trod laidOut (by kernel_rfl) (of_decide_eq_true (by kernel_rfl)) k1 bel lt1) (trodAll_cons_mk (shut_int Tryz.underlying2 w2) trodAll_mk0))), rfl, bel.frame _, fun h => by cases h⟩

theorem over : Rows.fnExactReachedAtRow.holds Tryz.pinned (OpenSpec.ofChange Rows.fnExactReachedAtSpec) :=
  OpenClaim.holds_of_wide 4 Tryz.f4 rfl rfl rfl rfl rfl rfl rfl ⟨rfl, rfl, rfl, rfl, rfl⟩ rfl rfl rfl rfl rfl (by kernel_rfl) Tryz.func4 (by kernel_rfl)
    (of_decide_eq_true (by kernel_rfl)) (by unfold Func.isWrapper; first | (rw [if_pos (by decide +kernel)]; kernel_rfl) | (rw [if_neg (by decide +kernel)]; exact ⟨rfl, rfl⟩))
    (fun os started H enc _ => lifted os started H enc)

theorem carded : Rows.FnExactReachedAtCardSaid :=
  Claim7.holds_tied_plain_at .later [] [.data, .pinned] true (true, "004827cf3173f2104a75a4f0e2739421b577e5948f860c289e343cd18232bb4e") false over (fun _ h => by cases h) (by kernel_rfl) (fun _ h => by cases h) fnExactReachedAt_row_tie rfl ⟨rfl, rfl⟩ (by kernel_rfl) rfl
    (fun f fn hf hfn => by
      obtain rfl : f = 4 := Option.some.inj ((show Tryz.prog.funcNamed "loop.example/g00887/laws.FnExactReachedAt" = some 4 by kernel_rfl).symm.trans hf) |>.symm
      obtain rfl : fn = Tryz.f4 := (Option.some.inj (Tryz.func4.symm.trans hfn)).symm
      exact ⟨by kernel_rfl, fun j t ht => by
        rw [Tryz.params4] at ht
        have hm : t ∈ [28, 31, 2] := by simpa using Array.mem_of_getElem? ht
        have hall : ([28, 31, 2].all fun u => !Tryz.prog.wantsStandIn u) = true := by kernel_rfl
        exact (show Tryz.prog.wantsStandIn t = false by simpa using List.all_eq_true.1 hall t hm)⟩)
    (by kernel_rfl)

/-- The statement. -/
theorem proved : Rows.FnExactReachedAtCardSaid := carded
end Go.Proofs.YthgngpmeaobidaaGreatDoor.reachedAt
