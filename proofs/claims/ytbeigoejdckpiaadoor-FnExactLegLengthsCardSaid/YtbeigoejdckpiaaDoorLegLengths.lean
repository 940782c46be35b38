/-
  FnExactLegLengths: for all arguments the program's function answers as the reference's, leaves its argument as it was, and its result is its own. No condition.
-/
import Derived.Test.YtbeigoejdckpiaaDoorRows
import Derived.Test.YtbeigoejdckpiaaDoorTie
import Derived.Test.YtbeigoejdckpiaaDoorCards
import Derived.LaidMore
import Derived.Lay
import Derived.SevenTiedAt
import Derived.Test.YtbeigoejdckpiaaDoorCrsN
namespace Go.Proofs.YtbeigoejdckpiaaDoor.legLengths
open Go.ChangeShapes Go.WideShapes Go.ChangeAt Go.RowKit Go.Deep
open Go.ChangeMaps (open_string shut_string)
set_option linter.unusedVariables false

set_option maxRecDepth 100000 in
set_option maxHeartbeats 4000000 in
theorem walk (x0 x1 x2 x3 x4 x5 x6 x7 : Int) (a0 : Option Addr) (cap0 : Nat) (l : List Mk) (w : World) (w0 : l.length ≤ 9223372036854775807 ∧ RowAt w a0 (mflat l) ∧ (∀ i, i < l.length → (mk l i).name.size ≤ maxLen)) :
    Calls Tryd.prog 11 #[.agg #[.int .i64 x0, .int .i64 x1, .int .i64 x2, .int .i64 x3, .int .i64 x4, .int .i64 x5, .int .i64 x6, .int .i64 x7, .slice a0 l.length cap0]] w fun e w' => e = .returned (.bool true) ∧ Below w.heap.size w w' := by
  obtain ⟨hl0, hf0, hs0⟩ := w0
  have HS := Lib.hid hs0
  clear hs0
  replace hf0 := Lib.hid hf0
  go_enter Tryd.func11, Tryd.ntmps11
  go_wp2_with fail
  obtain ⟨W, hW⟩ : ∃ W, W = (w.alloc (.cells #[.int .i64 x0, .int .i64 x1, .int .i64 x2, .int .i64 x3, .int .i64 x4, .int .i64 x5, .int .i64 x6, .int .i64 x7, .slice a0 l.length cap0] 28)) := ⟨_, rfl⟩
  have HD : Below w.heap.size w W := by subst hW; exact (by repeat (first | with_reducible exact Below.refl _ _ | with_reducible assumption | with_reducible refine Below.drew ?_ | with_reducible refine Below.alloc ?_ (by first | exact Nat.le_refl _ | (simp; done) | (simp; omega) | omega) _ | with_reducible refine Below.setCell ?_ (by first | exact Nat.le_refl _ | (simp; done) | (simp; omega) | omega) _ | with_reducible refine Below.trans ?_ (Below.mono (by with_reducible assumption) (by first | exact Nat.le_refl _ | (simp; done) | (simp; omega) | omega))))
  have b00 : W.cell? ⟨w.heap.size, 0, none⟩ = some (.int .i64 x0) := by subst hW; simp [go_sem]
  have b01 : W.cell? ⟨w.heap.size, 1, none⟩ = some (.int .i64 x1) := by subst hW; simp [go_sem]
  have b02 : W.cell? ⟨w.heap.size, 2, none⟩ = some (.int .i64 x2) := by subst hW; simp [go_sem]
  have b03 : W.cell? ⟨w.heap.size, 3, none⟩ = some (.int .i64 x3) := by subst hW; simp [go_sem]
  have b04 : W.cell? ⟨w.heap.size, 4, none⟩ = some (.int .i64 x4) := by subst hW; simp [go_sem]
  have b05 : W.cell? ⟨w.heap.size, 5, none⟩ = some (.int .i64 x5) := by subst hW; simp [go_sem]
  have b06 : W.cell? ⟨w.heap.size, 6, none⟩ = some (.int .i64 x6) := by subst hW; simp [go_sem]
  have b07 : W.cell? ⟨w.heap.size, 7, none⟩ = some (.int .i64 x7) := by subst hW; simp [go_sem]
  have b08 : W.cell? ⟨w.heap.size, 8, none⟩ = some (.slice a0 l.length cap0) := by subst hW; simp [go_sem]
  have L0 : w.heap.size < W.heap.size := by subst hW; first | (simp; done) | (simp; omega)
  rw [← hW]
  clear hW
  obtain ⟨B0, hB0⟩ : ∃ B, B = w.heap.size := ⟨_, rfl⟩
  rw [← hB0] at b00 b01 b02 b03 b04 b05 b06 b07 b08 L0
  try rw [← hB0]
  replace hB0 := Lib.hid hB0
  have FV := Lib.hid (hf0.out.below HD)
  refine (szCourse_c x0 x1 x2 x3 x4 x5 x6 x7 a0 cap0 l 1048576 W hl0 FV.out HS.out (by omega) (by omega)).mono ?_
  rintro e V1 ⟨⟨z, rfl, hz0⟩, hb⟩
  replace HD := HD.trans (hb.mono HD.size)
  obtain ⟨hc, hf⟩ := bcell hb
  have hz := hb.size
  replace b00 := (hc _ 0 L0).trans b00
  replace b01 := (hc _ 1 L0).trans b01
  replace b02 := (hc _ 2 L0).trans b02
  replace b03 := (hc _ 3 L0).trans b03
  replace b04 := (hc _ 4 L0).trans b04
  replace b05 := (hc _ 5 L0).trans b05
  replace b06 := (hc _ 6 L0).trans b06
  replace b07 := (hc _ 7 L0).trans b07
  replace b08 := (hc _ 8 L0).trans b08
  replace FV := Lib.hid (RowAt.below FV.out hb)
  replace L0 := Nat.lt_of_lt_of_le L0 hz
  clear hc hf hz hb
  by_cases hn : z < 0
  case pos =>
    go_wp2_with fail
    go_ret
    exact ⟨rfl, HD⟩
  have hl9 := hz0 (by omega)
  have hl1 : l.length ≤ 1048576 := by omega
  have hl2 : l.length ≤ 4611686018427387904 := by omega
  have hl3 : l.length ≤ 9223372036854775807 := by omega
  clear hl9 hz0
  go_wp2_with fail
  have cs := fun g w h => LegLengthsS_c x0 x1 x2 x3 x4 x5 x6 x7 (some ⟨g, 0, none⟩) l.length l w hl2 h HS.out
  have ci := fun g w h => LegLengths_c x0 x1 x2 x3 x4 x5 x6 x7 (some ⟨g, 0, none⟩) l.length l w hl2 h HS.out (Nat.le_refl _)
  have hn2 := llR_len x0 x1 x2 x3 x4 x5 x6 x7 l
  generalize (llR x0 x1 x2 x3 x4 x5 x6 x7 l).1 = L at *
  generalize (llR x0 x1 x2 x3 x4 x5 x6 x7 l).2 = R2 at *
  have hn3 : L.length ≤ 4611686018427387904 := by omega
  have CS := Lib.hid cs
  have CI := Lib.hid ci
  clear cs ci
  refine (toCourse_c x0 x1 x2 x3 x4 x5 x6 x7 a0 cap0 l V1 hl1 FV.out).mono ?_
  rintro e U1 ⟨⟨g1, rfl, hg, hlg⟩, hb⟩
  have hG1 := Lib.hid (rowAt_own hg)
  clear hg hlg
  replace HD := HD.trans (hb.mono HD.size)
  obtain ⟨hc, hf⟩ := bcell hb
  have hz := hb.size
  replace b00 := (hc _ 0 L0).trans b00
  replace b01 := (hc _ 1 L0).trans b01
  replace b02 := (hc _ 2 L0).trans b02
  replace b03 := (hc _ 3 L0).trans b03
  replace b04 := (hc _ 4 L0).trans b04
  replace b05 := (hc _ 5 L0).trans b05
  replace b06 := (hc _ 6 L0).trans b06
  replace b07 := (hc _ 7 L0).trans b07
  replace b08 := (hc _ 8 L0).trans b08
  replace FV := Lib.hid (RowAt.below FV.out hb)
  replace L0 := Nat.lt_of_lt_of_le L0 hz
  clear hc hf hz hb
  go_wp2_with fail
  refine (CS.out _ U1 hG1.out).mono ?_
  rintro e V2 ⟨⟨a6, cap6, rfl, ho⟩, hb⟩
  have own6 := Lib.hid ho
  clear ho
  have hDE6 := hb.size
  have U6 := Lib.hid (fun j (e : (Value.slice a6 L.length cap6).ownBlock = some j) => own6.out.lt j e)
  obtain ⟨D6, hD6⟩ : ∃ x, x = U1.heap.size := ⟨_, rfl⟩
  have d6L0 : B0 < D6 := by omega
  rw [← hD6] at own6 U6 hDE6
  have hwD6 : w.heap.size ≤ D6 := by have := HD.size; omega
  replace HD := HD.trans (hb.mono HD.size)
  obtain ⟨hc, hf⟩ := bcell hb
  have hz := hb.size
  replace b00 := (hc _ 0 L0).trans b00
  replace b01 := (hc _ 1 L0).trans b01
  replace b02 := (hc _ 2 L0).trans b02
  replace b03 := (hc _ 3 L0).trans b03
  replace b04 := (hc _ 4 L0).trans b04
  replace b05 := (hc _ 5 L0).trans b05
  replace b06 := (hc _ 6 L0).trans b06
  replace b07 := (hc _ 7 L0).trans b07
  replace b08 := (hc _ 8 L0).trans b08
  replace FV := Lib.hid (RowAt.below FV.out hb)
  replace hG1 := Lib.hid (RowAt.below hG1.out hb)
  replace L0 := Nat.lt_of_lt_of_le L0 hz
  clear hc hf hz hb
  obtain ⟨E6, hE6⟩ : ∃ x, x = V2.heap.size := ⟨_, rfl⟩
  rw [← hE6] at U6 hDE6
  have hEE6 := Lib.hid hE6
  clear hE6
  have hDD6 := Lib.hid hD6
  clear hD6
  go_wp2_with fail
  clear hG1
  refine (toCourse_c x0 x1 x2 x3 x4 x5 x6 x7 a0 cap0 l V2 hl1 FV.out).mono ?_
  rintro e V3 ⟨⟨g0, rfl, hg, hlg⟩, hb⟩
  have hG0 := Lib.hid hg
  have hg0 : E6 ≤ g0 ∧ w.heap.size ≤ g0 ∧ B0 < g0 := ⟨by have := hEE6.out; omega, by have := HD.size; omega, by omega⟩
  have hg1 := hlg.2
  clear hg hlg
  replace HD := HD.trans (hb.mono HD.size)
  obtain ⟨hc, hf⟩ := bcell hb
  have hz := hb.size
  replace b00 := (hc _ 0 L0).trans b00
  replace b01 := (hc _ 1 L0).trans b01
  replace b02 := (hc _ 2 L0).trans b02
  replace b03 := (hc _ 3 L0).trans b03
  replace b04 := (hc _ 4 L0).trans b04
  replace b05 := (hc _ 5 L0).trans b05
  replace b06 := (hc _ 6 L0).trans b06
  replace b07 := (hc _ 7 L0).trans b07
  replace b08 := (hc _ 8 L0).trans b08
  replace FV := Lib.hid (RowAt.below FV.out hb)
  replace own6 := Lib.hid (pown_below own6.out hb)
  replace L0 := Nat.lt_of_lt_of_le L0 hz
  clear hc hf hz hb
  go_wp2_with fail
  obtain ⟨V4, hV4⟩ : ∃ x, x = V3.alloc (.cells #[.int .i64 x0, .int .i64 x1, .int .i64 x2, .int .i64 x3, .int .i64 x4, .int .i64 x5, .int .i64 x6, .int .i64 x7, .slice (some ⟨g0, 0, none⟩) l.length l.length] 36) := ⟨_, rfl⟩
  have hb : Below V3.heap.size V3 V4 := by subst hV4; exact (Below.refl _ _).alloc (Nat.le_refl _) _
  have k00 : V4.cell? ⟨V3.heap.size, 0, none⟩ = some (.int .i64 x0) := by subst hV4; simp [go_sem]
  have k01 : V4.cell? ⟨V3.heap.size, 1, none⟩ = some (.int .i64 x1) := by subst hV4; simp [go_sem]
  have k02 : V4.cell? ⟨V3.heap.size, 2, none⟩ = some (.int .i64 x2) := by subst hV4; simp [go_sem]
  have k03 : V4.cell? ⟨V3.heap.size, 3, none⟩ = some (.int .i64 x3) := by subst hV4; simp [go_sem]
  have k04 : V4.cell? ⟨V3.heap.size, 4, none⟩ = some (.int .i64 x4) := by subst hV4; simp [go_sem]
  have k05 : V4.cell? ⟨V3.heap.size, 5, none⟩ = some (.int .i64 x5) := by subst hV4; simp [go_sem]
  have k06 : V4.cell? ⟨V3.heap.size, 6, none⟩ = some (.int .i64 x6) := by subst hV4; simp [go_sem]
  have k07 : V4.cell? ⟨V3.heap.size, 7, none⟩ = some (.int .i64 x7) := by subst hV4; simp [go_sem]
  have k08 : V4.cell? ⟨V3.heap.size, 8, none⟩ = some (.slice (some ⟨g0, 0, none⟩) l.length l.length) := by subst hV4; simp [go_sem]
  have K0 : V3.heap.size < V4.heap.size := by subst hV4; simp
  have hS0 := Lib.hid (show V4.heap.size = V3.heap.size + 1 by subst hV4; simp)
  rw [← hV4]
  clear hV4
  replace HD := HD.trans (hb.mono HD.size)
  obtain ⟨hc, hf⟩ := bcell hb
  have hz := hb.size
  replace b00 := (hc _ 0 L0).trans b00
  replace b01 := (hc _ 1 L0).trans b01
  replace b02 := (hc _ 2 L0).trans b02
  replace b03 := (hc _ 3 L0).trans b03
  replace b04 := (hc _ 4 L0).trans b04
  replace b05 := (hc _ 5 L0).trans b05
  replace b06 := (hc _ 6 L0).trans b06
  replace b07 := (hc _ 7 L0).trans b07
  replace b08 := (hc _ 8 L0).trans b08
  replace FV := Lib.hid (RowAt.below FV.out hb)
  replace own6 := Lib.hid (pown_below own6.out hb)
  replace hG0 := Lib.hid (pown_below hG0.out hb)
  replace L0 := Nat.lt_of_lt_of_le L0 hz
  clear hc hf hz hb
  obtain ⟨C0, hC0⟩ : ∃ x, x = V3.heap.size := ⟨_, rfl⟩
  rw [← hC0] at k00 k01 k02 k03 k04 k05 k06 k07 k08 K0
  try rw [← hC0]
  replace hC0 := Lib.hid hC0
  have hg2 : g0 < C0 := by have := hC0.out; omega
  go_wp2_with fail
  refine (CI.out _ V4 (rowAt_own hG0.out)).mono ?_
  rintro e V5 ⟨⟨a9, cap9, rfl, ho⟩, hb⟩
  have own9 := Lib.hid ho
  clear ho
  have hDE9 := hb.size
  have U9 := Lib.hid (fun j (e : (Value.slice a9 L.length cap9).ownBlock = some j) => own9.out.lt j e)
  obtain ⟨D9, hD9⟩ : ∃ x, x = V4.heap.size := ⟨_, rfl⟩
  have d9L0 : B0 < D9 := by omega
  have d9K0 : C0 < D9 := by omega
  rw [← hD9] at own9 U9 hDE9
  have hwD9 : w.heap.size ≤ D9 := by have := HD.size; omega
  replace HD := HD.trans (hb.mono HD.size)
  obtain ⟨hc, hf⟩ := bcell hb
  have hz := hb.size
  replace b00 := (hc _ 0 L0).trans b00
  replace b01 := (hc _ 1 L0).trans b01
  replace b02 := (hc _ 2 L0).trans b02
  replace b03 := (hc _ 3 L0).trans b03
  replace b04 := (hc _ 4 L0).trans b04
  replace b05 := (hc _ 5 L0).trans b05
  replace b06 := (hc _ 6 L0).trans b06
  replace b07 := (hc _ 7 L0).trans b07
  replace b08 := (hc _ 8 L0).trans b08
  replace k00 := (hc _ 0 K0).trans k00
  replace k01 := (hc _ 1 K0).trans k01
  replace k02 := (hc _ 2 K0).trans k02
  replace k03 := (hc _ 3 K0).trans k03
  replace k04 := (hc _ 4 K0).trans k04
  replace k05 := (hc _ 5 K0).trans k05
  replace k06 := (hc _ 6 K0).trans k06
  replace k07 := (hc _ 7 K0).trans k07
  replace k08 := (hc _ 8 K0).trans k08
  replace FV := Lib.hid (RowAt.below FV.out hb)
  replace own6 := Lib.hid (pown_below own6.out hb)
  replace hG0 := Lib.hid (pown_below hG0.out hb)
  replace L0 := Nat.lt_of_lt_of_le L0 hz
  replace K0 := Nat.lt_of_lt_of_le K0 hz
  clear hc hf hz hb
  obtain ⟨E9, hE9⟩ : ∃ x, x = V5.heap.size := ⟨_, rfl⟩
  rw [← hE9] at U9 hDE9
  have hEE9 := Lib.hid hE9
  clear hE9
  have hDD9 := Lib.hid hD9
  clear hD9
  go_wp2_with fail
  refine (eqInt64S_c a9 a6 cap9 cap6 L V5 hn3 (row_ownP own9.out (nflat_length L)) (row_ownP own6.out (nflat_length L))).mono ?_
  rintro e V6 ⟨rfl, hb⟩
  replace HD := HD.trans (hb.mono HD.size)
  obtain ⟨hc, hf⟩ := bcell hb
  have hz := hb.size
  replace b00 := (hc _ 0 L0).trans b00
  replace b01 := (hc _ 1 L0).trans b01
  replace b02 := (hc _ 2 L0).trans b02
  replace b03 := (hc _ 3 L0).trans b03
  replace b04 := (hc _ 4 L0).trans b04
  replace b05 := (hc _ 5 L0).trans b05
  replace b06 := (hc _ 6 L0).trans b06
  replace b07 := (hc _ 7 L0).trans b07
  replace b08 := (hc _ 8 L0).trans b08
  replace k00 := (hc _ 0 K0).trans k00
  replace k01 := (hc _ 1 K0).trans k01
  replace k02 := (hc _ 2 K0).trans k02
  replace k03 := (hc _ 3 K0).trans k03
  replace k04 := (hc _ 4 K0).trans k04
  replace k05 := (hc _ 5 K0).trans k05
  replace k06 := (hc _ 6 K0).trans k06
  replace k07 := (hc _ 7 K0).trans k07
  replace k08 := (hc _ 8 K0).trans k08
  replace FV := Lib.hid (RowAt.below FV.out hb)
  replace own6 := Lib.hid (pown_below own6.out hb)
  replace hG0 := Lib.hid (pown_below hG0.out hb)
  replace own9 := Lib.hid (pown_below own9.out hb)
  replace L0 := Nat.lt_of_lt_of_le L0 hz
  replace K0 := Nat.lt_of_lt_of_le K0 hz
  clear hc hf hz hb
  go_wp2_with fail
  go_cut [45] (fun s45 wx => s45 = .bool false ∧ Below V6.heap.size V6 wx)
  case first =>
    go_region_held3 (fun wx => Below V6.heap.size V6 wx ∧ ∀ b o, b < V6.heap.size → wx.cell? ⟨b, o, none⟩ = V6.cell? ⟨b, o, none⟩)
      (first | with_reducible exact held_step (by assumption) hb | with_reducible exact held_start _ _ | with_reducible exact held_begin _)
      (first | (go_at_call 14; refine (toCourse_c x0 x1 x2 x3 x4 x5 x6 x7 a0 cap0 l _ hl1 (FV.out.below (And.left (by with_reducible assumption)))).mono ?_; rintro e w1 ⟨⟨g, rfl, hg, hlg⟩, hb⟩; have hz := held_size (by with_reducible assumption) hb; (try simp at hz); have hs := hb.size; (try simp at hs)) | (go_at_call 16; refine (eqCourse_same x0 x1 x2 x3 x4 x5 x6 x7 _ _ _ _ l _ hl3 (RowAt.below (rowAt_own hG0.out) (And.left (by with_reducible assumption))) (RowAt.below (rowAt_own (by assumption)) (by repeat (first | with_reducible exact Below.refl _ _ | with_reducible assumption | with_reducible refine Below.drew ?_ | with_reducible refine Below.alloc ?_ (by first | exact Nat.le_refl _ | (simp; done) | (simp; omega) | omega) _ | with_reducible refine Below.setCell ?_ (by first | exact Nat.le_refl _ | (simp; done) | (simp; omega) | omega) _ | with_reducible refine Below.trans ?_ (Below.mono (by with_reducible assumption) (by first | exact Nat.le_refl _ | (simp; done) | (simp; omega) | omega)))))).mono ?_; rintro e w1 ⟨rfl, hb⟩; have hz := held_size (by with_reducible assumption) hb; (try simp at hz); have hs := hb.size; (try simp at hs)))
    all_goals go_wp2_with fail
    all_goals (go_meet; exact ⟨rfl, And.left (by with_reducible assumption)⟩)
  case rest =>
    obtain ⟨rfl, hb⟩ := hcut
    obtain ⟨V7, rfl⟩ : ∃ x : World, x = wc := ⟨_, rfl⟩
    replace HD := HD.trans (hb.mono HD.size)
    obtain ⟨hc, hf⟩ := bcell hb
    have hz := hb.size
    replace b00 := (hc _ 0 L0).trans b00
    replace b01 := (hc _ 1 L0).trans b01
    replace b02 := (hc _ 2 L0).trans b02
    replace b03 := (hc _ 3 L0).trans b03
    replace b04 := (hc _ 4 L0).trans b04
    replace b05 := (hc _ 5 L0).trans b05
    replace b06 := (hc _ 6 L0).trans b06
    replace b07 := (hc _ 7 L0).trans b07
    replace b08 := (hc _ 8 L0).trans b08
    replace k00 := (hc _ 0 K0).trans k00
    replace k01 := (hc _ 1 K0).trans k01
    replace k02 := (hc _ 2 K0).trans k02
    replace k03 := (hc _ 3 K0).trans k03
    replace k04 := (hc _ 4 K0).trans k04
    replace k05 := (hc _ 5 K0).trans k05
    replace k06 := (hc _ 6 K0).trans k06
    replace k07 := (hc _ 7 K0).trans k07
    replace k08 := (hc _ 8 K0).trans k08
    replace FV := Lib.hid (RowAt.below FV.out hb)
    replace own6 := Lib.hid (pown_below own6.out hb)
    replace hG0 := Lib.hid (pown_below hG0.out hb)
    replace own9 := Lib.hid (pown_below own9.out hb)
    replace L0 := Nat.lt_of_lt_of_le L0 hz
    replace K0 := Nat.lt_of_lt_of_le K0 hz
    clear hc hf hz hb
    go_wp2_with fail
    have cm := markCourse_c x0 x1 x2 x3 x4 x5 x6 x7 (some ⟨g0, 0, none⟩) l.length l.length 1 0 (mflat l) V7 (by omega) (by omega) (by omega) (pown_mono hG0.out (Nat.zero_le _))
    have hM : 0 ≤ 1 + ((l.length * 5 : Nat) : Int) := by omega
    obtain ⟨M, hM0⟩ : ∃ M, 1 + ((l.length * 5 : Nat) : Int) = M := ⟨_, rfl⟩
    rw [hM0] at cm hM
    have hMM := Lib.hid hM0
    clear hM0
    refine cm.mono ?_
    rintro e V8 ⟨rfl, hg⟩
    have hU : ∀ k, (Value.slice (some ⟨g0, 0, none⟩) l.length l.length).ownBlock = some k → k = g0 := by intro k e; simp [Value.ownBlock] at e; exact e.symm
    clear cm
    replace HD := HD.trans (pgrown_below hg HD.size (fun k e => by have := hU k e; have := HD.size; omega))
    replace b00 := hg.cell b00 (fun e => by have h1 := hU B0 e.symm; omega)
    replace b01 := hg.cell b01 (fun e => by have h1 := hU B0 e.symm; omega)
    replace b02 := hg.cell b02 (fun e => by have h1 := hU B0 e.symm; omega)
    replace b03 := hg.cell b03 (fun e => by have h1 := hU B0 e.symm; omega)
    replace b04 := hg.cell b04 (fun e => by have h1 := hU B0 e.symm; omega)
    replace b05 := hg.cell b05 (fun e => by have h1 := hU B0 e.symm; omega)
    replace b06 := hg.cell b06 (fun e => by have h1 := hU B0 e.symm; omega)
    replace b07 := hg.cell b07 (fun e => by have h1 := hU B0 e.symm; omega)
    replace b08 := hg.cell b08 (fun e => by have h1 := hU B0 e.symm; omega)
    replace k00 := hg.cell k00 (fun e => by have h1 := hU C0 e.symm; omega)
    replace k01 := hg.cell k01 (fun e => by have h1 := hU C0 e.symm; omega)
    replace k02 := hg.cell k02 (fun e => by have h1 := hU C0 e.symm; omega)
    replace k03 := hg.cell k03 (fun e => by have h1 := hU C0 e.symm; omega)
    replace k04 := hg.cell k04 (fun e => by have h1 := hU C0 e.symm; omega)
    replace k05 := hg.cell k05 (fun e => by have h1 := hU C0 e.symm; omega)
    replace k06 := hg.cell k06 (fun e => by have h1 := hU C0 e.symm; omega)
    replace k07 := hg.cell k07 (fun e => by have h1 := hU C0 e.symm; omega)
    replace k08 := hg.cell k08 (fun e => by have h1 := hU C0 e.symm; omega)
    replace FV := Lib.hid (hf0.out.below HD)
    replace own6 := Lib.hid (own_keptP own6.out hg (fun k e e2 => by have := U6.out k e; have := hU k e2; omega))
    replace own9 := Lib.hid (own_keptP own9.out hg (fun k e e2 => by have := U9.out k e; have := hU k e2; omega))
    replace L0 := Nat.lt_of_lt_of_le L0 hg.size
    replace K0 := Nat.lt_of_lt_of_le K0 hg.size
    clear hg
    clear hU hG0
    go_wp2_with fail
    refine (eqInt64S_c a9 a6 cap9 cap6 L V8 hn3 (row_ownP own9.out (nflat_length L)) (row_ownP own6.out (nflat_length L))).mono ?_
    rintro e V9 ⟨rfl, hb⟩
    replace HD := HD.trans (hb.mono HD.size)
    obtain ⟨hc, hf⟩ := bcell hb
    have hz := hb.size
    replace b00 := (hc _ 0 L0).trans b00
    replace b01 := (hc _ 1 L0).trans b01
    replace b02 := (hc _ 2 L0).trans b02
    replace b03 := (hc _ 3 L0).trans b03
    replace b04 := (hc _ 4 L0).trans b04
    replace b05 := (hc _ 5 L0).trans b05
    replace b06 := (hc _ 6 L0).trans b06
    replace b07 := (hc _ 7 L0).trans b07
    replace b08 := (hc _ 8 L0).trans b08
    replace k00 := (hc _ 0 K0).trans k00
    replace k01 := (hc _ 1 K0).trans k01
    replace k02 := (hc _ 2 K0).trans k02
    replace k03 := (hc _ 3 K0).trans k03
    replace k04 := (hc _ 4 K0).trans k04
    replace k05 := (hc _ 5 K0).trans k05
    replace k06 := (hc _ 6 K0).trans k06
    replace k07 := (hc _ 7 K0).trans k07
    replace k08 := (hc _ 8 K0).trans k08
    replace FV := Lib.hid (RowAt.below FV.out hb)
    replace own6 := Lib.hid (pown_below own6.out hb)
    replace own9 := Lib.hid (pown_below own9.out hb)
    replace L0 := Nat.lt_of_lt_of_le L0 hz
    replace K0 := Nat.lt_of_lt_of_le K0 hz
    clear hc hf hz hb
    go_wp2_with fail
    have cm := markInt64S_c a9 L.length cap9 1 D9 (nflat L) V9 (by omega) (by omega) (by omega) own9.out
    have hN : 0 ≤ 1 + ((L.length * 1 : Nat) : Int) := by omega
    obtain ⟨N, hN0⟩ : ∃ N, 1 + ((L.length * 1 : Nat) : Int) = N := ⟨_, rfl⟩
    rw [hN0] at cm hN
    have hNN := Lib.hid hN0
    clear hN0
    refine cm.mono ?_
    rintro e V10 ⟨rfl, hmk, hg⟩
    have hU := U9.out
    clear cm
    replace HD := HD.trans (pgrown_below hg HD.size (fun k e => by have := hU k e; have := HD.size; omega))
    replace b00 := hg.cell b00 (fun e => by have h1 := hU B0 e.symm; omega)
    replace b01 := hg.cell b01 (fun e => by have h1 := hU B0 e.symm; omega)
    replace b02 := hg.cell b02 (fun e => by have h1 := hU B0 e.symm; omega)
    replace b03 := hg.cell b03 (fun e => by have h1 := hU B0 e.symm; omega)
    replace b04 := hg.cell b04 (fun e => by have h1 := hU B0 e.symm; omega)
    replace b05 := hg.cell b05 (fun e => by have h1 := hU B0 e.symm; omega)
    replace b06 := hg.cell b06 (fun e => by have h1 := hU B0 e.symm; omega)
    replace b07 := hg.cell b07 (fun e => by have h1 := hU B0 e.symm; omega)
    replace b08 := hg.cell b08 (fun e => by have h1 := hU B0 e.symm; omega)
    replace k00 := hg.cell k00 (fun e => by have h1 := hU C0 e.symm; omega)
    replace k01 := hg.cell k01 (fun e => by have h1 := hU C0 e.symm; omega)
    replace k02 := hg.cell k02 (fun e => by have h1 := hU C0 e.symm; omega)
    replace k03 := hg.cell k03 (fun e => by have h1 := hU C0 e.symm; omega)
    replace k04 := hg.cell k04 (fun e => by have h1 := hU C0 e.symm; omega)
    replace k05 := hg.cell k05 (fun e => by have h1 := hU C0 e.symm; omega)
    replace k06 := hg.cell k06 (fun e => by have h1 := hU C0 e.symm; omega)
    replace k07 := hg.cell k07 (fun e => by have h1 := hU C0 e.symm; omega)
    replace k08 := hg.cell k08 (fun e => by have h1 := hU C0 e.symm; omega)
    replace FV := Lib.hid (hf0.out.below HD)
    replace own6 := Lib.hid (own_keptP own6.out hg (fun k e e2 => by have := U6.out k e; have := hU k e2; omega))
    replace L0 := Nat.lt_of_lt_of_le L0 hg.size
    replace K0 := Nat.lt_of_lt_of_le K0 hg.size
    clear hg
    replace own9 := Lib.hid hmk
    clear hU hmk
    go_wp2_with fail
    have ch := heldInt64S_c a9 L.length cap9 1 D9 V10 (by omega) (by omega) (by omega) own9.out
    rw [hNN.out] at ch
    refine (ch).mono ?_
    rintro e V11 ⟨rfl, hb⟩
    clear ch
    replace HD := HD.trans (hb.mono HD.size)
    obtain ⟨hc, hf⟩ := bcell hb
    have hz := hb.size
    replace b00 := (hc _ 0 L0).trans b00
    replace b01 := (hc _ 1 L0).trans b01
    replace b02 := (hc _ 2 L0).trans b02
    replace b03 := (hc _ 3 L0).trans b03
    replace b04 := (hc _ 4 L0).trans b04
    replace b05 := (hc _ 5 L0).trans b05
    replace b06 := (hc _ 6 L0).trans b06
    replace b07 := (hc _ 7 L0).trans b07
    replace b08 := (hc _ 8 L0).trans b08
    replace k00 := (hc _ 0 K0).trans k00
    replace k01 := (hc _ 1 K0).trans k01
    replace k02 := (hc _ 2 K0).trans k02
    replace k03 := (hc _ 3 K0).trans k03
    replace k04 := (hc _ 4 K0).trans k04
    replace k05 := (hc _ 5 K0).trans k05
    replace k06 := (hc _ 6 K0).trans k06
    replace k07 := (hc _ 7 K0).trans k07
    replace k08 := (hc _ 8 K0).trans k08
    replace FV := Lib.hid (RowAt.below FV.out hb)
    replace own6 := Lib.hid (pown_below own6.out hb)
    replace own9 := Lib.hid (pown_below own9.out hb)
    replace L0 := Nat.lt_of_lt_of_le L0 hz
    replace K0 := Nat.lt_of_lt_of_le K0 hz
    clear hc hf hz hb
    go_wp2_with fail
    refine (toCourse_c x0 x1 x2 x3 x4 x5 x6 x7 a0 cap0 l V11 hl1 FV.out).mono ?_
    rintro e U2 ⟨⟨g3, rfl, hg, hlg⟩, hb⟩
    have hG1 := Lib.hid (rowAt_own hg)
    clear hg hlg
    replace HD := HD.trans (hb.mono HD.size)
    obtain ⟨hc, hf⟩ := bcell hb
    have hz := hb.size
    replace b00 := (hc _ 0 L0).trans b00
    replace b01 := (hc _ 1 L0).trans b01
    replace b02 := (hc _ 2 L0).trans b02
    replace b03 := (hc _ 3 L0).trans b03
    replace b04 := (hc _ 4 L0).trans b04
    replace b05 := (hc _ 5 L0).trans b05
    replace b06 := (hc _ 6 L0).trans b06
    replace b07 := (hc _ 7 L0).trans b07
    replace b08 := (hc _ 8 L0).trans b08
    replace k00 := (hc _ 0 K0).trans k00
    replace k01 := (hc _ 1 K0).trans k01
    replace k02 := (hc _ 2 K0).trans k02
    replace k03 := (hc _ 3 K0).trans k03
    replace k04 := (hc _ 4 K0).trans k04
    replace k05 := (hc _ 5 K0).trans k05
    replace k06 := (hc _ 6 K0).trans k06
    replace k07 := (hc _ 7 K0).trans k07
    replace k08 := (hc _ 8 K0).trans k08
    replace FV := Lib.hid (RowAt.below FV.out hb)
    replace own6 := Lib.hid (pown_below own6.out hb)
    replace own9 := Lib.hid (pown_below own9.out hb)
    replace L0 := Nat.lt_of_lt_of_le L0 hz
    replace K0 := Nat.lt_of_lt_of_le K0 hz
    clear hc hf hz hb
    go_wp2_with fail
    refine (CI.out _ U2 hG1.out).mono ?_
    rintro e V12 ⟨⟨a14, cap14, rfl, ho⟩, hb⟩
    have own14 := Lib.hid ho
    clear ho
    have hDE14 := hb.size
    have U14 := Lib.hid (fun j (e : (Value.slice a14 L.length cap14).ownBlock = some j) => own14.out.lt j e)
    obtain ⟨D14, hD14⟩ : ∃ x, x = U2.heap.size := ⟨_, rfl⟩
    have d14L0 : B0 < D14 := by omega
    have d14K0 : C0 < D14 := by omega
    rw [← hD14] at own14 U14 hDE14
    have hwD14 : w.heap.size ≤ D14 := by have := HD.size; omega
    replace HD := HD.trans (hb.mono HD.size)
    obtain ⟨hc, hf⟩ := bcell hb
    have hz := hb.size
    replace b00 := (hc _ 0 L0).trans b00
    replace b01 := (hc _ 1 L0).trans b01
    replace b02 := (hc _ 2 L0).trans b02
    replace b03 := (hc _ 3 L0).trans b03
    replace b04 := (hc _ 4 L0).trans b04
    replace b05 := (hc _ 5 L0).trans b05
    replace b06 := (hc _ 6 L0).trans b06
    replace b07 := (hc _ 7 L0).trans b07
    replace b08 := (hc _ 8 L0).trans b08
    replace k00 := (hc _ 0 K0).trans k00
    replace k01 := (hc _ 1 K0).trans k01
    replace k02 := (hc _ 2 K0).trans k02
    replace k03 := (hc _ 3 K0).trans k03
    replace k04 := (hc _ 4 K0).trans k04
    replace k05 := (hc _ 5 K0).trans k05
    replace k06 := (hc _ 6 K0).trans k06
    replace k07 := (hc _ 7 K0).trans k07
    replace k08 := (hc _ 8 K0).trans k08
    replace FV := Lib.hid (RowAt.below FV.out hb)
    replace own6 := Lib.hid (pown_below own6.out hb)
    replace own9 := Lib.hid (pown_below own9.out hb)
    replace hG1 := Lib.hid (RowAt.below hG1.out hb)
    replace L0 := Nat.lt_of_lt_of_le L0 hz
    replace K0 := Nat.lt_of_lt_of_le K0 hz
    clear hc hf hz hb
    obtain ⟨E14, hE14⟩ : ∃ x, x = V12.heap.size := ⟨_, rfl⟩
    rw [← hE14] at U14 hDE14
    have hEE14 := Lib.hid hE14
    clear hE14
    have hDD14 := Lib.hid hD14
    clear hD14
    go_wp2_with fail
    refine (eqInt64S_c a14 a6 cap14 cap6 L V12 hn3 (row_ownP own14.out (nflat_length L)) (row_ownP own6.out (nflat_length L))).mono ?_
    rintro e V13 ⟨rfl, hb⟩
    replace HD := HD.trans (hb.mono HD.size)
    obtain ⟨hc, hf⟩ := bcell hb
    have hz := hb.size
    replace b00 := (hc _ 0 L0).trans b00
    replace b01 := (hc _ 1 L0).trans b01
    replace b02 := (hc _ 2 L0).trans b02
    replace b03 := (hc _ 3 L0).trans b03
    replace b04 := (hc _ 4 L0).trans b04
    replace b05 := (hc _ 5 L0).trans b05
    replace b06 := (hc _ 6 L0).trans b06
    replace b07 := (hc _ 7 L0).trans b07
    replace b08 := (hc _ 8 L0).trans b08
    replace k00 := (hc _ 0 K0).trans k00
    replace k01 := (hc _ 1 K0).trans k01
    replace k02 := (hc _ 2 K0).trans k02
    replace k03 := (hc _ 3 K0).trans k03
    replace k04 := (hc _ 4 K0).trans k04
    replace k05 := (hc _ 5 K0).trans k05
    replace k06 := (hc _ 6 K0).trans k06
    replace k07 := (hc _ 7 K0).trans k07
    replace k08 := (hc _ 8 K0).trans k08
    replace FV := Lib.hid (RowAt.below FV.out hb)
    replace own6 := Lib.hid (pown_below own6.out hb)
    replace own9 := Lib.hid (pown_below own9.out hb)
    replace hG1 := Lib.hid (RowAt.below hG1.out hb)
    replace own14 := Lib.hid (pown_below own14.out hb)
    replace L0 := Nat.lt_of_lt_of_le L0 hz
    replace K0 := Nat.lt_of_lt_of_le K0 hz
    clear hc hf hz hb
    go_wp2_with fail
    have ch := heldInt64S_c a9 L.length cap9 1 D9 V13 (by omega) (by omega) (by omega) own9.out
    rw [hNN.out] at ch
    refine (ch).mono ?_
    rintro e V14 ⟨rfl, hb⟩
    clear ch
    replace HD := HD.trans (hb.mono HD.size)
    obtain ⟨hc, hf⟩ := bcell hb
    have hz := hb.size
    replace b00 := (hc _ 0 L0).trans b00
    replace b01 := (hc _ 1 L0).trans b01
    replace b02 := (hc _ 2 L0).trans b02
    replace b03 := (hc _ 3 L0).trans b03
    replace b04 := (hc _ 4 L0).trans b04
    replace b05 := (hc _ 5 L0).trans b05
    replace b06 := (hc _ 6 L0).trans b06
    replace b07 := (hc _ 7 L0).trans b07
    replace b08 := (hc _ 8 L0).trans b08
    replace k00 := (hc _ 0 K0).trans k00
    replace k01 := (hc _ 1 K0).trans k01
    replace k02 := (hc _ 2 K0).trans k02
    replace k03 := (hc _ 3 K0).trans k03
    replace k04 := (hc _ 4 K0).trans k04
    replace k05 := (hc _ 5 K0).trans k05
    replace k06 := (hc _ 6 K0).trans k06
    replace k07 := (hc _ 7 K0).trans k07
    replace k08 := (hc _ 8 K0).trans k08
    replace FV := Lib.hid (RowAt.below FV.out hb)
    replace own6 := Lib.hid (pown_below own6.out hb)
    replace own9 := Lib.hid (pown_below own9.out hb)
    replace hG1 := Lib.hid (RowAt.below hG1.out hb)
    replace own14 := Lib.hid (pown_below own14.out hb)
    replace L0 := Nat.lt_of_lt_of_le L0 hz
    replace K0 := Nat.lt_of_lt_of_le K0 hz
    clear hc hf hz hb
    go_wp2_with fail
    go_ret
    exact ⟨rfl, HD⟩

theorem own : ownKnob Tryd.prog.godebug = none := by kernel_rfl
theorem laidOut : laidOutB Tryd.prog = true := by kernel_rfl
set_option maxRecDepth 100000 in
theorem lifted (os : Os) (started : os.Started) (H : Type) (enc : TypeId × Value → H) :
    ReturnsInHanded {} Tryd.checked os 11 .any (fun w args => (Rows.fnExactLegLengthsSpec.pre enc Tryd.prog Tryd.f11 Rows.fnExactLegLengthsRow.domain false w args ∧ laidMetH Tryd.prog Rows.fnExactLegLengthsRow.laid w) ∧ sizedMet enc Tryd.prog Tryd.f11 (OpenSpec.ofChange Rows.fnExactLegLengthsSpec) false w args)
      (Rows.fnExactLegLengthsSpec.post enc Tryd.prog Tryd.f11 false true false false) := by
  refine returnsInHanded_of_change_and (C := Tryd.checked) (X := fun w _ => laidMetH Tryd.prog Rows.fnExactLegLengthsRow.laid w) (fun _ _ _ hh h => h.of_heap hh) own started (by kernel_rfl) Tryd.func11
    (ChangeSpec.witness_shaped (enc := enc) (C := Tryd.checked) (os := os) (X := fun w _ => laidMetH Tryd.prog Rows.fnExactLegLengthsRow.laid w) false (World.laidAll Tryd.prog os Rows.fnExactLegLengthsRow.laid) #[.agg #[.int .i64 0, .int .i64 0, .int .i64 0, .int .i64 0, .int .i64 0, .int .i64 0, .int .i64 0, .int .i64 0, .slice none 0 0]] 8 (World.laidAll_os _ _ _)
      (World.shaped_of_ZipB (by kernel_rfl) (by kernel_rfl)) (by kernel_rfl) (by kernel_rfl) (by kernel_rfl)
      (by rw [MakeChecks.laidMetH_plain _ _ _ (by kernel_rfl)]; exact laidMet_laidAll _ (by kernel_rfl) (by kernel_rfl))) ?_
  intro W base args ds gs before hval0 hW _ _ _ _
  have hval : ∀ (j : Nat) t v, Tryd.f11.params[j]? = some t → args[j]? = some v → Value.okWide Tryd.prog W .any base t v := hval0
  have hW' := hW
  obtain ⟨p, q, hA0, hV, rfl, hfz, hnd⟩ := hW
  have hA : DataW.TrodAll enc Tryd.prog W 0 (fun _ => true) true Tryd.f11.params.toList args.toList ds p := hA0
  rw [Tryd.params11] at hA hval
  obtain ⟨v0, vs0, d0, ds0, p0, q0, hargs, rfl, rfl, h0, r0⟩ := trodAll_cons hA
  obtain ⟨rfl, rfl, rfl⟩ := trodAll_nil r0
  obtain rfl : args = #[v0] := by cases args; simp_all
  obtain ⟨rfl, rfl⟩ := trodVars_none hV
  have k0 := h0
  have lt0 : ∀ x ∈ p0, x.block < W.heap.size := by obtain ⟨m, hm⟩ := k0; exact DataW.trod_lt m _ _ _ hm
  obtain ⟨c0x0, c0x1, c0x2, c0x3, c0x4, c0x5, c0x6, c0x7, ⟨a0, cap0⟩, l0, rfl, w0⟩ := open_course (hval 0 28 v0 rfl rfl) h0
  clear hA0 hval0
  refine (walk c0x0 c0x1 c0x2 c0x3 c0x4 c0x5 c0x6 c0x7 a0 cap0 l0 W w0).mono fun e W' ⟨he, bel⟩ => ?_
  subst he
  exact ⟨_, rfl, _, _, _, [], _, [], hW', trodAll_mk1 (shut_bool Tryd.underlying4 _), (trodAll_cons_mk (Below.trod laidOut (by kernel_rfl) (of_decide_eq_true (by kernel_rfl)) k0 bel lt0) trodAll_mk0), rfl, bel.frame _, fun h => by cases h⟩

theorem over : Rows.fnExactLegLengthsRow.holds Tryd.pinned (OpenSpec.ofChange Rows.fnExactLegLengthsSpec) :=
  OpenClaim.holds_of_wide 11 Tryd.f11 rfl rfl rfl rfl rfl rfl rfl ⟨rfl, rfl, rfl, rfl, rfl⟩ rfl rfl rfl rfl rfl (by kernel_rfl) Tryd.func11 (by kernel_rfl)
    (of_decide_eq_true (by kernel_rfl)) (by unfold Func.isWrapper; first | (rw [if_pos (by decide +kernel)]; kernel_rfl) | (rw [if_neg (by decide +kernel)]; exact ⟨rfl, rfl⟩))
    (fun os started H enc _ => lifted os started H enc)

theorem carded : Rows.FnExactLegLengthsCardSaid :=
  Claim7.holds_tied_plain_at .later [] [.data, .pinned] true (true, "307a91a8220387b471f0a43c3da6393a48704f163f4c354a897a299e0390cb65") false over (fun _ h => by cases h) (by kernel_rfl) (fun _ h => by cases h) fnExactLegLengths_row_tie rfl ⟨rfl, rfl⟩ (by kernel_rfl) rfl
    (fun f fn hf hfn => by
      obtain rfl : f = 11 := Option.some.inj ((show Tryd.prog.funcNamed "loop.example/g00887/laws.FnExactLegLengths" = some 11 by kernel_rfl).symm.trans hf) |>.symm
      obtain rfl : fn = Tryd.f11 := (Option.some.inj (Tryd.func11.symm.trans hfn)).symm
      exact ⟨by kernel_rfl, fun j t ht => by
        rw [Tryd.params11] at ht
        have hm : t ∈ [28] := by simpa using Array.mem_of_getElem? ht
        have hall : ([28].all fun u => !Tryd.prog.wantsStandIn u) = true := by kernel_rfl
        exact (show Tryd.prog.wantsStandIn t = false by simpa using List.all_eq_true.1 hall t hm)⟩)
    (by kernel_rfl)

/-- The statement. -/
theorem proved : Rows.FnExactLegLengthsCardSaid := carded
end Go.Proofs.YtbeigoejdckpiaaDoor.legLengths
