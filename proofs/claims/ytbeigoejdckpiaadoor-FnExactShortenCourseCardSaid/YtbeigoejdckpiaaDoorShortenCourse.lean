/-
  FnExactShortenCourse: for all arguments the program's function answers as the reference's, leaves its argument as it was, and its result is its own. No condition.
-/
import Derived.Test.YtbeigoejdckpiaaDoorRows
import Derived.Test.YtbeigoejdckpiaaDoorTie
import Derived.Test.YtbeigoejdckpiaaDoorCards
import Derived.LaidMore
import Derived.Lay
import Derived.SevenTiedAt
import Derived.Test.YtbeigoejdckpiaaDoorCrsT
import Derived.Test.YtbeigoejdckpiaaDoorCrsU
namespace Go.Proofs.YtbeigoejdckpiaaDoor.shortenCourse
open Go.ChangeShapes Go.WideShapes Go.ChangeAt Go.RowKit Go.Deep
open Go.ChangeMaps (open_string shut_string)
set_option linter.unusedVariables false

set_option maxRecDepth 100000 in
set_option maxHeartbeats 4000000 in
theorem walk (x0 x1 x2 x3 x4 x5 x6 x7 : Int) (a0 : Option Addr) (cap0 : Nat) (l : List Mk) (k : Int) (y0 : Int) (y1 : Int) (y2 : Int) (y3 : Int) (w : World) (w0 : l.length ≤ 9223372036854775807 ∧ RowAt w a0 (mflat l) ∧ (∀ i, i < l.length → (mk l i).name.size ≤ maxLen)) (vk : (Lit.int .i64 k).wf = true) (vy0 : (Lit.int .i64 y0).wf = true) (vy1 : (Lit.int .i64 y1).wf = true) (vy2 : (Lit.int .i64 y2).wf = true) (vy3 : (Lit.int .i64 y3).wf = true) :
    Calls Tryd.prog 7 #[.agg #[.int .i64 x0, .int .i64 x1, .int .i64 x2, .int .i64 x3, .int .i64 x4, .int .i64 x5, .int .i64 x6, .int .i64 x7, .slice a0 l.length cap0], .int .i64 k, .agg #[.int .i64 y0, .int .i64 y1, .int .i64 y2, .int .i64 y3]] w fun e w' => e = .returned (.bool true) ∧ Below w.heap.size w w' := by
  obtain ⟨hl0, hf0, hs0⟩ := w0
  have HS := Lib.hid hs0
  clear hs0
  replace hf0 := Lib.hid hf0
  clear vk vy0 vy1 vy2 vy3
  go_enter Tryd.func7, Tryd.ntmps7
  go_wp2_with fail
  obtain ⟨W, hW⟩ : ∃ W, W = ((w.alloc (.cells #[.int .i64 x0, .int .i64 x1, .int .i64 x2, .int .i64 x3, .int .i64 x4, .int .i64 x5, .int .i64 x6, .int .i64 x7, .slice a0 l.length cap0] 28)).alloc (.cells #[.int .i64 y0, .int .i64 y1, .int .i64 y2, .int .i64 y3] 25)) := ⟨_, rfl⟩
  have HD : Below w.heap.size w W := by subst hW; exact (by repeat (first | with_reducible exact Below.refl _ _ | with_reducible assumption | with_reducible refine Below.drew ?_ | with_reducible refine Below.alloc ?_ (by first | exact Nat.le_refl _ | (simp; done) | (simp; omega) | omega) _ | with_reducible refine Below.setCell ?_ (by first | exact Nat.le_refl _ | (simp; done) | (simp; omega) | omega) _ | with_reducible refine Below.trans ?_ (Below.mono (by with_reducible assumption) (by first | exact Nat.le_refl _ | (simp; done) | (simp; omega) | omega))))
  have b00 : W.cell? ⟨w.heap.size, 0, none⟩ = some (.int .i64 x0) := by subst hW; simp [go_sem]
  have b01 : W.cell? ⟨w.heap.size, 1, none⟩ = some (.int .i64 x1) := by subst hW; simp [go_sem]
  have b02 : W.cell? ⟨w.heap.size, 2, none⟩ = some (.int .i64 x2) := by subst hW; simp [go_sem]
  have b03 : W.cell? ⟨w.heap.size, 3, none⟩ = some (.int .i64 x3) := by subst hW; simp [go_sem]
  have b04 : W.cell? ⟨w.heap.size, 4, none⟩ = some (.int .i64 x4) := by subst hW; simp [go_sem]
  have b05 : W.cell? ⟨w.heap.size, 5, none⟩ = some (.int .i64 x5) := by subst hW; simp [go_sem]
  have b06 : W.cell? ⟨w.heap.size, 6, none⟩ = some (.int .i64 x6) := by subst hW; simp [go_sem]
  have b07 : W.cell? ⟨w.heap.size, 7, none⟩ = some (.int .i64 x7) := by subst hW; simp [go_sem]
  have b08 : W.cell? ⟨w.heap.size, 8, none⟩ = some (.slice a0 l.length cap0) := by subst hW; simp [go_sem]
  have L0 : w.heap.size < W.heap.size := by subst hW; first | (simp; done) | (simp; omega)
  have b10 : W.cell? ⟨w.heap.size + 1, 0, none⟩ = some (.int .i64 y0) := by subst hW; simp [go_sem]
  have b11 : W.cell? ⟨w.heap.size + 1, 1, none⟩ = some (.int .i64 y1) := by subst hW; simp [go_sem]
  have b12 : W.cell? ⟨w.heap.size + 1, 2, none⟩ = some (.int .i64 y2) := by subst hW; simp [go_sem]
  have b13 : W.cell? ⟨w.heap.size + 1, 3, none⟩ = some (.int .i64 y3) := by subst hW; simp [go_sem]
  have L1 : w.heap.size + 1 < W.heap.size := by subst hW; first | (simp; done) | (simp; omega)
  rw [← hW]
  clear hW
  generalize w.heap.size + 1 = B1 at *
  obtain ⟨B0, hB0⟩ : ∃ B, B = w.heap.size := ⟨_, rfl⟩
  rw [← hB0] at b00 b01 b02 b03 b04 b05 b06 b07 b08 L0
  try rw [← hB0]
  replace hB0 := Lib.hid hB0
  have FV := Lib.hid (hf0.out.below HD)
  refine (szCourse_c x0 x1 x2 x3 x4 x5 x6 x7 a0 cap0 l 1048576 W hl0 FV.out HS.out (by omega) (by omega)).mono ?_
  rintro e V1 ⟨⟨z, rfl, hz0⟩, hb⟩
  replace HD := HD.trans (hb.mono HD.size)
  obtain ⟨hc, hf⟩ := bcell hb
  have hz := hb.size
  replace b00 := (hc _ 0 L0).trans b00
  replace b01 := (hc _ 1 L0).trans b01
  replace b02 := (hc _ 2 L0).trans b02
  replace b03 := (hc _ 3 L0).trans b03
  replace b04 := (hc _ 4 L0).trans b04
  replace b05 := (hc _ 5 L0).trans b05
  replace b06 := (hc _ 6 L0).trans b06
  replace b07 := (hc _ 7 L0).trans b07
  replace b08 := (hc _ 8 L0).trans b08
  replace b10 := (hc _ 0 L1).trans b10
  replace b11 := (hc _ 1 L1).trans b11
  replace b12 := (hc _ 2 L1).trans b12
  replace b13 := (hc _ 3 L1).trans b13
  replace FV := Lib.hid (RowAt.below FV.out hb)
  replace L0 := Nat.lt_of_lt_of_le L0 hz
  replace L1 := Nat.lt_of_lt_of_le L1 hz
  clear hc hf hz hb
  by_cases hn : z < 0
  case pos =>
    go_wp2_with fail
    go_ret
    exact ⟨rfl, HD⟩
  have hl9 := hz0 (by omega)
  have hl1 : l.length ≤ 1048576 := by omega
  have hl2 : l.length ≤ 4611686018427387904 := by omega
  have hl3 : l.length ≤ 9223372036854775807 := by omega
  clear hl9 hz0
  go_wp2_with fail
  have cs := fun g w h => ShortenCourseS_c x0 x1 x2 x3 x4 x5 x6 x7 (some ⟨g, 0, none⟩) l.length l k y0 y1 y2 y3 w hl2 h HS.out (Nat.le_refl _)
  have ci := fun g w h => ShortenCourse_c x0 x1 x2 x3 x4 x5 x6 x7 (some ⟨g, 0, none⟩) l.length l k y0 y1 y2 y3 w hl2 h HS.out (Nat.le_refl _)
  have hn2 := shR_len x0 x1 x2 x3 x4 x5 x6 x7 l k y0 y1 y2 y3
  generalize shR x0 x1 x2 x3 x4 x5 x6 x7 l k y0 y1 y2 y3 = R at *
  obtain ⟨z0, z1, z2, z3, z4, z5, z6, z7, L, R2⟩ := R
  dsimp only at cs ci hn2
  have hn3 : L.length ≤ 9223372036854775807 := by omega
  have CS := Lib.hid cs
  have CI := Lib.hid ci
  clear cs ci
  have hV1s := HD.size
  go_cut [8, 9] (fun sp sc wx => ∃ (C : Nat) (a9 : Option Addr) (cap9 : Nat), sp = .pointer (some ⟨C, 0, none⟩) ∧ sc = .int .i64 R2 ∧ wx.cell? ⟨C, 0, none⟩ = some (.int .i64 z0) ∧ wx.cell? ⟨C, 1, none⟩ = some (.int .i64 z1) ∧ wx.cell? ⟨C, 2, none⟩ = some (.int .i64 z2) ∧ wx.cell? ⟨C, 3, none⟩ = some (.int .i64 z3) ∧ wx.cell? ⟨C, 4, none⟩ = some (.int .i64 z4) ∧ wx.cell? ⟨C, 5, none⟩ = some (.int .i64 z5) ∧ wx.cell? ⟨C, 6, none⟩ = some (.int .i64 z6) ∧ wx.cell? ⟨C, 7, none⟩ = some (.int .i64 z7) ∧ wx.cell? ⟨C, 8, none⟩ = some (.slice a9 L.length cap9) ∧ wx.ownsRow V1.heap.size 64 5 (.slice a9 L.length cap9) L.length (mflat L) ∧ C < wx.heap.size ∧ V1.heap.size ≤ C ∧ (∀ j, (Value.slice a9 L.length cap9).ownBlock = some j → j ≠ C) ∧ Below V1.heap.size V1 wx)
  case first =>
    go_region_held3 (fun wx => Below V1.heap.size V1 wx ∧ ∀ b o, b < V1.heap.size → wx.cell? ⟨b, o, none⟩ = V1.cell? ⟨b, o, none⟩)
      (repeat (first | with_reducible assumption | with_reducible refine held_set9 ?_ (by first | with_reducible exact Nat.le_refl _ | with_reducible exact Nat.le_add_right _ _ | with_reducible assumption | omega | (simp; omega)) _ _ _ _ _ _ _ _ _ | with_reducible refine held_set5 ?_ (by first | with_reducible exact Nat.le_refl _ | with_reducible exact Nat.le_add_right _ _ | with_reducible assumption | omega | (simp; omega)) _ _ _ _ _ | with_reducible exact held_back (by with_reducible assumption) (by first | with_reducible exact Nat.le_refl _ | with_reducible exact Nat.le_add_right _ _ | with_reducible assumption | omega | (simp; omega)) | with_reducible exact held_back (held_back (by with_reducible assumption) (by first | with_reducible exact Nat.le_refl _ | with_reducible exact Nat.le_add_right _ _ | with_reducible assumption | omega | (simp; omega))) (by first | with_reducible exact Nat.le_refl _ | with_reducible exact Nat.le_add_right _ _ | with_reducible assumption | omega | (simp; omega)) | with_reducible refine held_set4 ?_ (by first | with_reducible exact Nat.le_refl _ | with_reducible exact Nat.le_add_right _ _ | with_reducible assumption | omega | (simp; omega)) _ _ _ _ | with_reducible refine held_set2 ?_ (by first | with_reducible exact Nat.le_refl _ | with_reducible exact Nat.le_add_right _ _ | with_reducible assumption | omega | (simp; omega)) _ _ | with_reducible refine held_alloc ?_ _ | with_reducible exact held_step (by assumption) hb | with_reducible refine held_drew ?_ | with_reducible exact held_refl _ | with_reducible exact held_start _ _ | with_reducible exact held_begin _))
      (first | (go_at_call 14; refine (toCourse_c x0 x1 x2 x3 x4 x5 x6 x7 a0 cap0 l _ hl1 (FV.out.below (And.left (by with_reducible assumption)))).mono ?_; rintro e w1 ⟨⟨g, rfl, hg, hlg⟩, hb⟩; have hz := held_size (by with_reducible assumption) hb; (try simp at hz); have hs := hb.size; (try simp at hs); obtain ⟨hc, hf⟩ := bcell hb; (try have hl := below_lt hb); (try simp at hl); (try have hlW : V1.heap.size < w1.heap.size := by first | omega | (simp; omega)); have hgR := rowAt_own hg) | (go_at_call 30; refine (toLine_c _ _ _ _ _).mono ?_; rintro e w1 ⟨rfl, hb⟩; have hz := held_size (by with_reducible assumption) hb; (try simp at hz); have hs := hb.size; (try simp at hs); obtain ⟨hc, hf⟩ := bcell hb; (try have hl := below_lt hb); (try simp at hl); (try have hlW : V1.heap.size < w1.heap.size := by first | omega | (simp; omega))) | (go_at_call 22; refine (CS.out _ _ (RowAt.below (by assumption) (by repeat (first | with_reducible exact Below.refl _ _ | with_reducible assumption | with_reducible refine Below.drew ?_ | with_reducible refine Below.alloc ?_ (by first | exact Nat.le_refl _ | (simp; done) | (simp; omega) | omega) _ | with_reducible refine Below.setCell ?_ (by first | exact Nat.le_refl _ | (simp; done) | (simp; omega) | omega) _ | with_reducible refine Below.trans ?_ (Below.mono (by with_reducible assumption) (by first | exact Nat.le_refl _ | (simp; done) | (simp; omega) | omega)))))).mono ?_; rintro e w1 ⟨⟨a9, cap9, rfl, ho⟩, hb⟩; have hz := held_size (by with_reducible assumption) hb; (try simp at hz); have hs := hb.size; (try simp at hs); obtain ⟨hc, hf⟩ := bcell hb; (try have hl := below_lt hb); (try simp at hl); (try have hlW : V1.heap.size < w1.heap.size := by first | omega | (simp; omega)); have hoV := pown_mono (base' := V1.heap.size) ho (by first | exact Nat.le_refl _ | (simp; done) | (simp; omega) | omega); have hoN := fun j e => ho.lt j e; (try simp at hoN)))
    all_goals (go_wp2_with fail; go_meet; exact ⟨_, a9, cap9, rfl, rfl, (by go_light; go_simp), (by go_light; go_simp), (by go_light; go_simp), (by go_light; go_simp), (by go_light; go_simp), (by go_light; go_simp), (by go_light; go_simp), (by go_light; go_simp), (by go_light; go_simp), (by first | (repeat (first | with_reducible exact hoV | with_reducible refine World.ownsRow.alloc ?_ _ | with_reducible refine World.ownsRow.drew ?_ | with_reducible refine ownsRow_setCell_other ?_ (fun e => by have h9 := hoN _ e; first | (simp only at h9; omega) | omega) _))), (by go_light; first | (simp; done) | (simp; omega) | omega), (by go_light; first | exact Nat.le_refl _ | (simp; done) | (simp; omega) | omega), (fun j e => by have h9 := hoN j e; first | omega | (simp; omega)), (held_of (by with_reducible exact And.left (by with_reducible assumption))).1⟩)
  case rest =>
    obtain ⟨C6, a6, cap6, rfl, rfl, k60, k61, k62, k63, k64, k65, k66, k67, k68, ho, K6, W6, hNE6, hb⟩ := hcut
    obtain ⟨V2, rfl⟩ : ∃ x : World, x = wc := ⟨_, rfl⟩
    have own6 := Lib.hid ho
    clear ho
    have hDE6 := hb.size
    have U6 := Lib.hid (fun j (e : (Value.slice a6 L.length cap6).ownBlock = some j) => And.intro (own6.out.lt j e) (hNE6 j e))
    clear hNE6
    obtain ⟨D6, hD6⟩ : ∃ x, x = V1.heap.size := ⟨_, rfl⟩
    have d6L0 : B0 < D6 := by omega
    have d6L1 : B1 < D6 := by omega
    rw [← hD6] at own6 U6 hDE6 W6
    have hwD6 : w.heap.size ≤ D6 := by have := HD.size; omega
    replace HD := HD.trans (hb.mono HD.size)
    obtain ⟨hc, hf⟩ := bcell hb
    have hz := hb.size
    replace b00 := (hc _ 0 L0).trans b00
    replace b01 := (hc _ 1 L0).trans b01
    replace b02 := (hc _ 2 L0).trans b02
    replace b03 := (hc _ 3 L0).trans b03
    replace b04 := (hc _ 4 L0).trans b04
    replace b05 := (hc _ 5 L0).trans b05
    replace b06 := (hc _ 6 L0).trans b06
    replace b07 := (hc _ 7 L0).trans b07
    replace b08 := (hc _ 8 L0).trans b08
    replace b10 := (hc _ 0 L1).trans b10
    replace b11 := (hc _ 1 L1).trans b11
    replace b12 := (hc _ 2 L1).trans b12
    replace b13 := (hc _ 3 L1).trans b13
    replace FV := Lib.hid (RowAt.below FV.out hb)
    replace L0 := Nat.lt_of_lt_of_le L0 hz
    replace L1 := Nat.lt_of_lt_of_le L1 hz
    clear hc hf hz hb
    obtain ⟨E6, hE6⟩ : ∃ x, x = V2.heap.size := ⟨_, rfl⟩
    rw [← hE6] at U6 hDE6
    have hCE6 : C6 < E6 := by omega
    have hEE6 := Lib.hid hE6
    clear hE6
    have hDD6 := Lib.hid hD6
    clear hD6
    go_wp2_with fail
    refine (toCourse_c x0 x1 x2 x3 x4 x5 x6 x7 a0 cap0 l V2 hl1 FV.out).mono ?_
    rintro e V3 ⟨⟨g0, rfl, hg, hlg⟩, hb⟩
    have hG0 := Lib.hid hg
    have hg0 : E6 ≤ g0 ∧ w.heap.size ≤ g0 ∧ B0 < g0 ∧ B1 < g0 := ⟨by have := hEE6.out; omega, by have := HD.size; omega, by omega, by omega⟩
    have hg1 := hlg.2
    clear hg hlg
    replace HD := HD.trans (hb.mono HD.size)
    obtain ⟨hc, hf⟩ := bcell hb
    have hz := hb.size
    replace b00 := (hc _ 0 L0).trans b00
    replace b01 := (hc _ 1 L0).trans b01
    replace b02 := (hc _ 2 L0).trans b02
    replace b03 := (hc _ 3 L0).trans b03
    replace b04 := (hc _ 4 L0).trans b04
    replace b05 := (hc _ 5 L0).trans b05
    replace b06 := (hc _ 6 L0).trans b06
    replace b07 := (hc _ 7 L0).trans b07
    replace b08 := (hc _ 8 L0).trans b08
    replace b10 := (hc _ 0 L1).trans b10
    replace b11 := (hc _ 1 L1).trans b11
    replace b12 := (hc _ 2 L1).trans b12
    replace b13 := (hc _ 3 L1).trans b13
    replace k60 := (hc _ 0 K6).trans k60
    replace k61 := (hc _ 1 K6).trans k61
    replace k62 := (hc _ 2 K6).trans k62
    replace k63 := (hc _ 3 K6).trans k63
    replace k64 := (hc _ 4 K6).trans k64
    replace k65 := (hc _ 5 K6).trans k65
    replace k66 := (hc _ 6 K6).trans k66
    replace k67 := (hc _ 7 K6).trans k67
    replace k68 := (hc _ 8 K6).trans k68
    replace FV := Lib.hid (RowAt.below FV.out hb)
    replace own6 := Lib.hid (pown_below own6.out hb)
    replace L0 := Nat.lt_of_lt_of_le L0 hz
    replace L1 := Nat.lt_of_lt_of_le L1 hz
    replace K6 := Nat.lt_of_lt_of_le K6 hz
    clear hc hf hz hb
    go_wp2_with fail
    obtain ⟨V4, hV4⟩ : ∃ x, x = V3.alloc (.cells #[.int .i64 x0, .int .i64 x1, .int .i64 x2, .int .i64 x3, .int .i64 x4, .int .i64 x5, .int .i64 x6, .int .i64 x7, .slice (some ⟨g0, 0, none⟩) l.length l.length] 36) := ⟨_, rfl⟩
    have hb : Below V3.heap.size V3 V4 := by subst hV4; exact (Below.refl _ _).alloc (Nat.le_refl _) _
    have k00 : V4.cell? ⟨V3.heap.size, 0, none⟩ = some (.int .i64 x0) := by subst hV4; simp [go_sem]
    have k01 : V4.cell? ⟨V3.heap.size, 1, none⟩ = some (.int .i64 x1) := by subst hV4; simp [go_sem]
    have k02 : V4.cell? ⟨V3.heap.size, 2, none⟩ = some (.int .i64 x2) := by subst hV4; simp [go_sem]
    have k03 : V4.cell? ⟨V3.heap.size, 3, none⟩ = some (.int .i64 x3) := by subst hV4; simp [go_sem]
    have k04 : V4.cell? ⟨V3.heap.size, 4, none⟩ = some (.int .i64 x4) := by subst hV4; simp [go_sem]
    have k05 : V4.cell? ⟨V3.heap.size, 5, none⟩ = some (.int .i64 x5) := by subst hV4; simp [go_sem]
    have k06 : V4.cell? ⟨V3.heap.size, 6, none⟩ = some (.int .i64 x6) := by subst hV4; simp [go_sem]
    have k07 : V4.cell? ⟨V3.heap.size, 7, none⟩ = some (.int .i64 x7) := by subst hV4; simp [go_sem]
    have k08 : V4.cell? ⟨V3.heap.size, 8, none⟩ = some (.slice (some ⟨g0, 0, none⟩) l.length l.length) := by subst hV4; simp [go_sem]
    have K0 : V3.heap.size < V4.heap.size := by subst hV4; simp
    have hS0 := Lib.hid (show V4.heap.size = V3.heap.size + 1 by subst hV4; simp)
    rw [← hV4]
    clear hV4
    replace HD := HD.trans (hb.mono HD.size)
    obtain ⟨hc, hf⟩ := bcell hb
    have hz := hb.size
    replace b00 := (hc _ 0 L0).trans b00
    replace b01 := (hc _ 1 L0).trans b01
    replace b02 := (hc _ 2 L0).trans b02
    replace b03 := (hc _ 3 L0).trans b03
    replace b04 := (hc _ 4 L0).trans b04
    replace b05 := (hc _ 5 L0).trans b05
    replace b06 := (hc _ 6 L0).trans b06
    replace b07 := (hc _ 7 L0).trans b07
    replace b08 := (hc _ 8 L0).trans b08
    replace b10 := (hc _ 0 L1).trans b10
    replace b11 := (hc _ 1 L1).trans b11
    replace b12 := (hc _ 2 L1).trans b12
    replace b13 := (hc _ 3 L1).trans b13
    replace k60 := (hc _ 0 K6).trans k60
    replace k61 := (hc _ 1 K6).trans k61
    replace k62 := (hc _ 2 K6).trans k62
    replace k63 := (hc _ 3 K6).trans k63
    replace k64 := (hc _ 4 K6).trans k64
    replace k65 := (hc _ 5 K6).trans k65
    replace k66 := (hc _ 6 K6).trans k66
    replace k67 := (hc _ 7 K6).trans k67
    replace k68 := (hc _ 8 K6).trans k68
    replace FV := Lib.hid (RowAt.below FV.out hb)
    replace own6 := Lib.hid (pown_below own6.out hb)
    replace hG0 := Lib.hid (pown_below hG0.out hb)
    replace L0 := Nat.lt_of_lt_of_le L0 hz
    replace L1 := Nat.lt_of_lt_of_le L1 hz
    replace K6 := Nat.lt_of_lt_of_le K6 hz
    clear hc hf hz hb
    obtain ⟨C0, hC0⟩ : ∃ x, x = V3.heap.size := ⟨_, rfl⟩
    rw [← hC0] at k00 k01 k02 k03 k04 k05 k06 k07 k08 K0
    try rw [← hC0]
    replace hC0 := Lib.hid hC0
    have hg2 : g0 < C0 := by have := hC0.out; omega
    go_wp2_with fail
    go_cut [11, 12] (fun sp sc wx => ∃ (C : Nat) (a9 : Option Addr) (cap9 : Nat), sp = .pointer (some ⟨C, 0, none⟩) ∧ sc = .int .i64 R2 ∧ wx.cell? ⟨C, 0, none⟩ = some (.int .i64 z0) ∧ wx.cell? ⟨C, 1, none⟩ = some (.int .i64 z1) ∧ wx.cell? ⟨C, 2, none⟩ = some (.int .i64 z2) ∧ wx.cell? ⟨C, 3, none⟩ = some (.int .i64 z3) ∧ wx.cell? ⟨C, 4, none⟩ = some (.int .i64 z4) ∧ wx.cell? ⟨C, 5, none⟩ = some (.int .i64 z5) ∧ wx.cell? ⟨C, 6, none⟩ = some (.int .i64 z6) ∧ wx.cell? ⟨C, 7, none⟩ = some (.int .i64 z7) ∧ wx.cell? ⟨C, 8, none⟩ = some (.slice a9 L.length cap9) ∧ wx.ownsRow V4.heap.size 64 5 (.slice a9 L.length cap9) L.length (mflat L) ∧ C < wx.heap.size ∧ V4.heap.size ≤ C ∧ (∀ j, (Value.slice a9 L.length cap9).ownBlock = some j → j ≠ C) ∧ Below V4.heap.size V4 wx)
    case first =>
      go_region_held3 (fun wx => Below V4.heap.size V4 wx ∧ ∀ b o, b < V4.heap.size → wx.cell? ⟨b, o, none⟩ = V4.cell? ⟨b, o, none⟩)
        (repeat (first | with_reducible assumption | with_reducible refine held_set9 ?_ (by first | with_reducible exact Nat.le_refl _ | with_reducible exact Nat.le_add_right _ _ | with_reducible assumption | omega | (simp; omega)) _ _ _ _ _ _ _ _ _ | with_reducible refine held_set5 ?_ (by first | with_reducible exact Nat.le_refl _ | with_reducible exact Nat.le_add_right _ _ | with_reducible assumption | omega | (simp; omega)) _ _ _ _ _ | with_reducible exact held_back (by with_reducible assumption) (by first | with_reducible exact Nat.le_refl _ | with_reducible exact Nat.le_add_right _ _ | with_reducible assumption | omega | (simp; omega)) | with_reducible exact held_back (held_back (by with_reducible assumption) (by first | with_reducible exact Nat.le_refl _ | with_reducible exact Nat.le_add_right _ _ | with_reducible assumption | omega | (simp; omega))) (by first | with_reducible exact Nat.le_refl _ | with_reducible exact Nat.le_add_right _ _ | with_reducible assumption | omega | (simp; omega)) | with_reducible refine held_set4 ?_ (by first | with_reducible exact Nat.le_refl _ | with_reducible exact Nat.le_add_right _ _ | with_reducible assumption | omega | (simp; omega)) _ _ _ _ | with_reducible refine held_set2 ?_ (by first | with_reducible exact Nat.le_refl _ | with_reducible exact Nat.le_add_right _ _ | with_reducible assumption | omega | (simp; omega)) _ _ | with_reducible refine held_alloc ?_ _ | with_reducible exact held_step (by assumption) hb | with_reducible refine held_drew ?_ | with_reducible exact held_refl _ | with_reducible exact held_start _ _ | with_reducible exact held_begin _))
        (first | (go_at_call 30; refine (toLine_c _ _ _ _ _).mono ?_; rintro e w1 ⟨rfl, hb⟩; have hz := held_size (by with_reducible assumption) hb; (try simp at hz); have hs := hb.size; (try simp at hs); obtain ⟨hc, hf⟩ := bcell hb; (try have hl := below_lt hb); (try simp at hl); (try have hlW : V4.heap.size < w1.heap.size := by first | omega | (simp; omega))) | (go_at_call 21; refine (CI.out _ _ (RowAt.below (rowAt_own hG0.out) (And.left (by with_reducible assumption)))).mono ?_; rintro e w1 ⟨⟨a9, cap9, rfl, ho⟩, hb⟩; have hz := held_size (by with_reducible assumption) hb; (try simp at hz); have hs := hb.size; (try simp at hs); obtain ⟨hc, hf⟩ := bcell hb; (try have hl := below_lt hb); (try simp at hl); (try have hlW : V4.heap.size < w1.heap.size := by first | omega | (simp; omega)); have hoV := pown_mono (base' := V4.heap.size) ho (by first | exact Nat.le_refl _ | (simp; done) | (simp; omega) | omega); have hoN := fun j e => ho.lt j e; (try simp at hoN)))
      all_goals (go_wp2_with fail; go_meet; exact ⟨_, a9, cap9, rfl, rfl, (by go_light; go_simp), (by go_light; go_simp), (by go_light; go_simp), (by go_light; go_simp), (by go_light; go_simp), (by go_light; go_simp), (by go_light; go_simp), (by go_light; go_simp), (by go_light; go_simp), (by first | (repeat (first | with_reducible exact hoV | with_reducible refine World.ownsRow.alloc ?_ _ | with_reducible refine World.ownsRow.drew ?_ | with_reducible refine ownsRow_setCell_other ?_ (fun e => by have h9 := hoN _ e; first | (simp only at h9; omega) | omega) _))), (by go_light; first | (simp; done) | (simp; omega) | omega), (by go_light; first | exact Nat.le_refl _ | (simp; done) | (simp; omega) | omega), (fun j e => by have h9 := hoN j e; first | omega | (simp; omega)), (held_of (by with_reducible exact And.left (by with_reducible assumption))).1⟩)
    case rest =>
      obtain ⟨C9, a9, cap9, rfl, rfl, k90, k91, k92, k93, k94, k95, k96, k97, k98, ho, K9, W9, hNE9, hb⟩ := hcut
      obtain ⟨V5, rfl⟩ : ∃ x : World, x = wc := ⟨_, rfl⟩
      have own9 := Lib.hid ho
      clear ho
      have hDE9 := hb.size
      have U9 := Lib.hid (fun j (e : (Value.slice a9 L.length cap9).ownBlock = some j) => And.intro (own9.out.lt j e) (hNE9 j e))
      clear hNE9
      obtain ⟨D9, hD9⟩ : ∃ x, x = V4.heap.size := ⟨_, rfl⟩
      have d9L0 : B0 < D9 := by omega
      have d9L1 : B1 < D9 := by omega
      have d9K6 : C6 < D9 := by omega
      have d9K0 : C0 < D9 := by omega
      rw [← hD9] at own9 U9 hDE9 W9
      have hwD9 : w.heap.size ≤ D9 := by have := HD.size; omega
      replace HD := HD.trans (hb.mono HD.size)
      obtain ⟨hc, hf⟩ := bcell hb
      have hz := hb.size
      replace b00 := (hc _ 0 L0).trans b00
      replace b01 := (hc _ 1 L0).trans b01
      replace b02 := (hc _ 2 L0).trans b02
      replace b03 := (hc _ 3 L0).trans b03
      replace b04 := (hc _ 4 L0).trans b04
      replace b05 := (hc _ 5 L0).trans b05
      replace b06 := (hc _ 6 L0).trans b06
      replace b07 := (hc _ 7 L0).trans b07
      replace b08 := (hc _ 8 L0).trans b08
      replace b10 := (hc _ 0 L1).trans b10
      replace b11 := (hc _ 1 L1).trans b11
      replace b12 := (hc _ 2 L1).trans b12
      replace b13 := (hc _ 3 L1).trans b13
      replace k60 := (hc _ 0 K6).trans k60
      replace k61 := (hc _ 1 K6).trans k61
      replace k62 := (hc _ 2 K6).trans k62
      replace k63 := (hc _ 3 K6).trans k63
      replace k64 := (hc _ 4 K6).trans k64
      replace k65 := (hc _ 5 K6).trans k65
      replace k66 := (hc _ 6 K6).trans k66
      replace k67 := (hc _ 7 K6).trans k67
      replace k68 := (hc _ 8 K6).trans k68
      replace k00 := (hc _ 0 K0).trans k00
      replace k01 := (hc _ 1 K0).trans k01
      replace k02 := (hc _ 2 K0).trans k02
      replace k03 := (hc _ 3 K0).trans k03
      replace k04 := (hc _ 4 K0).trans k04
      replace k05 := (hc _ 5 K0).trans k05
      replace k06 := (hc _ 6 K0).trans k06
      replace k07 := (hc _ 7 K0).trans k07
      replace k08 := (hc _ 8 K0).trans k08
      replace FV := Lib.hid (RowAt.below FV.out hb)
      replace own6 := Lib.hid (pown_below own6.out hb)
      replace hG0 := Lib.hid (pown_below hG0.out hb)
      replace L0 := Nat.lt_of_lt_of_le L0 hz
      replace L1 := Nat.lt_of_lt_of_le L1 hz
      replace K6 := Nat.lt_of_lt_of_le K6 hz
      replace K0 := Nat.lt_of_lt_of_le K0 hz
      clear hc hf hz hb
      obtain ⟨E9, hE9⟩ : ∃ x, x = V5.heap.size := ⟨_, rfl⟩
      rw [← hE9] at U9 hDE9
      have hCE9 : C9 < E9 := by omega
      have hEE9 := Lib.hid hE9
      clear hE9
      have hDD9 := Lib.hid hD9
      clear hD9
      go_wp2_with fail
      refine (eqCourse_same z0 z1 z2 z3 z4 z5 z6 z7 a9 a6 cap9 cap6 L V5 hn3 (row_ownP own9.out (mflat_length L)) (row_ownP own6.out (mflat_length L))).mono ?_
      rintro e V6 ⟨rfl, hb⟩
      replace HD := HD.trans (hb.mono HD.size)
      obtain ⟨hc, hf⟩ := bcell hb
      have hz := hb.size
      replace b00 := (hc _ 0 L0).trans b00
      replace b01 := (hc _ 1 L0).trans b01
      replace b02 := (hc _ 2 L0).trans b02
      replace b03 := (hc _ 3 L0).trans b03
      replace b04 := (hc _ 4 L0).trans b04
      replace b05 := (hc _ 5 L0).trans b05
      replace b06 := (hc _ 6 L0).trans b06
      replace b07 := (hc _ 7 L0).trans b07
      replace b08 := (hc _ 8 L0).trans b08
      replace b10 := (hc _ 0 L1).trans b10
      replace b11 := (hc _ 1 L1).trans b11
      replace b12 := (hc _ 2 L1).trans b12
      replace b13 := (hc _ 3 L1).trans b13
      replace k60 := (hc _ 0 K6).trans k60
      replace k61 := (hc _ 1 K6).trans k61
      replace k62 := (hc _ 2 K6).trans k62
      replace k63 := (hc _ 3 K6).trans k63
      replace k64 := (hc _ 4 K6).trans k64
      replace k65 := (hc _ 5 K6).trans k65
      replace k66 := (hc _ 6 K6).trans k66
      replace k67 := (hc _ 7 K6).trans k67
      replace k68 := (hc _ 8 K6).trans k68
      replace k00 := (hc _ 0 K0).trans k00
      replace k01 := (hc _ 1 K0).trans k01
      replace k02 := (hc _ 2 K0).trans k02
      replace k03 := (hc _ 3 K0).trans k03
      replace k04 := (hc _ 4 K0).trans k04
      replace k05 := (hc _ 5 K0).trans k05
      replace k06 := (hc _ 6 K0).trans k06
      replace k07 := (hc _ 7 K0).trans k07
      replace k08 := (hc _ 8 K0).trans k08
      replace k90 := (hc _ 0 K9).trans k90
      replace k91 := (hc _ 1 K9).trans k91
      replace k92 := (hc _ 2 K9).trans k92
      replace k93 := (hc _ 3 K9).trans k93
      replace k94 := (hc _ 4 K9).trans k94
      replace k95 := (hc _ 5 K9).trans k95
      replace k96 := (hc _ 6 K9).trans k96
      replace k97 := (hc _ 7 K9).trans k97
      replace k98 := (hc _ 8 K9).trans k98
      replace FV := Lib.hid (RowAt.below FV.out hb)
      replace own6 := Lib.hid (pown_below own6.out hb)
      replace hG0 := Lib.hid (pown_below hG0.out hb)
      replace own9 := Lib.hid (pown_below own9.out hb)
      replace L0 := Nat.lt_of_lt_of_le L0 hz
      replace L1 := Nat.lt_of_lt_of_le L1 hz
      replace K6 := Nat.lt_of_lt_of_le K6 hz
      replace K0 := Nat.lt_of_lt_of_le K0 hz
      replace K9 := Nat.lt_of_lt_of_le K9 hz
      clear hc hf hz hb
      go_wp2_with fail
      go_cut [55] (fun s55 wx => s55 = .bool false ∧ Below V6.heap.size V6 wx)
      case first =>
        go_region_held3 (fun wx => Below V6.heap.size V6 wx ∧ ∀ b o, b < V6.heap.size → wx.cell? ⟨b, o, none⟩ = V6.cell? ⟨b, o, none⟩)
          (first | with_reducible exact held_step (by assumption) hb | with_reducible exact held_start _ _ | with_reducible exact held_begin _)
          (first | (go_at_call 14; refine (toCourse_c x0 x1 x2 x3 x4 x5 x6 x7 a0 cap0 l _ hl1 (FV.out.below (And.left (by with_reducible assumption)))).mono ?_; rintro e w1 ⟨⟨g, rfl, hg, hlg⟩, hb⟩; have hz := held_size (by with_reducible assumption) hb; (try simp at hz); have hs := hb.size; (try simp at hs)) | (go_at_call 16; refine (eqCourse_same x0 x1 x2 x3 x4 x5 x6 x7 _ _ _ _ l _ hl3 (RowAt.below (rowAt_own hG0.out) (And.left (by with_reducible assumption))) (RowAt.below (rowAt_own (by assumption)) (by repeat (first | with_reducible exact Below.refl _ _ | with_reducible assumption | with_reducible refine Below.drew ?_ | with_reducible refine Below.alloc ?_ (by first | exact Nat.le_refl _ | (simp; done) | (simp; omega) | omega) _ | with_reducible refine Below.setCell ?_ (by first | exact Nat.le_refl _ | (simp; done) | (simp; omega) | omega) _ | with_reducible refine Below.trans ?_ (Below.mono (by with_reducible assumption) (by first | exact Nat.le_refl _ | (simp; done) | (simp; omega) | omega)))))).mono ?_; rintro e w1 ⟨rfl, hb⟩; have hz := held_size (by with_reducible assumption) hb; (try simp at hz); have hs := hb.size; (try simp at hs)))
        all_goals go_wp2_with fail
        all_goals (go_meet; exact ⟨rfl, And.left (by with_reducible assumption)⟩)
      case rest =>
        obtain ⟨rfl, hb⟩ := hcut
        obtain ⟨V7, rfl⟩ : ∃ x : World, x = wc := ⟨_, rfl⟩
        replace HD := HD.trans (hb.mono HD.size)
        obtain ⟨hc, hf⟩ := bcell hb
        have hz := hb.size
        replace b00 := (hc _ 0 L0).trans b00
        replace b01 := (hc _ 1 L0).trans b01
        replace b02 := (hc _ 2 L0).trans b02
        replace b03 := (hc _ 3 L0).trans b03
        replace b04 := (hc _ 4 L0).trans b04
        replace b05 := (hc _ 5 L0).trans b05
        replace b06 := (hc _ 6 L0).trans b06
        replace b07 := (hc _ 7 L0).trans b07
        replace b08 := (hc _ 8 L0).trans b08
        replace b10 := (hc _ 0 L1).trans b10
        replace b11 := (hc _ 1 L1).trans b11
        replace b12 := (hc _ 2 L1).trans b12
        replace b13 := (hc _ 3 L1).trans b13
        replace k60 := (hc _ 0 K6).trans k60
        replace k61 := (hc _ 1 K6).trans k61
        replace k62 := (hc _ 2 K6).trans k62
        replace k63 := (hc _ 3 K6).trans k63
        replace k64 := (hc _ 4 K6).trans k64
        replace k65 := (hc _ 5 K6).trans k65
        replace k66 := (hc _ 6 K6).trans k66
        replace k67 := (hc _ 7 K6).trans k67
        replace k68 := (hc _ 8 K6).trans k68
        replace k00 := (hc _ 0 K0).trans k00
        replace k01 := (hc _ 1 K0).trans k01
        replace k02 := (hc _ 2 K0).trans k02
        replace k03 := (hc _ 3 K0).trans k03
        replace k04 := (hc _ 4 K0).trans k04
        replace k05 := (hc _ 5 K0).trans k05
        replace k06 := (hc _ 6 K0).trans k06
        replace k07 := (hc _ 7 K0).trans k07
        replace k08 := (hc _ 8 K0).trans k08
        replace k90 := (hc _ 0 K9).trans k90
        replace k91 := (hc _ 1 K9).trans k91
        replace k92 := (hc _ 2 K9).trans k92
        replace k93 := (hc _ 3 K9).trans k93
        replace k94 := (hc _ 4 K9).trans k94
        replace k95 := (hc _ 5 K9).trans k95
        replace k96 := (hc _ 6 K9).trans k96
        replace k97 := (hc _ 7 K9).trans k97
        replace k98 := (hc _ 8 K9).trans k98
        replace FV := Lib.hid (RowAt.below FV.out hb)
        replace own6 := Lib.hid (pown_below own6.out hb)
        replace hG0 := Lib.hid (pown_below hG0.out hb)
        replace own9 := Lib.hid (pown_below own9.out hb)
        replace L0 := Nat.lt_of_lt_of_le L0 hz
        replace L1 := Nat.lt_of_lt_of_le L1 hz
        replace K6 := Nat.lt_of_lt_of_le K6 hz
        replace K0 := Nat.lt_of_lt_of_le K0 hz
        replace K9 := Nat.lt_of_lt_of_le K9 hz
        clear hc hf hz hb
        go_wp2_with fail
        have cm := markCourse2_c x0 x1 x2 x3 x4 x5 x6 x7 (some ⟨g0, 0, none⟩) l.length l.length 1 0 l V7 (by omega) (by omega) rfl (pown_mono hG0.out (Nat.zero_le _))
        have hM : ¬ (((1 + 5 * l.length : Nat) : Int) < 0) := by omega
        generalize hqM : ((1 + 5 * l.length : Nat) : Int) = M at cm hM
        replace hqM := Lib.hid hqM
        refine cm.mono ?_
        rintro e V8 ⟨rfl, hmk, hg⟩
        have hU : ∀ k, (Value.slice (some ⟨g0, 0, none⟩) l.length l.length).ownBlock = some k → k = g0 := by intro k e; simp [Value.ownBlock] at e; exact e.symm
        clear cm
        replace HD := HD.trans (pgrown_below hg HD.size (fun k e => by have := hU k e; have := HD.size; omega))
        replace b00 := hg.cell b00 (fun e => by have h1 := hU B0 e.symm; omega)
        replace b01 := hg.cell b01 (fun e => by have h1 := hU B0 e.symm; omega)
        replace b02 := hg.cell b02 (fun e => by have h1 := hU B0 e.symm; omega)
        replace b03 := hg.cell b03 (fun e => by have h1 := hU B0 e.symm; omega)
        replace b04 := hg.cell b04 (fun e => by have h1 := hU B0 e.symm; omega)
        replace b05 := hg.cell b05 (fun e => by have h1 := hU B0 e.symm; omega)
        replace b06 := hg.cell b06 (fun e => by have h1 := hU B0 e.symm; omega)
        replace b07 := hg.cell b07 (fun e => by have h1 := hU B0 e.symm; omega)
        replace b08 := hg.cell b08 (fun e => by have h1 := hU B0 e.symm; omega)
        replace b10 := hg.cell b10 (fun e => by have h1 := hU B1 e.symm; omega)
        replace b11 := hg.cell b11 (fun e => by have h1 := hU B1 e.symm; omega)
        replace b12 := hg.cell b12 (fun e => by have h1 := hU B1 e.symm; omega)
        replace b13 := hg.cell b13 (fun e => by have h1 := hU B1 e.symm; omega)
        replace k60 := hg.cell k60 (fun e => by have h1 := hU C6 e.symm; omega)
        replace k61 := hg.cell k61 (fun e => by have h1 := hU C6 e.symm; omega)
        replace k62 := hg.cell k62 (fun e => by have h1 := hU C6 e.symm; omega)
        replace k63 := hg.cell k63 (fun e => by have h1 := hU C6 e.symm; omega)
        replace k64 := hg.cell k64 (fun e => by have h1 := hU C6 e.symm; omega)
        replace k65 := hg.cell k65 (fun e => by have h1 := hU C6 e.symm; omega)
        replace k66 := hg.cell k66 (fun e => by have h1 := hU C6 e.symm; omega)
        replace k67 := hg.cell k67 (fun e => by have h1 := hU C6 e.symm; omega)
        replace k68 := hg.cell k68 (fun e => by have h1 := hU C6 e.symm; omega)
        replace k00 := hg.cell k00 (fun e => by have h1 := hU C0 e.symm; omega)
        replace k01 := hg.cell k01 (fun e => by have h1 := hU C0 e.symm; omega)
        replace k02 := hg.cell k02 (fun e => by have h1 := hU C0 e.symm; omega)
        replace k03 := hg.cell k03 (fun e => by have h1 := hU C0 e.symm; omega)
        replace k04 := hg.cell k04 (fun e => by have h1 := hU C0 e.symm; omega)
        replace k05 := hg.cell k05 (fun e => by have h1 := hU C0 e.symm; omega)
        replace k06 := hg.cell k06 (fun e => by have h1 := hU C0 e.symm; omega)
        replace k07 := hg.cell k07 (fun e => by have h1 := hU C0 e.symm; omega)
        replace k08 := hg.cell k08 (fun e => by have h1 := hU C0 e.symm; omega)
        replace k90 := hg.cell k90 (fun e => by have h1 := hU C9 e.symm; omega)
        replace k91 := hg.cell k91 (fun e => by have h1 := hU C9 e.symm; omega)
        replace k92 := hg.cell k92 (fun e => by have h1 := hU C9 e.symm; omega)
        replace k93 := hg.cell k93 (fun e => by have h1 := hU C9 e.symm; omega)
        replace k94 := hg.cell k94 (fun e => by have h1 := hU C9 e.symm; omega)
        replace k95 := hg.cell k95 (fun e => by have h1 := hU C9 e.symm; omega)
        replace k96 := hg.cell k96 (fun e => by have h1 := hU C9 e.symm; omega)
        replace k97 := hg.cell k97 (fun e => by have h1 := hU C9 e.symm; omega)
        replace k98 := hg.cell k98 (fun e => by have h1 := hU C9 e.symm; omega)
        replace FV := Lib.hid (hf0.out.below HD)
        replace own6 := Lib.hid (own_keptP own6.out hg (fun k e e2 => by have := U6.out k e; have := hU k e2; omega))
        replace own9 := Lib.hid (own_keptP own9.out hg (fun k e e2 => by have := U9.out k e; have := hU k e2; omega))
        replace L0 := Nat.lt_of_lt_of_le L0 hg.size
        replace L1 := Nat.lt_of_lt_of_le L1 hg.size
        replace K6 := Nat.lt_of_lt_of_le K6 hg.size
        replace K0 := Nat.lt_of_lt_of_le K0 hg.size
        replace K9 := Nat.lt_of_lt_of_le K9 hg.size
        clear hg
        clear hU hG0 hmk
        go_wp2_with fail
        refine (eqCourse_same z0 z1 z2 z3 z4 z5 z6 z7 a9 a6 cap9 cap6 L V8 hn3 (row_ownP own9.out (mflat_length L)) (row_ownP own6.out (mflat_length L))).mono ?_
        rintro e V9 ⟨rfl, hb⟩
        replace HD := HD.trans (hb.mono HD.size)
        obtain ⟨hc, hf⟩ := bcell hb
        have hz := hb.size
        replace b00 := (hc _ 0 L0).trans b00
        replace b01 := (hc _ 1 L0).trans b01
        replace b02 := (hc _ 2 L0).trans b02
        replace b03 := (hc _ 3 L0).trans b03
        replace b04 := (hc _ 4 L0).trans b04
        replace b05 := (hc _ 5 L0).trans b05
        replace b06 := (hc _ 6 L0).trans b06
        replace b07 := (hc _ 7 L0).trans b07
        replace b08 := (hc _ 8 L0).trans b08
        replace b10 := (hc _ 0 L1).trans b10
        replace b11 := (hc _ 1 L1).trans b11
        replace b12 := (hc _ 2 L1).trans b12
        replace b13 := (hc _ 3 L1).trans b13
        replace k60 := (hc _ 0 K6).trans k60
        replace k61 := (hc _ 1 K6).trans k61
        replace k62 := (hc _ 2 K6).trans k62
        replace k63 := (hc _ 3 K6).trans k63
        replace k64 := (hc _ 4 K6).trans k64
        replace k65 := (hc _ 5 K6).trans k65
        replace k66 := (hc _ 6 K6).trans k66
        replace k67 := (hc _ 7 K6).trans k67
        replace k68 := (hc _ 8 K6).trans k68
        replace k00 := (hc _ 0 K0).trans k00
        replace k01 := (hc _ 1 K0).trans k01
        replace k02 := (hc _ 2 K0).trans k02
        replace k03 := (hc _ 3 K0).trans k03
        replace k04 := (hc _ 4 K0).trans k04
        replace k05 := (hc _ 5 K0).trans k05
        replace k06 := (hc _ 6 K0).trans k06
        replace k07 := (hc _ 7 K0).trans k07
        replace k08 := (hc _ 8 K0).trans k08
        replace k90 := (hc _ 0 K9).trans k90
        replace k91 := (hc _ 1 K9).trans k91
        replace k92 := (hc _ 2 K9).trans k92
        replace k93 := (hc _ 3 K9).trans k93
        replace k94 := (hc _ 4 K9).trans k94
        replace k95 := (hc _ 5 K9).trans k95
        replace k96 := (hc _ 6 K9).trans k96
        replace k97 := (hc _ 7 K9).trans k97
        replace k98 := (hc _ 8 K9).trans k98
        replace FV := Lib.hid (RowAt.below FV.out hb)
        replace own6 := Lib.hid (pown_below own6.out hb)
        replace own9 := Lib.hid (pown_below own9.out hb)
        replace L0 := Nat.lt_of_lt_of_le L0 hz
        replace L1 := Nat.lt_of_lt_of_le L1 hz
        replace K6 := Nat.lt_of_lt_of_le K6 hz
        replace K0 := Nat.lt_of_lt_of_le K0 hz
        replace K9 := Nat.lt_of_lt_of_le K9 hz
        clear hc hf hz hb
        go_wp2_with fail
        have cm := markCourse2_c z0 z1 z2 z3 z4 z5 z6 z7 a9 L.length cap9 1 D9 L V9 (by omega) (by omega) rfl own9.out
        have hN : ¬ (((1 + 5 * L.length : Nat) : Int) < 0) := by omega
        generalize hqN : ((1 + 5 * L.length : Nat) : Int) = N at cm hN
        replace hqN := Lib.hid hqN
        refine cm.mono ?_
        rintro e V10 ⟨rfl, hmk, hg⟩
        have hU := U9.out
        clear cm
        replace HD := HD.trans (pgrown_below hg HD.size (fun k e => by have := hU k e; have := HD.size; omega))
        replace b00 := hg.cell b00 (fun e => by have h1 := hU B0 e.symm; omega)
        replace b01 := hg.cell b01 (fun e => by have h1 := hU B0 e.symm; omega)
        replace b02 := hg.cell b02 (fun e => by have h1 := hU B0 e.symm; omega)
        replace b03 := hg.cell b03 (fun e => by have h1 := hU B0 e.symm; omega)
        replace b04 := hg.cell b04 (fun e => by have h1 := hU B0 e.symm; omega)
        replace b05 := hg.cell b05 (fun e => by have h1 := hU B0 e.symm; omega)
        replace b06 := hg.cell b06 (fun e => by have h1 := hU B0 e.symm; omega)
        replace b07 := hg.cell b07 (fun e => by have h1 := hU B0 e.symm; omega)
        replace b08 := hg.cell b08 (fun e => by have h1 := hU B0 e.symm; omega)
        replace b10 := hg.cell b10 (fun e => by have h1 := hU B1 e.symm; omega)
        replace b11 := hg.cell b11 (fun e => by have h1 := hU B1 e.symm; omega)
        replace b12 := hg.cell b12 (fun e => by have h1 := hU B1 e.symm; omega)
        replace b13 := hg.cell b13 (fun e => by have h1 := hU B1 e.symm; omega)
        replace k60 := hg.cell k60 (fun e => by have h1 := hU C6 e.symm; omega)
        replace k61 := hg.cell k61 (fun e => by have h1 := hU C6 e.symm; omega)
        replace k62 := hg.cell k62 (fun e => by have h1 := hU C6 e.symm; omega)
        replace k63 := hg.cell k63 (fun e => by have h1 := hU C6 e.symm; omega)
        replace k64 := hg.cell k64 (fun e => by have h1 := hU C6 e.symm; omega)
        replace k65 := hg.cell k65 (fun e => by have h1 := hU C6 e.symm; omega)
        replace k66 := hg.cell k66 (fun e => by have h1 := hU C6 e.symm; omega)
        replace k67 := hg.cell k67 (fun e => by have h1 := hU C6 e.symm; omega)
        replace k68 := hg.cell k68 (fun e => by have h1 := hU C6 e.symm; omega)
        replace k00 := hg.cell k00 (fun e => by have h1 := hU C0 e.symm; omega)
        replace k01 := hg.cell k01 (fun e => by have h1 := hU C0 e.symm; omega)
        replace k02 := hg.cell k02 (fun e => by have h1 := hU C0 e.symm; omega)
        replace k03 := hg.cell k03 (fun e => by have h1 := hU C0 e.symm; omega)
        replace k04 := hg.cell k04 (fun e => by have h1 := hU C0 e.symm; omega)
        replace k05 := hg.cell k05 (fun e => by have h1 := hU C0 e.symm; omega)
        replace k06 := hg.cell k06 (fun e => by have h1 := hU C0 e.symm; omega)
        replace k07 := hg.cell k07 (fun e => by have h1 := hU C0 e.symm; omega)
        replace k08 := hg.cell k08 (fun e => by have h1 := hU C0 e.symm; omega)
        replace k90 := hg.cell k90 (fun e => by have h1 := hU C9 e.symm; omega)
        replace k91 := hg.cell k91 (fun e => by have h1 := hU C9 e.symm; omega)
        replace k92 := hg.cell k92 (fun e => by have h1 := hU C9 e.symm; omega)
        replace k93 := hg.cell k93 (fun e => by have h1 := hU C9 e.symm; omega)
        replace k94 := hg.cell k94 (fun e => by have h1 := hU C9 e.symm; omega)
        replace k95 := hg.cell k95 (fun e => by have h1 := hU C9 e.symm; omega)
        replace k96 := hg.cell k96 (fun e => by have h1 := hU C9 e.symm; omega)
        replace k97 := hg.cell k97 (fun e => by have h1 := hU C9 e.symm; omega)
        replace k98 := hg.cell k98 (fun e => by have h1 := hU C9 e.symm; omega)
        replace FV := Lib.hid (hf0.out.below HD)
        replace own6 := Lib.hid (own_keptP own6.out hg (fun k e e2 => by have := U6.out k e; have := hU k e2; omega))
        replace L0 := Nat.lt_of_lt_of_le L0 hg.size
        replace L1 := Nat.lt_of_lt_of_le L1 hg.size
        replace K6 := Nat.lt_of_lt_of_le K6 hg.size
        replace K0 := Nat.lt_of_lt_of_le K0 hg.size
        replace K9 := Nat.lt_of_lt_of_le K9 hg.size
        clear hg
        replace own9 := Lib.hid hmk
        clear hU hmk
        go_wp2_with fail
        have ch := heldCourse_c z0 z1 z2 z3 z4 z5 z6 z7 a9 L.length cap9 1 V10 (by omega) (by omega) (row_ownP own9.out (by rw [mflat_length, mkMs_len]))
        rw [hqN.out] at ch
        refine (ch).mono ?_
        rintro e V11 ⟨rfl, hb⟩
        clear ch
        replace HD := HD.trans (hb.mono HD.size)
        obtain ⟨hc, hf⟩ := bcell hb
        have hz := hb.size
        replace b00 := (hc _ 0 L0).trans b00
        replace b01 := (hc _ 1 L0).trans b01
        replace b02 := (hc _ 2 L0).trans b02
        replace b03 := (hc _ 3 L0).trans b03
        replace b04 := (hc _ 4 L0).trans b04
        replace b05 := (hc _ 5 L0).trans b05
        replace b06 := (hc _ 6 L0).trans b06
        replace b07 := (hc _ 7 L0).trans b07
        replace b08 := (hc _ 8 L0).trans b08
        replace b10 := (hc _ 0 L1).trans b10
        replace b11 := (hc _ 1 L1).trans b11
        replace b12 := (hc _ 2 L1).trans b12
        replace b13 := (hc _ 3 L1).trans b13
        replace k60 := (hc _ 0 K6).trans k60
        replace k61 := (hc _ 1 K6).trans k61
        replace k62 := (hc _ 2 K6).trans k62
        replace k63 := (hc _ 3 K6).trans k63
        replace k64 := (hc _ 4 K6).trans k64
        replace k65 := (hc _ 5 K6).trans k65
        replace k66 := (hc _ 6 K6).trans k66
        replace k67 := (hc _ 7 K6).trans k67
        replace k68 := (hc _ 8 K6).trans k68
        replace k00 := (hc _ 0 K0).trans k00
        replace k01 := (hc _ 1 K0).trans k01
        replace k02 := (hc _ 2 K0).trans k02
        replace k03 := (hc _ 3 K0).trans k03
        replace k04 := (hc _ 4 K0).trans k04
        replace k05 := (hc _ 5 K0).trans k05
        replace k06 := (hc _ 6 K0).trans k06
        replace k07 := (hc _ 7 K0).trans k07
        replace k08 := (hc _ 8 K0).trans k08
        replace k90 := (hc _ 0 K9).trans k90
        replace k91 := (hc _ 1 K9).trans k91
        replace k92 := (hc _ 2 K9).trans k92
        replace k93 := (hc _ 3 K9).trans k93
        replace k94 := (hc _ 4 K9).trans k94
        replace k95 := (hc _ 5 K9).trans k95
        replace k96 := (hc _ 6 K9).trans k96
        replace k97 := (hc _ 7 K9).trans k97
        replace k98 := (hc _ 8 K9).trans k98
        replace FV := Lib.hid (RowAt.below FV.out hb)
        replace own6 := Lib.hid (pown_below own6.out hb)
        replace own9 := Lib.hid (pown_below own9.out hb)
        replace L0 := Nat.lt_of_lt_of_le L0 hz
        replace L1 := Nat.lt_of_lt_of_le L1 hz
        replace K6 := Nat.lt_of_lt_of_le K6 hz
        replace K0 := Nat.lt_of_lt_of_le K0 hz
        replace K9 := Nat.lt_of_lt_of_le K9 hz
        clear hc hf hz hb
        go_wp2_with fail
        go_cut [16, 17] (fun sp sc wx => ∃ (C : Nat) (a9 : Option Addr) (cap9 : Nat), sp = .pointer (some ⟨C, 0, none⟩) ∧ sc = .int .i64 R2 ∧ wx.cell? ⟨C, 0, none⟩ = some (.int .i64 z0) ∧ wx.cell? ⟨C, 1, none⟩ = some (.int .i64 z1) ∧ wx.cell? ⟨C, 2, none⟩ = some (.int .i64 z2) ∧ wx.cell? ⟨C, 3, none⟩ = some (.int .i64 z3) ∧ wx.cell? ⟨C, 4, none⟩ = some (.int .i64 z4) ∧ wx.cell? ⟨C, 5, none⟩ = some (.int .i64 z5) ∧ wx.cell? ⟨C, 6, none⟩ = some (.int .i64 z6) ∧ wx.cell? ⟨C, 7, none⟩ = some (.int .i64 z7) ∧ wx.cell? ⟨C, 8, none⟩ = some (.slice a9 L.length cap9) ∧ wx.ownsRow V11.heap.size 64 5 (.slice a9 L.length cap9) L.length (mflat L) ∧ C < wx.heap.size ∧ V11.heap.size ≤ C ∧ (∀ j, (Value.slice a9 L.length cap9).ownBlock = some j → j ≠ C) ∧ Below V11.heap.size V11 wx)
        case first =>
          go_region_held3 (fun wx => Below V11.heap.size V11 wx ∧ ∀ b o, b < V11.heap.size → wx.cell? ⟨b, o, none⟩ = V11.cell? ⟨b, o, none⟩)
            (repeat (first | with_reducible assumption | with_reducible refine held_set9 ?_ (by first | with_reducible exact Nat.le_refl _ | with_reducible exact Nat.le_add_right _ _ | with_reducible assumption | omega | (simp; omega)) _ _ _ _ _ _ _ _ _ | with_reducible refine held_set5 ?_ (by first | with_reducible exact Nat.le_refl _ | with_reducible exact Nat.le_add_right _ _ | with_reducible assumption | omega | (simp; omega)) _ _ _ _ _ | with_reducible exact held_back (by with_reducible assumption) (by first | with_reducible exact Nat.le_refl _ | with_reducible exact Nat.le_add_right _ _ | with_reducible assumption | omega | (simp; omega)) | with_reducible exact held_back (held_back (by with_reducible assumption) (by first | with_reducible exact Nat.le_refl _ | with_reducible exact Nat.le_add_right _ _ | with_reducible assumption | omega | (simp; omega))) (by first | with_reducible exact Nat.le_refl _ | with_reducible exact Nat.le_add_right _ _ | with_reducible assumption | omega | (simp; omega)) | with_reducible refine held_set4 ?_ (by first | with_reducible exact Nat.le_refl _ | with_reducible exact Nat.le_add_right _ _ | with_reducible assumption | omega | (simp; omega)) _ _ _ _ | with_reducible refine held_set2 ?_ (by first | with_reducible exact Nat.le_refl _ | with_reducible exact Nat.le_add_right _ _ | with_reducible assumption | omega | (simp; omega)) _ _ | with_reducible refine held_alloc ?_ _ | with_reducible exact held_step (by assumption) hb | with_reducible refine held_drew ?_ | with_reducible exact held_refl _ | with_reducible exact held_start _ _ | with_reducible exact held_begin _))
            (first | (go_at_call 14; refine (toCourse_c x0 x1 x2 x3 x4 x5 x6 x7 a0 cap0 l _ hl1 (FV.out.below (And.left (by with_reducible assumption)))).mono ?_; rintro e w1 ⟨⟨g, rfl, hg, hlg⟩, hb⟩; have hz := held_size (by with_reducible assumption) hb; (try simp at hz); have hs := hb.size; (try simp at hs); obtain ⟨hc, hf⟩ := bcell hb; (try have hl := below_lt hb); (try simp at hl); (try have hlW : V11.heap.size < w1.heap.size := by first | omega | (simp; omega)); have hgR := rowAt_own hg) | (go_at_call 30; refine (toLine_c _ _ _ _ _).mono ?_; rintro e w1 ⟨rfl, hb⟩; have hz := held_size (by with_reducible assumption) hb; (try simp at hz); have hs := hb.size; (try simp at hs); obtain ⟨hc, hf⟩ := bcell hb; (try have hl := below_lt hb); (try simp at hl); (try have hlW : V11.heap.size < w1.heap.size := by first | omega | (simp; omega))) | (go_at_call 21; refine (CI.out _ _ (RowAt.below (by assumption) (by repeat (first | with_reducible exact Below.refl _ _ | with_reducible assumption | with_reducible refine Below.drew ?_ | with_reducible refine Below.alloc ?_ (by first | exact Nat.le_refl _ | (simp; done) | (simp; omega) | omega) _ | with_reducible refine Below.setCell ?_ (by first | exact Nat.le_refl _ | (simp; done) | (simp; omega) | omega) _ | with_reducible refine Below.trans ?_ (Below.mono (by with_reducible assumption) (by first | exact Nat.le_refl _ | (simp; done) | (simp; omega) | omega)))))).mono ?_; rintro e w1 ⟨⟨a9, cap9, rfl, ho⟩, hb⟩; have hz := held_size (by with_reducible assumption) hb; (try simp at hz); have hs := hb.size; (try simp at hs); obtain ⟨hc, hf⟩ := bcell hb; (try have hl := below_lt hb); (try simp at hl); (try have hlW : V11.heap.size < w1.heap.size := by first | omega | (simp; omega)); have hoV := pown_mono (base' := V11.heap.size) ho (by first | exact Nat.le_refl _ | (simp; done) | (simp; omega) | omega); have hoN := fun j e => ho.lt j e; (try simp at hoN)))
          all_goals (go_wp2_with fail; go_meet; exact ⟨_, a9, cap9, rfl, rfl, (by go_light; go_simp), (by go_light; go_simp), (by go_light; go_simp), (by go_light; go_simp), (by go_light; go_simp), (by go_light; go_simp), (by go_light; go_simp), (by go_light; go_simp), (by go_light; go_simp), (by first | (repeat (first | with_reducible exact hoV | with_reducible refine World.ownsRow.alloc ?_ _ | with_reducible refine World.ownsRow.drew ?_ | with_reducible refine ownsRow_setCell_other ?_ (fun e => by have h9 := hoN _ e; first | (simp only at h9; omega) | omega) _))), (by go_light; first | (simp; done) | (simp; omega) | omega), (by go_light; first | exact Nat.le_refl _ | (simp; done) | (simp; omega) | omega), (fun j e => by have h9 := hoN j e; first | omega | (simp; omega)), (held_of (by with_reducible exact And.left (by with_reducible assumption))).1⟩)
        case rest =>
          obtain ⟨C14, a14, cap14, rfl, rfl, k140, k141, k142, k143, k144, k145, k146, k147, k148, ho, K14, W14, hNE14, hb⟩ := hcut
          obtain ⟨V12, rfl⟩ : ∃ x : World, x = wc := ⟨_, rfl⟩
          have own14 := Lib.hid ho
          clear ho
          have hDE14 := hb.size
          have U14 := Lib.hid (fun j (e : (Value.slice a14 L.length cap14).ownBlock = some j) => And.intro (own14.out.lt j e) (hNE14 j e))
          clear hNE14
          obtain ⟨D14, hD14⟩ : ∃ x, x = V11.heap.size := ⟨_, rfl⟩
          have d14L0 : B0 < D14 := by omega
          have d14L1 : B1 < D14 := by omega
          have d14K6 : C6 < D14 := by omega
          have d14K0 : C0 < D14 := by omega
          have d14K9 : C9 < D14 := by omega
          rw [← hD14] at own14 U14 hDE14 W14
          have hwD14 : w.heap.size ≤ D14 := by have := HD.size; omega
          replace HD := HD.trans (hb.mono HD.size)
          obtain ⟨hc, hf⟩ := bcell hb
          have hz := hb.size
          replace b00 := (hc _ 0 L0).trans b00
          replace b01 := (hc _ 1 L0).trans b01
          replace b02 := (hc _ 2 L0).trans b02
          replace b03 := (hc _ 3 L0).trans b03
          replace b04 := (hc _ 4 L0).trans b04
          replace b05 := (hc _ 5 L0).trans b05
          replace b06 := (hc _ 6 L0).trans b06
          replace b07 := (hc _ 7 L0).trans b07
          replace b08 := (hc _ 8 L0).trans b08
          replace b10 := (hc _ 0 L1).trans b10
          replace b11 := (hc _ 1 L1).trans b11
          replace b12 := (hc _ 2 L1).trans b12
          replace b13 := (hc _ 3 L1).trans b13
          replace k60 := (hc _ 0 K6).trans k60
          replace k61 := (hc _ 1 K6).trans k61
          replace k62 := (hc _ 2 K6).trans k62
          replace k63 := (hc _ 3 K6).trans k63
          replace k64 := (hc _ 4 K6).trans k64
          replace k65 := (hc _ 5 K6).trans k65
          replace k66 := (hc _ 6 K6).trans k66
          replace k67 := (hc _ 7 K6).trans k67
          replace k68 := (hc _ 8 K6).trans k68
          replace k00 := (hc _ 0 K0).trans k00
          replace k01 := (hc _ 1 K0).trans k01
          replace k02 := (hc _ 2 K0).trans k02
          replace k03 := (hc _ 3 K0).trans k03
          replace k04 := (hc _ 4 K0).trans k04
          replace k05 := (hc _ 5 K0).trans k05
          replace k06 := (hc _ 6 K0).trans k06
          replace k07 := (hc _ 7 K0).trans k07
          replace k08 := (hc _ 8 K0).trans k08
          replace k90 := (hc _ 0 K9).trans k90
          replace k91 := (hc _ 1 K9).trans k91
          replace k92 := (hc _ 2 K9).trans k92
          replace k93 := (hc _ 3 K9).trans k93
          replace k94 := (hc _ 4 K9).trans k94
          replace k95 := (hc _ 5 K9).trans k95
          replace k96 := (hc _ 6 K9).trans k96
          replace k97 := (hc _ 7 K9).trans k97
          replace k98 := (hc _ 8 K9).trans k98
          replace FV := Lib.hid (RowAt.below FV.out hb)
          replace own6 := Lib.hid (pown_below own6.out hb)
          replace own9 := Lib.hid (pown_below own9.out hb)
          replace L0 := Nat.lt_of_lt_of_le L0 hz
          replace L1 := Nat.lt_of_lt_of_le L1 hz
          replace K6 := Nat.lt_of_lt_of_le K6 hz
          replace K0 := Nat.lt_of_lt_of_le K0 hz
          replace K9 := Nat.lt_of_lt_of_le K9 hz
          clear hc hf hz hb
          obtain ⟨E14, hE14⟩ : ∃ x, x = V12.heap.size := ⟨_, rfl⟩
          rw [← hE14] at U14 hDE14
          have hCE14 : C14 < E14 := by omega
          have hEE14 := Lib.hid hE14
          clear hE14
          have hDD14 := Lib.hid hD14
          clear hD14
          go_wp2_with fail
          refine (eqCourse_same z0 z1 z2 z3 z4 z5 z6 z7 a14 a6 cap14 cap6 L V12 hn3 (row_ownP own14.out (mflat_length L)) (row_ownP own6.out (mflat_length L))).mono ?_
          rintro e V13 ⟨rfl, hb⟩
          replace HD := HD.trans (hb.mono HD.size)
          obtain ⟨hc, hf⟩ := bcell hb
          have hz := hb.size
          replace b00 := (hc _ 0 L0).trans b00
          replace b01 := (hc _ 1 L0).trans b01
          replace b02 := (hc _ 2 L0).trans b02
          replace b03 := (hc _ 3 L0).trans b03
          replace b04 := (hc _ 4 L0).trans b04
          replace b05 := (hc _ 5 L0).trans b05
          replace b06 := (hc _ 6 L0).trans b06
          replace b07 := (hc _ 7 L0).trans b07
          replace b08 := (hc _ 8 L0).trans b08
          replace b10 := (hc _ 0 L1).trans b10
          replace b11 := (hc _ 1 L1).trans b11
          replace b12 := (hc _ 2 L1).trans b12
          replace b13 := (hc _ 3 L1).trans b13
          replace k60 := (hc _ 0 K6).trans k60
          replace k61 := (hc _ 1 K6).trans k61
          replace k62 := (hc _ 2 K6).trans k62
          replace k63 := (hc _ 3 K6).trans k63
          replace k64 := (hc _ 4 K6).trans k64
          replace k65 := (hc _ 5 K6).trans k65
          replace k66 := (hc _ 6 K6).trans k66
          replace k67 := (hc _ 7 K6).trans k67
          replace k68 := (hc _ 8 K6).trans k68
          replace k00 := (hc _ 0 K0).trans k00
          replace k01 := (hc _ 1 K0).trans k01
          replace k02 := (hc _ 2 K0).trans k02
          replace k03 := (hc _ 3 K0).trans k03
          replace k04 := (hc _ 4 K0).trans k04
          replace k05 := (hc _ 5 K0).trans k05
          replace k06 := (hc _ 6 K0).trans k06
          replace k07 := (hc _ 7 K0).trans k07
          replace k08 := (hc _ 8 K0).trans k08
          replace k90 := (hc _ 0 K9).trans k90
          replace k91 := (hc _ 1 K9).trans k91
          replace k92 := (hc _ 2 K9).trans k92
          replace k93 := (hc _ 3 K9).trans k93
          replace k94 := (hc _ 4 K9).trans k94
          replace k95 := (hc _ 5 K9).trans k95
          replace k96 := (hc _ 6 K9).trans k96
          replace k97 := (hc _ 7 K9).trans k97
          replace k98 := (hc _ 8 K9).trans k98
          replace k140 := (hc _ 0 K14).trans k140
          replace k141 := (hc _ 1 K14).trans k141
          replace k142 := (hc _ 2 K14).trans k142
          replace k143 := (hc _ 3 K14).trans k143
          replace k144 := (hc _ 4 K14).trans k144
          replace k145 := (hc _ 5 K14).trans k145
          replace k146 := (hc _ 6 K14).trans k146
          replace k147 := (hc _ 7 K14).trans k147
          replace k148 := (hc _ 8 K14).trans k148
          replace FV := Lib.hid (RowAt.below FV.out hb)
          replace own6 := Lib.hid (pown_below own6.out hb)
          replace own9 := Lib.hid (pown_below own9.out hb)
          replace own14 := Lib.hid (pown_below own14.out hb)
          replace L0 := Nat.lt_of_lt_of_le L0 hz
          replace L1 := Nat.lt_of_lt_of_le L1 hz
          replace K6 := Nat.lt_of_lt_of_le K6 hz
          replace K0 := Nat.lt_of_lt_of_le K0 hz
          replace K9 := Nat.lt_of_lt_of_le K9 hz
          replace K14 := Nat.lt_of_lt_of_le K14 hz
          clear hc hf hz hb
          go_wp2_with fail
          have ch := heldCourse_c z0 z1 z2 z3 z4 z5 z6 z7 a9 L.length cap9 1 V13 (by omega) (by omega) (row_ownP own9.out (by rw [mflat_length, mkMs_len]))
          rw [hqN.out] at ch
          refine (ch).mono ?_
          rintro e V14 ⟨rfl, hb⟩
          clear ch
          replace HD := HD.trans (hb.mono HD.size)
          obtain ⟨hc, hf⟩ := bcell hb
          have hz := hb.size
          replace b00 := (hc _ 0 L0).trans b00
          replace b01 := (hc _ 1 L0).trans b01
          replace b02 := (hc _ 2 L0).trans b02
          replace b03 := (hc _ 3 L0).trans b03
          replace b04 := (hc _ 4 L0).trans b04
          replace b05 := (hc _ 5 L0).trans b05
          replace b06 := (hc _ 6 L0).trans b06
          replace b07 := (hc _ 7 L0).trans b07
          replace b08 := (hc _ 8 L0).trans b08
          replace b10 := (hc _ 0 L1).trans b10
          replace b11 := (hc _ 1 L1).trans b11
          replace b12 := (hc _ 2 L1).trans b12
          replace b13 := (hc _ 3 L1).trans b13
          replace k60 := (hc _ 0 K6).trans k60
          replace k61 := (hc _ 1 K6).trans k61
          replace k62 := (hc _ 2 K6).trans k62
          replace k63 := (hc _ 3 K6).trans k63
          replace k64 := (hc _ 4 K6).trans k64
          replace k65 := (hc _ 5 K6).trans k65
          replace k66 := (hc _ 6 K6).trans k66
          replace k67 := (hc _ 7 K6).trans k67
          replace k68 := (hc _ 8 K6).trans k68
          replace k00 := (hc _ 0 K0).trans k00
          replace k01 := (hc _ 1 K0).trans k01
          replace k02 := (hc _ 2 K0).trans k02
          replace k03 := (hc _ 3 K0).trans k03
          replace k04 := (hc _ 4 K0).trans k04
          replace k05 := (hc _ 5 K0).trans k05
          replace k06 := (hc _ 6 K0).trans k06
          replace k07 := (hc _ 7 K0).trans k07
          replace k08 := (hc _ 8 K0).trans k08
          replace k90 := (hc _ 0 K9).trans k90
          replace k91 := (hc _ 1 K9).trans k91
          replace k92 := (hc _ 2 K9).trans k92
          replace k93 := (hc _ 3 K9).trans k93
          replace k94 := (hc _ 4 K9).trans k94
          replace k95 := (hc _ 5 K9).trans k95
          replace k96 := (hc _ 6 K9).trans k96
          replace k97 := (hc _ 7 K9).trans k97
          replace k98 := (hc _ 8 K9).trans k98
          replace k140 := (hc _ 0 K14).trans k140
          replace k141 := (hc _ 1 K14).trans k141
          replace k142 := (hc _ 2 K14).trans k142
          replace k143 := (hc _ 3 K14).trans k143
          replace k144 := (hc _ 4 K14).trans k144
          replace k145 := (hc _ 5 K14).trans k145
          replace k146 := (hc _ 6 K14).trans k146
          replace k147 := (hc _ 7 K14).trans k147
          replace k148 := (hc _ 8 K14).trans k148
          replace FV := Lib.hid (RowAt.below FV.out hb)
          replace own6 := Lib.hid (pown_below own6.out hb)
          replace own9 := Lib.hid (pown_below own9.out hb)
          replace own14 := Lib.hid (pown_below own14.out hb)
          replace L0 := Nat.lt_of_lt_of_le L0 hz
          replace L1 := Nat.lt_of_lt_of_le L1 hz
          replace K6 := Nat.lt_of_lt_of_le K6 hz
          replace K0 := Nat.lt_of_lt_of_le K0 hz
          replace K9 := Nat.lt_of_lt_of_le K9 hz
          replace K14 := Nat.lt_of_lt_of_le K14 hz
          clear hc hf hz hb
          go_wp2_with fail
          go_ret
          exact ⟨rfl, HD⟩

theorem own : ownKnob Tryd.prog.godebug = none := by kernel_rfl
theorem laidOut : laidOutB Tryd.prog = true := by kernel_rfl
set_option maxRecDepth 100000 in
theorem lifted (os : Os) (started : os.Started) (H : Type) (enc : TypeId × Value → H) :
    ReturnsInHanded {} Tryd.checked os 7 .any (fun w args => (Rows.fnExactShortenCourseSpec.pre enc Tryd.prog Tryd.f7 Rows.fnExactShortenCourseRow.domain false w args ∧ laidMetH Tryd.prog Rows.fnExactShortenCourseRow.laid w) ∧ sizedMet enc Tryd.prog Tryd.f7 (OpenSpec.ofChange Rows.fnExactShortenCourseSpec) false w args)
      (Rows.fnExactShortenCourseSpec.post enc Tryd.prog Tryd.f7 false true false false) := by
  refine returnsInHanded_of_change_and (C := Tryd.checked) (X := fun w _ => laidMetH Tryd.prog Rows.fnExactShortenCourseRow.laid w) (fun _ _ _ hh h => h.of_heap hh) own started (by kernel_rfl) Tryd.func7
    (ChangeSpec.witness_shaped (enc := enc) (C := Tryd.checked) (os := os) (X := fun w _ => laidMetH Tryd.prog Rows.fnExactShortenCourseRow.laid w) false (World.laidAll Tryd.prog os Rows.fnExactShortenCourseRow.laid) #[.agg #[.int .i64 0, .int .i64 0, .int .i64 0, .int .i64 0, .int .i64 0, .int .i64 0, .int .i64 0, .int .i64 0, .slice none 0 0], .int .i64 0, .agg #[.int .i64 0, .int .i64 0, .int .i64 0, .int .i64 0]] 8 (World.laidAll_os _ _ _)
      (World.shaped_of_ZipB (by kernel_rfl) (by kernel_rfl)) (by kernel_rfl) (by kernel_rfl) (by kernel_rfl)
      (by rw [MakeChecks.laidMetH_plain _ _ _ (by kernel_rfl)]; exact laidMet_laidAll _ (by kernel_rfl) (by kernel_rfl))) ?_
  intro W base args ds gs before hval0 hW _ _ hLaid _
  have hval : ∀ (j : Nat) t v, Tryd.f7.params[j]? = some t → args[j]? = some v → Value.okWide Tryd.prog W .any base t v := hval0
  have hW' := hW
  obtain ⟨p, q, hA0, hV, rfl, hfz, hnd⟩ := hW
  have hA : DataW.TrodAll enc Tryd.prog W 0 (fun _ => true) true Tryd.f7.params.toList args.toList ds p := hA0
  rw [Tryd.params7] at hA hval
  obtain ⟨v0, vs0, d0, ds0, p0, q0, hargs, rfl, rfl, h0, r0⟩ := trodAll_cons hA
  obtain ⟨v1, vs1, d1, ds1, p1, q1, rfl, rfl, rfl, h1, r1⟩ := trodAll_cons r0
  obtain ⟨v2, vs2, d2, ds2, p2, q2, rfl, rfl, rfl, h2, r2⟩ := trodAll_cons r1
  obtain ⟨rfl, rfl, rfl⟩ := trodAll_nil r2
  obtain rfl : args = #[v0, v1, v2] := by cases args; simp_all
  obtain ⟨rfl, rfl⟩ := trodVars_none hV
  have k0 := h0
  have lt0 : ∀ x ∈ p0, x.block < W.heap.size := by obtain ⟨m, hm⟩ := k0; exact DataW.trod_lt m _ _ _ hm
  obtain ⟨c0x0, c0x1, c0x2, c0x3, c0x4, c0x5, c0x6, c0x7, ⟨a0, cap0⟩, l0, rfl, w0⟩ := open_course (hval 0 28 v0 rfl rfl) h0
  obtain ⟨a1, rfl, rfl, rfl, w1⟩ := open_int Tryd.underlying2 (hval 1 2 v1 rfl rfl) h1
  have k2 := h2
  have lt2 : ∀ x ∈ p2, x.block < W.heap.size := by obtain ⟨m, hm⟩ := k2; exact DataW.trod_lt m _ _ _ hm
  obtain ⟨a2, b2, c2, e2, rfl, w2a, w2b, w2c, w2e⟩ := open_four (n := 4) Tryd.underlying25 (by kernel_rfl) (by kernel_rfl) (hval 2 25 v2 rfl rfl) h2
  clear hA0 hval0
  refine (walk c0x0 c0x1 c0x2 c0x3 c0x4 c0x5 c0x6 c0x7 a0 cap0 l0 a1 a2 b2 c2 e2 W w0 w1 w2a w2b w2c w2e).mono fun e W' ⟨he, bel⟩ => ?_
  subst he
  exact ⟨_, rfl, _, _, _, [], _, [], hW', trodAll_mk1 (shut_bool Tryd.underlying4 _), (trodAll_cons_mk (Below.trod laidOut (by kernel_rfl) (of_decide_eq_true (by kernel_rfl)) k0 bel lt0) (trodAll_cons_mk (shut_int Tryd.underlying2 w1) (trodAll_cons_mk (Below.trod laidOut (by kernel_rfl) (of_decide_eq_true (by kernel_rfl)) k2 bel lt2) trodAll_mk0))), rfl, bel.frame _, fun h => by cases h⟩

theorem over : Rows.fnExactShortenCourseRow.holds Tryd.pinned (OpenSpec.ofChange Rows.fnExactShortenCourseSpec) :=
  OpenClaim.holds_of_wide 7 Tryd.f7 rfl rfl rfl rfl rfl rfl rfl ⟨rfl, rfl, rfl, rfl, rfl⟩ rfl rfl rfl rfl rfl (by kernel_rfl) Tryd.func7 (by kernel_rfl)
    (of_decide_eq_true (by kernel_rfl)) (by unfold Func.isWrapper; first | (rw [if_pos (by decide +kernel)]; kernel_rfl) | (rw [if_neg (by decide +kernel)]; exact ⟨rfl, rfl⟩))
    (fun os started H enc _ => lifted os started H enc)

theorem carded : Rows.FnExactShortenCourseCardSaid :=
  Claim7.holds_tied_plain_at .later [] [.data, .pinned] true (true, "307a91a8220387b471f0a43c3da6393a48704f163f4c354a897a299e0390cb65") false over (fun _ h => by cases h) (by kernel_rfl) (fun _ h => by cases h) fnExactShortenCourse_row_tie rfl ⟨rfl, rfl⟩ (by kernel_rfl) rfl
    (fun f fn hf hfn => by
      obtain rfl : f = 7 := Option.some.inj ((show Tryd.prog.funcNamed "loop.example/g00887/laws.FnExactShortenCourse" = some 7 by kernel_rfl).symm.trans hf) |>.symm
      obtain rfl : fn = Tryd.f7 := (Option.some.inj (Tryd.func7.symm.trans hfn)).symm
      exact ⟨by kernel_rfl, fun j t ht => by
        rw [Tryd.params7] at ht
        have hm : t ∈ [28, 2, 25] := by simpa using Array.mem_of_getElem? ht
        have hall : ([28, 2, 25].all fun u => !Tryd.prog.wantsStandIn u) = true := by kernel_rfl
        exact (show Tryd.prog.wantsStandIn t = false by simpa using List.all_eq_true.1 hall t hm)⟩)
    (by kernel_rfl)

/-- The statement. -/
theorem proved : Rows.FnExactShortenCourseCardSaid := carded
end Go.Proofs.YtbeigoejdckpiaaDoor.shortenCourse
