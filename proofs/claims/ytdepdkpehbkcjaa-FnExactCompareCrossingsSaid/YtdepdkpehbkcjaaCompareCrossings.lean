/-
  FnExactCompareCrossings: for all arguments the program's function answers as the reference's and leaves its arguments as they were. No condition.
-/
import Derived.Test.YtdepdkpehbkcjaaRows
import Derived.Test.YtdepdkpehbkcjaaL05d
namespace Go.Proofs.Ytdepdkpehbkcjaa.compareCrossings
open Go.ChangeShapes Go.WideShapes Go.ChangeAt Go.RowKit Go.Deep
open Go.ChangeMaps (open_string shut_string)
set_option linter.unusedVariables false

theorem drewAt {w : World} {a : Option Addr} {l : List Fx} (h : FixAt w a l) : FixAt w.drew a l := h
set_option maxHeartbeats 400000 in
theorem toCrossing_c (t i y n d : Int) (w : World) : Calls Try.prog 29 #[.agg #[.int .i64 t, .int .i64 i, .int .i64 y, .int .i64 n, .int .i64 d]] w fun e w' => e = .returned (.agg #[.int .i64 t, .int .i64 i, .int .i64 y, .int .i64 n, .int .i64 d]) ∧ Below w.heap.size w w' := by
  go_enter Try.func29, Try.ntmps29
  go_wp2_with (go_at_call 79; refine (toRatio_c _ _ _).mono ?_; rintro e w1 ⟨rfl, hb⟩; (try replace hb := below_trans (by with_reducible assumption) hb); obtain ⟨hc, hf⟩ := bcell hb; have hz := hb.size; (try simp at hz); (try have hz0 : w.heap.size ≤ w1.heap.size := by omega); (try have hz1 : w.heap.size < w1.heap.size := by omega); (try have hz2 : w.heap.size + 1 < w1.heap.size := by omega); (try have hz3 : w.heap.size + 1 + 1 < w1.heap.size := by omega); (try have hz4 : w.heap.size + 1 + 1 + 1 < w1.heap.size := by omega))
  exact bodyPost_ret (v := .agg #[.int .i64 t, .int .i64 i, .int .i64 y, .int .i64 n, .int .i64 d]) (by simp [results, Try.results29, go_sem, *]) rfl ⟨rfl, (by repeat (first | with_reducible exact Below.refl _ _ | with_reducible assumption | with_reducible refine Below.drew ?_ | with_reducible refine Below.alloc ?_ (by first | exact Nat.le_refl _ | (simp; done) | (simp; omega) | omega) _ | with_reducible refine Below.setCell ?_ (by first | exact Nat.le_refl _ | (simp; done) | (simp; omega) | omega) _ | with_reducible refine Below.trans ?_ (Below.mono (by with_reducible assumption) (by first | exact Nat.le_refl _ | (simp; done) | (simp; omega) | omega))))⟩

set_option maxRecDepth 100000 in
set_option maxHeartbeats 2000000 in
theorem walk (a0 : Option Addr) (cap0 : Nat) (l : List Fx) (t i y n d : Int) (a1 : Option Addr) (cap1 : Nat) (m : List Fx) (t' j y' n' d' : Int) (w : World) (w0 : l.length ≤ 9223372036854775807 ∧ FixAt w a0 l) (v0 : (Lit.int .i64 t).wf = true) (v1 : (Lit.int .i64 i).wf = true) (v2 : (Lit.int .i64 y).wf = true) (v3 : (Lit.int .i64 n).wf = true) (v4 : (Lit.int .i64 d).wf = true) (w1 : m.length ≤ 9223372036854775807 ∧ FixAt w a1 m)
    (u0 : (Lit.int .i64 t').wf = true) (u1 : (Lit.int .i64 j).wf = true) (u2 : (Lit.int .i64 y').wf = true) (u3 : (Lit.int .i64 n').wf = true) (u4 : (Lit.int .i64 d').wf = true) :
    Calls Try.prog 5 #[.agg #[.slice a0 l.length cap0], .agg #[.int .i64 t, .int .i64 i, .int .i64 y, .int .i64 n, .int .i64 d], .agg #[.slice a1 m.length cap1], .agg #[.int .i64 t', .int .i64 j, .int .i64 y', .int .i64 n', .int .i64 d']] w fun e w' => e = .returned (.bool true) ∧ Below w.heap.size w w' := by
  obtain ⟨hl0, hf0⟩ := w0
  obtain ⟨hm0, hf1⟩ := w1
  clear v0 v1 v2 v3 v4 u0 u1 u2 u3 u4
  replace hf0 := Lib.hid hf0
  replace hf1 := Lib.hid hf1
  go_enter Try.func5, Try.ntmps5
  go_wp2_with fail
  obtain ⟨W, hW⟩ : ∃ W, W = ((((w.alloc (.cells #[.slice a0 l.length cap0] 47)).alloc (.cells #[.int .i64 t, .int .i64 i, .int .i64 y, .int .i64 n, .int .i64 d] 51)).alloc (.cells #[.slice a1 m.length cap1] 47)).alloc (.cells #[.int .i64 t', .int .i64 j, .int .i64 y', .int .i64 n', .int .i64 d'] 51)) := ⟨_, rfl⟩
  have HD : Below w.heap.size w W := by subst hW; exact (by repeat (first | with_reducible exact Below.refl _ _ | with_reducible assumption | with_reducible refine Below.drew ?_ | with_reducible refine Below.alloc ?_ (by first | exact Nat.le_refl _ | (simp; done) | (simp; omega) | omega) _ | with_reducible refine Below.setCell ?_ (by first | exact Nat.le_refl _ | (simp; done) | (simp; omega) | omega) _ | with_reducible refine Below.trans ?_ (Below.mono (by with_reducible assumption) (by first | exact Nat.le_refl _ | (simp; done) | (simp; omega) | omega))))
  have b00 : W.cell? ⟨w.heap.size, 0, none⟩ = some (.slice a0 l.length cap0) := by subst hW; simp [go_sem]
  have L0 : w.heap.size < W.heap.size := by subst hW; first | (simp; done) | (simp; omega)
  have b10 : W.cell? ⟨w.heap.size + 1, 0, none⟩ = some (.int .i64 t) := by subst hW; simp [go_sem]
  have b11 : W.cell? ⟨w.heap.size + 1, 1, none⟩ = some (.int .i64 i) := by subst hW; simp [go_sem]
  have b12 : W.cell? ⟨w.heap.size + 1, 2, none⟩ = some (.int .i64 y) := by subst hW; simp [go_sem]
  have b13 : W.cell? ⟨w.heap.size + 1, 3, none⟩ = some (.int .i64 n) := by subst hW; simp [go_sem]
  have b14 : W.cell? ⟨w.heap.size + 1, 4, none⟩ = some (.int .i64 d) := by subst hW; simp [go_sem]
  have L1 : w.heap.size + 1 < W.heap.size := by subst hW; first | (simp; done) | (simp; omega)
  have b20 : W.cell? ⟨w.heap.size + 1 + 1, 0, none⟩ = some (.slice a1 m.length cap1) := by subst hW; simp [go_sem]
  have L2 : w.heap.size + 1 + 1 < W.heap.size := by subst hW; first | (simp; done) | (simp; omega)
  have b30 : W.cell? ⟨w.heap.size + 1 + 1 + 1, 0, none⟩ = some (.int .i64 t') := by subst hW; simp [go_sem]
  have b31 : W.cell? ⟨w.heap.size + 1 + 1 + 1, 1, none⟩ = some (.int .i64 j) := by subst hW; simp [go_sem]
  have b32 : W.cell? ⟨w.heap.size + 1 + 1 + 1, 2, none⟩ = some (.int .i64 y') := by subst hW; simp [go_sem]
  have b33 : W.cell? ⟨w.heap.size + 1 + 1 + 1, 3, none⟩ = some (.int .i64 n') := by subst hW; simp [go_sem]
  have b34 : W.cell? ⟨w.heap.size + 1 + 1 + 1, 4, none⟩ = some (.int .i64 d') := by subst hW; simp [go_sem]
  have L3 : w.heap.size + 1 + 1 + 1 < W.heap.size := by subst hW; first | (simp; done) | (simp; omega)
  rw [← hW]
  clear hW
  generalize w.heap.size + 1 + 1 + 1 = B3 at *
  generalize w.heap.size + 1 + 1 = B2 at *
  generalize w.heap.size + 1 = B1 at *
  obtain ⟨B0, hB0⟩ : ∃ B, B = w.heap.size := ⟨_, rfl⟩
  rw [← hB0] at b00 L0
  try rw [← hB0]
  replace hB0 := Lib.hid hB0
  have cz := szTrack_c a0 l.length cap0 1048576 W hl0 (by omega) (by omega)
  by_cases hn : (l.length : Int) ≤ 1048576
  case neg =>
    rw [if_neg hn] at cz
    refine cz.mono ?_
    rintro e V1 ⟨rfl, hb⟩
    go_wp2_with fail
    go_ret
    exact ⟨rfl, HD.trans (hb.mono HD.size)⟩
  rw [if_pos hn] at cz
  refine (cz).mono ?_
  rintro e V1 ⟨rfl, hb⟩
  replace HD := HD.trans (hb.mono HD.size)
  obtain ⟨hc, hf⟩ := bcell hb
  have hz := hb.size
  replace b00 := (hc _ 0 L0).trans b00
  replace b10 := (hc _ 0 L1).trans b10
  replace b11 := (hc _ 1 L1).trans b11
  replace b12 := (hc _ 2 L1).trans b12
  replace b13 := (hc _ 3 L1).trans b13
  replace b14 := (hc _ 4 L1).trans b14
  replace b20 := (hc _ 0 L2).trans b20
  replace b30 := (hc _ 0 L3).trans b30
  replace b31 := (hc _ 1 L3).trans b31
  replace b32 := (hc _ 2 L3).trans b32
  replace b33 := (hc _ 3 L3).trans b33
  replace b34 := (hc _ 4 L3).trans b34
  replace L0 := Nat.lt_of_lt_of_le L0 hz
  replace L1 := Nat.lt_of_lt_of_le L1 hz
  replace L2 := Nat.lt_of_lt_of_le L2 hz
  replace L3 := Nat.lt_of_lt_of_le L3 hz
  clear hc hf hz hb
  go_wp2_with fail
  clear cz
  have cz := szTrack_c a1 m.length cap1 (1048576 - (l.length : Int)) V1 hm0 (by omega) (by omega)
  by_cases hn2 : (m.length : Int) ≤ 1048576 - (l.length : Int)
  case neg =>
    rw [if_neg hn2] at cz
    refine cz.mono ?_
    rintro e V2 ⟨rfl, hb⟩
    go_wp2_with fail
    go_ret
    exact ⟨rfl, HD.trans (hb.mono HD.size)⟩
  rw [if_pos hn2] at cz
  refine (cz).mono ?_
  rintro e V2 ⟨rfl, hb⟩
  replace HD := HD.trans (hb.mono HD.size)
  obtain ⟨hc, hf⟩ := bcell hb
  have hz := hb.size
  replace b00 := (hc _ 0 L0).trans b00
  replace b10 := (hc _ 0 L1).trans b10
  replace b11 := (hc _ 1 L1).trans b11
  replace b12 := (hc _ 2 L1).trans b12
  replace b13 := (hc _ 3 L1).trans b13
  replace b14 := (hc _ 4 L1).trans b14
  replace b20 := (hc _ 0 L2).trans b20
  replace b30 := (hc _ 0 L3).trans b30
  replace b31 := (hc _ 1 L3).trans b31
  replace b32 := (hc _ 2 L3).trans b32
  replace b33 := (hc _ 3 L3).trans b33
  replace b34 := (hc _ 4 L3).trans b34
  replace L0 := Nat.lt_of_lt_of_le L0 hz
  replace L1 := Nat.lt_of_lt_of_le L1 hz
  replace L2 := Nat.lt_of_lt_of_le L2 hz
  replace L3 := Nat.lt_of_lt_of_le L3 hz
  clear hc hf hz hb
  go_wp2_with fail
  clear cz
  have hl1 : l.length ≤ 1048576 := by omega
  have hm1 : m.length ≤ 1048576 := by omega
  have hl2 : l.length ≤ 4611686018427387904 := by omega
  have hm2 : m.length ≤ 4611686018427387904 := by omega
  have CS := Lib.hid (fun g g' w h h' => CompareCrossingsS_c (some ⟨g, 0, none⟩) (some ⟨g', 0, none⟩) l.length m.length l m t i y n d t' j y' n' d' w hl2 hm2 h h')
  have CI := Lib.hid (fun g g' w h h' => CompareCrossings_c (some ⟨g, 0, none⟩) (some ⟨g', 0, none⟩) l.length m.length l m t i y n d t' j y' n' d' w hl2 hm2 h h')
  generalize (cmpCrR l i n d m j n' d').1 = R1 at *
  generalize (cmpCrR l i n d m j n' d').2 = R2 at *
  have FV := Lib.hid (FixAt.below hf0.out HD)
  have GV := Lib.hid (FixAt.below hf1.out HD)
  go_cut [10, 11] (fun s10 s11 wx => s10 = .int .i64 R1 ∧ s11 = .int .i64 R2 ∧ Below V2.heap.size V2 wx)
  case first =>
    go_region_held3 (fun wx => Below V2.heap.size V2 wx ∧ ∀ b o, b < V2.heap.size → wx.cell? ⟨b, o, none⟩ = V2.cell? ⟨b, o, none⟩)
      (first | with_reducible exact held_step (by assumption) hb | with_reducible exact held_start _ _ | with_reducible exact held_begin _)
      (first | (go_at_call_of 28 (a0); refine (toTrack_c a0 cap0 l _ hl1 (FixAt.below FV.out (And.left (by with_reducible assumption)))).mono ?_; rintro e w1 ⟨⟨g, rfl, hg, hlg⟩, hb⟩; have hz := held_size (by with_reducible assumption) hb; (try simp at hz); have hs := hb.size; (try simp at hs)) | (go_at_call 28; refine (toTrack_c a1 cap1 m _ hm1 (FixAt.below GV.out (And.left (by with_reducible assumption)))).mono ?_; rintro e w1 ⟨⟨g, rfl, hg, hlg⟩, hb⟩; have hz := held_size (by with_reducible assumption) hb; (try simp at hz); have hs := hb.size; (try simp at hs)) | (go_at_call 29; refine (toCrossing_c _ _ _ _ _ _).mono ?_; rintro e w1 ⟨rfl, hb⟩; have hz := held_size (by with_reducible assumption) hb; (try simp at hz); have hs := hb.size; (try simp at hs)) | (go_at_call 27; refine (CS.out _ _ _ (FixAt.below (FixBlk.at (by assumption)) (by repeat (first | with_reducible exact Below.refl _ _ | with_reducible assumption | with_reducible refine Below.drew ?_ | with_reducible refine Below.alloc ?_ (by first | exact Nat.le_refl _ | (simp; done) | (simp; omega) | omega) _ | with_reducible refine Below.setCell ?_ (by first | exact Nat.le_refl _ | (simp; done) | (simp; omega) | omega) _ | with_reducible refine Below.trans ?_ (Below.mono (by with_reducible assumption) (by first | exact Nat.le_refl _ | (simp; done) | (simp; omega) | omega))))) (FixAt.below (FixBlk.at (by assumption)) (by repeat (first | with_reducible exact Below.refl _ _ | with_reducible assumption | with_reducible refine Below.drew ?_ | with_reducible refine Below.alloc ?_ (by first | exact Nat.le_refl _ | (simp; done) | (simp; omega) | omega) _ | with_reducible refine Below.setCell ?_ (by first | exact Nat.le_refl _ | (simp; done) | (simp; omega) | omega) _ | with_reducible refine Below.trans ?_ (Below.mono (by with_reducible assumption) (by first | exact Nat.le_refl _ | (simp; done) | (simp; omega) | omega)))))).mono ?_; rintro e w1 ⟨rfl, hb⟩; have hz := held_size (by with_reducible assumption) hb; (try simp at hz); have hs := hb.size; (try simp at hs)))
    all_goals go_wp2_with fail
    all_goals (go_meet; exact ⟨rfl, rfl, And.left (by with_reducible assumption)⟩)
  case rest =>
    obtain ⟨rfl, rfl, hb⟩ := hcut
    obtain ⟨V3, rfl⟩ : ∃ x : World, x = wc := ⟨_, rfl⟩
    replace HD := HD.trans (hb.mono HD.size)
    obtain ⟨hc, hf⟩ := bcell hb
    have hz := hb.size
    replace b00 := (hc _ 0 L0).trans b00
    replace b10 := (hc _ 0 L1).trans b10
    replace b11 := (hc _ 1 L1).trans b11
    replace b12 := (hc _ 2 L1).trans b12
    replace b13 := (hc _ 3 L1).trans b13
    replace b14 := (hc _ 4 L1).trans b14
    replace b20 := (hc _ 0 L2).trans b20
    replace b30 := (hc _ 0 L3).trans b30
    replace b31 := (hc _ 1 L3).trans b31
    replace b32 := (hc _ 2 L3).trans b32
    replace b33 := (hc _ 3 L3).trans b33
    replace b34 := (hc _ 4 L3).trans b34
    replace FV := Lib.hid (FixAt.below FV.out hb)
    replace GV := Lib.hid (FixAt.below GV.out hb)
    replace L0 := Nat.lt_of_lt_of_le L0 hz
    replace L1 := Nat.lt_of_lt_of_le L1 hz
    replace L2 := Nat.lt_of_lt_of_le L2 hz
    replace L3 := Nat.lt_of_lt_of_le L3 hz
    clear hc hf hz hb
    go_wp2_with fail
    refine (toTrack_c a0 cap0 l V3 hl1 FV.out).mono ?_
    rintro e V4 ⟨⟨g0, rfl, hg, hlg⟩, hb⟩
    have hG0 := Lib.hid hg
    clear hg hlg
    replace HD := HD.trans (hb.mono HD.size)
    obtain ⟨hc, hf⟩ := bcell hb
    have hz := hb.size
    replace b00 := (hc _ 0 L0).trans b00
    replace b10 := (hc _ 0 L1).trans b10
    replace b11 := (hc _ 1 L1).trans b11
    replace b12 := (hc _ 2 L1).trans b12
    replace b13 := (hc _ 3 L1).trans b13
    replace b14 := (hc _ 4 L1).trans b14
    replace b20 := (hc _ 0 L2).trans b20
    replace b30 := (hc _ 0 L3).trans b30
    replace b31 := (hc _ 1 L3).trans b31
    replace b32 := (hc _ 2 L3).trans b32
    replace b33 := (hc _ 3 L3).trans b33
    replace b34 := (hc _ 4 L3).trans b34
    replace FV := Lib.hid (FixAt.below FV.out hb)
    replace GV := Lib.hid (FixAt.below GV.out hb)
    replace L0 := Nat.lt_of_lt_of_le L0 hz
    replace L1 := Nat.lt_of_lt_of_le L1 hz
    replace L2 := Nat.lt_of_lt_of_le L2 hz
    replace L3 := Nat.lt_of_lt_of_le L3 hz
    clear hc hf hz hb
    go_wp2_with fail
    obtain ⟨V5, hV5⟩ : ∃ x, x = V4.alloc (.cells #[.slice (some ⟨g0, 0, none⟩) l.length l.length] 26) := ⟨_, rfl⟩
    have hb : Below V4.heap.size V4 V5 := by subst hV5; exact (Below.refl _ _).alloc (Nat.le_refl _) _
    have k00 : V5.cell? ⟨V4.heap.size, 0, none⟩ = some (.slice (some ⟨g0, 0, none⟩) l.length l.length) := by subst hV5; simp [go_sem]
    have K0 : V4.heap.size < V5.heap.size := by subst hV5; simp
    rw [← hV5]
    clear hV5
    replace HD := HD.trans (hb.mono HD.size)
    obtain ⟨hc, hf⟩ := bcell hb
    have hz := hb.size
    replace b00 := (hc _ 0 L0).trans b00
    replace b10 := (hc _ 0 L1).trans b10
    replace b11 := (hc _ 1 L1).trans b11
    replace b12 := (hc _ 2 L1).trans b12
    replace b13 := (hc _ 3 L1).trans b13
    replace b14 := (hc _ 4 L1).trans b14
    replace b20 := (hc _ 0 L2).trans b20
    replace b30 := (hc _ 0 L3).trans b30
    replace b31 := (hc _ 1 L3).trans b31
    replace b32 := (hc _ 2 L3).trans b32
    replace b33 := (hc _ 3 L3).trans b33
    replace b34 := (hc _ 4 L3).trans b34
    replace FV := Lib.hid (FixAt.below FV.out hb)
    replace GV := Lib.hid (FixAt.below GV.out hb)
    replace hG0 := Lib.hid (FixBlk.below hG0.out hb)
    replace L0 := Nat.lt_of_lt_of_le L0 hz
    replace L1 := Nat.lt_of_lt_of_le L1 hz
    replace L2 := Nat.lt_of_lt_of_le L2 hz
    replace L3 := Nat.lt_of_lt_of_le L3 hz
    clear hc hf hz hb
    obtain ⟨C0, hC0⟩ : ∃ x, x = V4.heap.size := ⟨_, rfl⟩
    rw [← hC0] at k00 K0
    try rw [← hC0]
    replace hC0 := Lib.hid hC0
    refine (toTrack_c a1 cap1 m V5 hm1 GV.out).mono ?_
    rintro e V6 ⟨⟨g1, rfl, hg, hlg⟩, hb⟩
    have hG1 := Lib.hid hg
    clear hg hlg
    replace HD := HD.trans (hb.mono HD.size)
    obtain ⟨hc, hf⟩ := bcell hb
    have hz := hb.size
    replace b00 := (hc _ 0 L0).trans b00
    replace b10 := (hc _ 0 L1).trans b10
    replace b11 := (hc _ 1 L1).trans b11
    replace b12 := (hc _ 2 L1).trans b12
    replace b13 := (hc _ 3 L1).trans b13
    replace b14 := (hc _ 4 L1).trans b14
    replace b20 := (hc _ 0 L2).trans b20
    replace b30 := (hc _ 0 L3).trans b30
    replace b31 := (hc _ 1 L3).trans b31
    replace b32 := (hc _ 2 L3).trans b32
    replace b33 := (hc _ 3 L3).trans b33
    replace b34 := (hc _ 4 L3).trans b34
    replace k00 := (hc _ 0 K0).trans k00
    replace FV := Lib.hid (FixAt.below FV.out hb)
    replace GV := Lib.hid (FixAt.below GV.out hb)
    replace hG0 := Lib.hid (FixBlk.below hG0.out hb)
    replace L0 := Nat.lt_of_lt_of_le L0 hz
    replace L1 := Nat.lt_of_lt_of_le L1 hz
    replace L2 := Nat.lt_of_lt_of_le L2 hz
    replace L3 := Nat.lt_of_lt_of_le L3 hz
    replace K0 := Nat.lt_of_lt_of_le K0 hz
    clear hc hf hz hb
    go_wp2_with fail
    obtain ⟨V7, hV7⟩ : ∃ x, x = V6.alloc (.cells #[.slice (some ⟨g1, 0, none⟩) m.length m.length] 26) := ⟨_, rfl⟩
    have hb : Below V6.heap.size V6 V7 := by subst hV7; exact (Below.refl _ _).alloc (Nat.le_refl _) _
    have k10 : V7.cell? ⟨V6.heap.size, 0, none⟩ = some (.slice (some ⟨g1, 0, none⟩) m.length m.length) := by subst hV7; simp [go_sem]
    have K1 : V6.heap.size < V7.heap.size := by subst hV7; simp
    rw [← hV7]
    clear hV7
    replace HD := HD.trans (hb.mono HD.size)
    obtain ⟨hc, hf⟩ := bcell hb
    have hz := hb.size
    replace b00 := (hc _ 0 L0).trans b00
    replace b10 := (hc _ 0 L1).trans b10
    replace b11 := (hc _ 1 L1).trans b11
    replace b12 := (hc _ 2 L1).trans b12
    replace b13 := (hc _ 3 L1).trans b13
    replace b14 := (hc _ 4 L1).trans b14
    replace b20 := (hc _ 0 L2).trans b20
    replace b30 := (hc _ 0 L3).trans b30
    replace b31 := (hc _ 1 L3).trans b31
    replace b32 := (hc _ 2 L3).trans b32
    replace b33 := (hc _ 3 L3).trans b33
    replace b34 := (hc _ 4 L3).trans b34
    replace k00 := (hc _ 0 K0).trans k00
    replace FV := Lib.hid (FixAt.below FV.out hb)
    replace GV := Lib.hid (FixAt.below GV.out hb)
    replace hG0 := Lib.hid (FixBlk.below hG0.out hb)
    replace hG1 := Lib.hid (FixBlk.below hG1.out hb)
    replace L0 := Nat.lt_of_lt_of_le L0 hz
    replace L1 := Nat.lt_of_lt_of_le L1 hz
    replace L2 := Nat.lt_of_lt_of_le L2 hz
    replace L3 := Nat.lt_of_lt_of_le L3 hz
    replace K0 := Nat.lt_of_lt_of_le K0 hz
    clear hc hf hz hb
    obtain ⟨C1, hC1⟩ : ∃ x, x = V6.heap.size := ⟨_, rfl⟩
    rw [← hC1] at k10 K1
    try rw [← hC1]
    replace hC1 := Lib.hid hC1
    go_cut [14, 15] (fun s14 s15 wx => s14 = .int .i64 R1 ∧ s15 = .int .i64 R2 ∧ Below V7.heap.size V7 wx)
    case first =>
      go_region_held3 (fun wx => Below V7.heap.size V7 wx ∧ ∀ b o, b < V7.heap.size → wx.cell? ⟨b, o, none⟩ = V7.cell? ⟨b, o, none⟩)
        (first | with_reducible exact held_step (by assumption) hb | with_reducible exact held_start _ _ | with_reducible exact held_begin _)
        (first | (go_at_call 29; refine (toCrossing_c _ _ _ _ _ _).mono ?_; rintro e w1 ⟨rfl, hb⟩; have hz := held_size (by with_reducible assumption) hb; (try simp at hz); have hs := hb.size; (try simp at hs)) | (go_at_call 30; refine (CI.out _ _ _ (FixAt.below (FixBlk.at hG0.out) (And.left (by with_reducible assumption))) (FixAt.below (FixBlk.at hG1.out) (And.left (by with_reducible assumption)))).mono ?_; rintro e w1 ⟨rfl, hb⟩; have hz := held_size (by with_reducible assumption) hb; (try simp at hz); have hs := hb.size; (try simp at hs)))
      all_goals go_wp2_with fail
      all_goals (go_meet; exact ⟨rfl, rfl, And.left (by with_reducible assumption)⟩)
    case rest =>
      obtain ⟨rfl, rfl, hb⟩ := hcut
      obtain ⟨V8, rfl⟩ : ∃ x : World, x = wc := ⟨_, rfl⟩
      replace HD := HD.trans (hb.mono HD.size)
      obtain ⟨hc, hf⟩ := bcell hb
      have hz := hb.size
      replace b00 := (hc _ 0 L0).trans b00
      replace b10 := (hc _ 0 L1).trans b10
      replace b11 := (hc _ 1 L1).trans b11
      replace b12 := (hc _ 2 L1).trans b12
      replace b13 := (hc _ 3 L1).trans b13
      replace b14 := (hc _ 4 L1).trans b14
      replace b20 := (hc _ 0 L2).trans b20
      replace b30 := (hc _ 0 L3).trans b30
      replace b31 := (hc _ 1 L3).trans b31
      replace b32 := (hc _ 2 L3).trans b32
      replace b33 := (hc _ 3 L3).trans b33
      replace b34 := (hc _ 4 L3).trans b34
      replace k00 := (hc _ 0 K0).trans k00
      replace k10 := (hc _ 0 K1).trans k10
      replace FV := Lib.hid (FixAt.below FV.out hb)
      replace GV := Lib.hid (FixAt.below GV.out hb)
      replace hG0 := Lib.hid (FixBlk.below hG0.out hb)
      replace hG1 := Lib.hid (FixBlk.below hG1.out hb)
      replace L0 := Nat.lt_of_lt_of_le L0 hz
      replace L1 := Nat.lt_of_lt_of_le L1 hz
      replace L2 := Nat.lt_of_lt_of_le L2 hz
      replace L3 := Nat.lt_of_lt_of_le L3 hz
      replace K0 := Nat.lt_of_lt_of_le K0 hz
      replace K1 := Nat.lt_of_lt_of_le K1 hz
      clear hc hf hz hb
      go_wp2_with fail
      go_cut [64] (fun s64 wx => s64 = .bool false ∧ Below V8.heap.size V8 wx)
      case first =>
        go_region_held3 (fun wx => Below V8.heap.size V8 wx ∧ ∀ b o, b < V8.heap.size → wx.cell? ⟨b, o, none⟩ = V8.cell? ⟨b, o, none⟩)
          (first | with_reducible exact held_step (by assumption) hb | with_reducible exact held_start _ _ | with_reducible exact held_begin _)
          (first | (go_at_call 28; refine (toTrack_c a0 cap0 l _ hl1 (FixAt.below FV.out (And.left (by with_reducible assumption)))).mono ?_; rintro e w1 ⟨⟨g, rfl, hg, hlg⟩, hb⟩; have hz := held_size (by with_reducible assumption) hb; (try simp at hz); have hs := hb.size; (try simp at hs)) | (go_at_call 31; refine (eqTrack_c _ _ _ _ l _ hl2 (FixAt.below (FixBlk.at hG0.out) (And.left (by with_reducible assumption))) (FixBlk.at (by assumption))).mono ?_; rintro e w1 ⟨rfl, hb⟩; have hz := held_size (by with_reducible assumption) hb; (try simp at hz); have hs := hb.size; (try simp at hs)))
        all_goals go_wp2_with fail
        all_goals (go_meet; exact ⟨rfl, And.left (by with_reducible assumption)⟩)
      case rest =>
        obtain ⟨rfl, hb⟩ := hcut
        obtain ⟨V9, rfl⟩ : ∃ x : World, x = wc := ⟨_, rfl⟩
        replace HD := HD.trans (hb.mono HD.size)
        obtain ⟨hc, hf⟩ := bcell hb
        have hz := hb.size
        replace b00 := (hc _ 0 L0).trans b00
        replace b10 := (hc _ 0 L1).trans b10
        replace b11 := (hc _ 1 L1).trans b11
        replace b12 := (hc _ 2 L1).trans b12
        replace b13 := (hc _ 3 L1).trans b13
        replace b14 := (hc _ 4 L1).trans b14
        replace b20 := (hc _ 0 L2).trans b20
        replace b30 := (hc _ 0 L3).trans b30
        replace b31 := (hc _ 1 L3).trans b31
        replace b32 := (hc _ 2 L3).trans b32
        replace b33 := (hc _ 3 L3).trans b33
        replace b34 := (hc _ 4 L3).trans b34
        replace k00 := (hc _ 0 K0).trans k00
        replace k10 := (hc _ 0 K1).trans k10
        replace FV := Lib.hid (FixAt.below FV.out hb)
        replace GV := Lib.hid (FixAt.below GV.out hb)
        replace hG0 := Lib.hid (FixBlk.below hG0.out hb)
        replace hG1 := Lib.hid (FixBlk.below hG1.out hb)
        replace L0 := Nat.lt_of_lt_of_le L0 hz
        replace L1 := Nat.lt_of_lt_of_le L1 hz
        replace L2 := Nat.lt_of_lt_of_le L2 hz
        replace L3 := Nat.lt_of_lt_of_le L3 hz
        replace K0 := Nat.lt_of_lt_of_le K0 hz
        replace K1 := Nat.lt_of_lt_of_le K1 hz
        clear hc hf hz hb
        go_wp2_with fail
        go_cut [69] (fun s69 wx => s69 = .bool false ∧ Below V9.heap.size V9 wx)
        case first =>
          go_region_held3 (fun wx => Below V9.heap.size V9 wx ∧ ∀ b o, b < V9.heap.size → wx.cell? ⟨b, o, none⟩ = V9.cell? ⟨b, o, none⟩)
            (first | with_reducible exact held_step (by assumption) hb | with_reducible exact held_start _ _ | with_reducible exact held_begin _)
            (first | (go_at_call 28; refine (toTrack_c a1 cap1 m _ hm1 (FixAt.below GV.out (And.left (by with_reducible assumption)))).mono ?_; rintro e w1 ⟨⟨g, rfl, hg, hlg⟩, hb⟩; have hz := held_size (by with_reducible assumption) hb; (try simp at hz); have hs := hb.size; (try simp at hs)) | (go_at_call 31; refine (eqTrack_c _ _ _ _ m _ hm2 (FixAt.below (FixBlk.at hG1.out) (And.left (by with_reducible assumption))) (FixBlk.at (by assumption))).mono ?_; rintro e w1 ⟨rfl, hb⟩; have hz := held_size (by with_reducible assumption) hb; (try simp at hz); have hs := hb.size; (try simp at hs)))
          all_goals go_wp2_with fail
          all_goals (go_meet; exact ⟨rfl, And.left (by with_reducible assumption)⟩)
        case rest =>
          obtain ⟨rfl, hb⟩ := hcut
          obtain ⟨V10, rfl⟩ : ∃ x : World, x = wc := ⟨_, rfl⟩
          replace HD := HD.trans (hb.mono HD.size)
          obtain ⟨hc, hf⟩ := bcell hb
          have hz := hb.size
          replace b00 := (hc _ 0 L0).trans b00
          replace b10 := (hc _ 0 L1).trans b10
          replace b11 := (hc _ 1 L1).trans b11
          replace b12 := (hc _ 2 L1).trans b12
          replace b13 := (hc _ 3 L1).trans b13
          replace b14 := (hc _ 4 L1).trans b14
          replace b20 := (hc _ 0 L2).trans b20
          replace b30 := (hc _ 0 L3).trans b30
          replace b31 := (hc _ 1 L3).trans b31
          replace b32 := (hc _ 2 L3).trans b32
          replace b33 := (hc _ 3 L3).trans b33
          replace b34 := (hc _ 4 L3).trans b34
          replace k00 := (hc _ 0 K0).trans k00
          replace k10 := (hc _ 0 K1).trans k10
          replace FV := Lib.hid (FixAt.below FV.out hb)
          replace GV := Lib.hid (FixAt.below GV.out hb)
          replace hG0 := Lib.hid (FixBlk.below hG0.out hb)
          replace hG1 := Lib.hid (FixBlk.below hG1.out hb)
          replace L0 := Nat.lt_of_lt_of_le L0 hz
          replace L1 := Nat.lt_of_lt_of_le L1 hz
          replace L2 := Nat.lt_of_lt_of_le L2 hz
          replace L3 := Nat.lt_of_lt_of_le L3 hz
          replace K0 := Nat.lt_of_lt_of_le K0 hz
          replace K1 := Nat.lt_of_lt_of_le K1 hz
          clear hc hf hz hb
          go_wp2_with fail
          go_ret
          exact ⟨rfl, HD⟩

theorem own : ownKnob Try.prog.godebug = none := by kernel_rfl
theorem laidOut : laidOutB Try.prog = true := by kernel_rfl
set_option maxRecDepth 100000 in
theorem lifted (os : Os) (started : os.Started) (H : Type) (enc : TypeId × Value → H) :
    ReturnsInHanded {} Try.checked os 5 .any (Rows.fnExactCompareCrossingsSpec.pre6 enc Try.prog Try.f5 Rows.fnExactCompareCrossingsRow.domain false) (Rows.fnExactCompareCrossingsSpec.post enc Try.prog Try.f5 false true false false) := by
  refine returnsInHanded_of_change (C := Try.checked) own started (by kernel_rfl) Try.func5
    (ChangeSpec.witness6 (enc := enc) (C := Try.checked) false ⟨#[], #[.agg #[.slice none 0 0], .agg #[.int .i64 0, .int .i64 0, .int .i64 0, .int .i64 0, .int .i64 0], .agg #[.slice none 0 0], .agg #[.int .i64 0, .int .i64 0, .int .i64 0, .int .i64 0, .int .i64 0]], []⟩ 8 (by kernel_rfl) (by kernel_rfl) (by kernel_rfl) (by kernel_rfl)) ?_
  intro W base args ds gs before hval0 hW hcnd _
  have hval : ∀ (j : Nat) t v, Try.f5.params[j]? = some t → args[j]? = some v → Value.okWide Try.prog W .any base t v := hval0
  have hW' := hW
  obtain ⟨p, q, hA0, hV, rfl, hfz, hnd⟩ := hW
  have hA : DataW.TrodAll enc Try.prog W 0 (fun _ => true) true Try.f5.params.toList args.toList ds p := hA0
  rw [Try.params5] at hA hval
  obtain ⟨v0, vs0, d0, ds0, p0, q0, hargs, rfl, rfl, h0, r0⟩ := trodAll_cons hA
  obtain ⟨v1, vs1, d1, ds1, p1, q1, rfl, rfl, rfl, h1, r1⟩ := trodAll_cons r0
  obtain ⟨v2, vs2, d2, ds2, p2, q2, rfl, rfl, rfl, h2, r2⟩ := trodAll_cons r1
  obtain ⟨v3, vs3, d3, ds3, p3, q3, rfl, rfl, rfl, h3, r3⟩ := trodAll_cons r2
  obtain ⟨rfl, rfl, rfl⟩ := trodAll_nil r3
  obtain rfl : args = #[v0, v1, v2, v3] := by cases args; simp_all
  obtain ⟨rfl, rfl⟩ := trodVars_none hV
  have k0 := h0
  have lt0 : ∀ x ∈ p0, x.block < W.heap.size := by obtain ⟨m, hm⟩ := k0; exact DataW.trod_lt m _ _ _ hm
  obtain ⟨⟨a0, cap0⟩, l0, rfl, w0⟩ := open_track (n := 0) Try.underlying47 Try.underlying45 Try.underlying141 (by kernel_rfl) (by kernel_rfl) (by kernel_rfl) ⟨by kernel_rfl, by kernel_rfl⟩ (hval 0 47 v0 rfl rfl) h0
  have k1 := h1
  have lt1 : ∀ x ∈ p1, x.block < W.heap.size := by obtain ⟨m, hm⟩ := k1; exact DataW.trod_lt m _ _ _ hm
  obtain ⟨a1, b1, c1, e1, f1, rfl, w1a, w1b, w1c, w1e, w1f⟩ := open_five (n := 4) Try.underlying51 (by kernel_rfl) (by kernel_rfl) (hval 1 51 v1 rfl rfl) h1
  have k2 := h2
  have lt2 : ∀ x ∈ p2, x.block < W.heap.size := by obtain ⟨m, hm⟩ := k2; exact DataW.trod_lt m _ _ _ hm
  obtain ⟨⟨a2, cap2⟩, l2, rfl, w2⟩ := open_track (n := 0) Try.underlying47 Try.underlying45 Try.underlying141 (by kernel_rfl) (by kernel_rfl) (by kernel_rfl) ⟨by kernel_rfl, by kernel_rfl⟩ (hval 2 47 v2 rfl rfl) h2
  have k3 := h3
  have lt3 : ∀ x ∈ p3, x.block < W.heap.size := by obtain ⟨m, hm⟩ := k3; exact DataW.trod_lt m _ _ _ hm
  obtain ⟨a3, b3, c3, e3, f3, rfl, w3a, w3b, w3c, w3e, w3f⟩ := open_five (n := 4) Try.underlying51 (by kernel_rfl) (by kernel_rfl) (hval 3 51 v3 rfl rfl) h3
  clear hA0 hval0
  refine (walk a0 cap0 l0 a1 b1 c1 e1 f1 a2 cap2 l2 a3 b3 c3 e3 f3 W w0 w1a w1b w1c w1e w1f w2 w3a w3b w3c w3e w3f).mono fun e W' ⟨he, bel⟩ => ?_
  subst he
  exact ⟨_, rfl, _, _, _, [], _, [], hW', trodAll_mk1 (shut_bool Try.underlying4 _), (trodAll_cons_mk (Below.trod laidOut (by kernel_rfl) (of_decide_eq_true (by kernel_rfl)) k0 bel lt0) (trodAll_cons_mk (Below.trod laidOut (by kernel_rfl) (of_decide_eq_true (by kernel_rfl)) k1 bel lt1) (trodAll_cons_mk (Below.trod laidOut (by kernel_rfl) (of_decide_eq_true (by kernel_rfl)) k2 bel lt2) (trodAll_cons_mk (Below.trod laidOut (by kernel_rfl) (of_decide_eq_true (by kernel_rfl)) k3 bel lt3) trodAll_mk0)))), rfl, bel.frame _, fun h => by cases h⟩

theorem over : Rows.fnExactCompareCrossingsRow.holds Try.pinned (OpenSpec.ofChange Rows.fnExactCompareCrossingsSpec) :=
  OpenClaim.holds_of_wide 5 Try.f5 rfl rfl rfl rfl rfl rfl rfl ⟨rfl, rfl, rfl, rfl, rfl⟩ rfl rfl rfl rfl rfl (by kernel_rfl) Try.func5 (by kernel_rfl)
    (of_decide_eq_true (by kernel_rfl)) (by unfold Func.isWrapper; first | (rw [if_pos (by decide +kernel)]; kernel_rfl) | (rw [if_neg (by decide +kernel)]; exact ⟨rfl, rfl⟩))
    (fun os started H enc _ => lifted os started H enc)

/-- The statement. -/
theorem proved : Rows.FnExactCompareCrossingsSaid := over
end Go.Proofs.Ytdepdkpehbkcjaa.compareCrossings
