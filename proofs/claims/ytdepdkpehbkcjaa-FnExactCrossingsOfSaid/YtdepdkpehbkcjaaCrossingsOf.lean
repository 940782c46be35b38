/-
  FnExactCrossingsOf: for all arguments the program's function answers as the reference's, leaves its argument as it was, and its result is its own. No condition.
-/
import Derived.Test.YtdepdkpehbkcjaaRows
import Derived.Test.YtdepdkpehbkcjaaL05k
namespace Go.Proofs.Ytdepdkpehbkcjaa.crossingsOf
open Go.ChangeShapes Go.WideShapes Go.ChangeAt Go.RowKit Go.Deep
open Go.ChangeMaps (open_string shut_string)
set_option linter.unusedVariables false

set_option maxRecDepth 100000 in
set_option maxHeartbeats 2000000 in
theorem walk (a0 : Option Addr) (cap0 : Nat) (l : List Fx) (ax ay bx cy : Int) (w : World) (w0 : l.length ≤ 9223372036854775807 ∧ FixAt w a0 l) (vax : (Lit.int .i64 ax).wf = true) (vay : (Lit.int .i64 ay).wf = true) (vbx : (Lit.int .i64 bx).wf = true) (vcy : (Lit.int .i64 cy).wf = true) :
    Calls Try.prog 11 #[.agg #[.slice a0 l.length cap0], .agg #[.int .i64 ax, .int .i64 ay, .int .i64 bx, .int .i64 cy]] w fun e w' => e = .returned (.bool true) ∧ Below w.heap.size w w' := by
  obtain ⟨hl0, hf0⟩ := w0
  clear vax vay vbx vcy
  replace hf0 := Lib.hid hf0
  go_enter Try.func11, Try.ntmps11
  go_wp2_with fail
  obtain ⟨W, hW⟩ : ∃ W, W = ((w.alloc (.cells #[.slice a0 l.length cap0] 47)).alloc (.cells #[.int .i64 ax, .int .i64 ay, .int .i64 bx, .int .i64 cy] 62)) := ⟨_, rfl⟩
  have HD : Below w.heap.size w W := by subst hW; exact (by repeat (first | with_reducible exact Below.refl _ _ | with_reducible assumption | with_reducible refine Below.drew ?_ | with_reducible refine Below.alloc ?_ (by first | exact Nat.le_refl _ | (simp; done) | (simp; omega) | omega) _ | with_reducible refine Below.setCell ?_ (by first | exact Nat.le_refl _ | (simp; done) | (simp; omega) | omega) _ | with_reducible refine Below.trans ?_ (Below.mono (by with_reducible assumption) (by first | exact Nat.le_refl _ | (simp; done) | (simp; omega) | omega))))
  have b00 : W.cell? ⟨w.heap.size, 0, none⟩ = some (.slice a0 l.length cap0) := by subst hW; simp [go_sem]
  have L0 : w.heap.size < W.heap.size := by subst hW; first | (simp; done) | (simp; omega)
  have b10 : W.cell? ⟨w.heap.size + 1, 0, none⟩ = some (.int .i64 ax) := by subst hW; simp [go_sem]
  have b11 : W.cell? ⟨w.heap.size + 1, 1, none⟩ = some (.int .i64 ay) := by subst hW; simp [go_sem]
  have b12 : W.cell? ⟨w.heap.size + 1, 2, none⟩ = some (.int .i64 bx) := by subst hW; simp [go_sem]
  have b13 : W.cell? ⟨w.heap.size + 1, 3, none⟩ = some (.int .i64 cy) := by subst hW; simp [go_sem]
  have L1 : w.heap.size + 1 < W.heap.size := by subst hW; first | (simp; done) | (simp; omega)
  rw [← hW]
  clear hW
  generalize w.heap.size + 1 = B1 at *
  obtain ⟨B0, hB0⟩ : ∃ B, B = w.heap.size := ⟨_, rfl⟩
  rw [← hB0] at b00 L0
  try rw [← hB0]
  replace hB0 := Lib.hid hB0
  have cz := szTrack_c a0 l.length cap0 1048576 W hl0 (by omega) (by omega)
  by_cases hn : (l.length : Int) ≤ 1048576
  case neg =>
    rw [if_neg hn] at cz
    refine cz.mono ?_
    rintro e V1 ⟨rfl, hb⟩
    go_wp2_with fail
    go_ret
    exact ⟨rfl, HD.trans (hb.mono HD.size)⟩
  rw [if_pos hn] at cz
  refine (cz).mono ?_
  rintro e V1 ⟨rfl, hb⟩
  replace HD := HD.trans (hb.mono HD.size)
  obtain ⟨hc, hf⟩ := bcell hb
  have hz := hb.size
  replace b00 := (hc _ 0 L0).trans b00
  replace b10 := (hc _ 0 L1).trans b10
  replace b11 := (hc _ 1 L1).trans b11
  replace b12 := (hc _ 2 L1).trans b12
  replace b13 := (hc _ 3 L1).trans b13
  replace L0 := Nat.lt_of_lt_of_le L0 hz
  replace L1 := Nat.lt_of_lt_of_le L1 hz
  clear hc hf hz hb
  go_wp2_with fail
  clear cz
  have hl1 : l.length ≤ 1048576 := by omega
  have hl2 : l.length ≤ 4611686018427387904 := by omega
  have cs := fun g w h => CrossingsOfS_c (some ⟨g, 0, none⟩) l.length l ax ay bx cy w hl2 h
  have ci := fun g w h => CrossingsOf_c (some ⟨g, 0, none⟩) l.length l ax ay bx cy w hl2 h
  have hn2 := @crsR_len l ax ay bx cy
  generalize (crsR l ax ay bx cy).1 = L at *
  generalize (crsR l ax ay bx cy).2 = R2 at *
  have hn3 : L.length ≤ 4611686018427387904 := by omega
  have CS := Lib.hid cs
  have CI := Lib.hid ci
  clear cs ci
  have FV := Lib.hid (FixAt.below hf0.out HD)
  go_cut [6, 7] (fun s6 s7 wx => ∃ (a : Option Addr) (cp : Nat), s6 = .slice a L.length cp ∧ s7 = .int .i64 R2 ∧ wx.ownsRow V1.heap.size 57 5 (.slice a L.length cp) L.length (crFlat L) ∧ Below V1.heap.size V1 wx)
  case first =>
    go_region_held3 (fun wx => Below V1.heap.size V1 wx ∧ ∀ b o, b < V1.heap.size → wx.cell? ⟨b, o, none⟩ = V1.cell? ⟨b, o, none⟩)
      (first | with_reducible exact held_step (by assumption) hb | with_reducible exact held_start _ _ | with_reducible exact held_begin _)
      (first | (go_at_call 28; refine (toTrack_c a0 cap0 l _ hl1 (FixAt.below FV.out (And.left (by with_reducible assumption)))).mono ?_; rintro e w1 ⟨⟨g, rfl, hg, hlg⟩, hb⟩; have hz := held_size (by with_reducible assumption) hb; (try simp at hz); have hs := hb.size; (try simp at hs)) | (go_at_call 33; refine (toLine_c _ _ _ _ _).mono ?_; rintro e w1 ⟨rfl, hb⟩; have hz := held_size (by with_reducible assumption) hb; (try simp at hz); have hs := hb.size; (try simp at hs)) | (go_at_call 44; refine (CS.out _ _ (FixAt.below (FixBlk.at (by assumption)) (by repeat (first | with_reducible exact Below.refl _ _ | with_reducible assumption | with_reducible refine Below.drew ?_ | with_reducible refine Below.alloc ?_ (by first | exact Nat.le_refl _ | (simp; done) | (simp; omega) | omega) _ | with_reducible refine Below.setCell ?_ (by first | exact Nat.le_refl _ | (simp; done) | (simp; omega) | omega) _ | with_reducible refine Below.trans ?_ (Below.mono (by with_reducible assumption) (by first | exact Nat.le_refl _ | (simp; done) | (simp; omega) | omega)))))).mono ?_; rintro e w1 ⟨⟨a', cap', rfl, ho⟩, hb⟩; have hz := held_size (by with_reducible assumption) hb; (try simp at hz); have hs := hb.size; (try simp at hs)))
    all_goals go_wp2_with fail
    all_goals (go_meet; exact ⟨_, _, rfl, rfl, own_mono (by assumption) (by omega), And.left (by with_reducible assumption)⟩)
  case rest =>
    obtain ⟨a6, cap6, rfl, rfl, ho, hb⟩ := hcut
    obtain ⟨V2, rfl⟩ : ∃ x : World, x = wc := ⟨_, rfl⟩
    have own6 := Lib.hid ho
    clear ho
    have hDE6 := hb.size
    have U6 := Lib.hid (fun j (e : (Value.slice a6 L.length cap6).ownBlock = some j) => own6.out.lt j e)
    obtain ⟨D6, hD6⟩ : ∃ x, x = V1.heap.size := ⟨_, rfl⟩
    have d6L0 : B0 < D6 := by omega
    have d6L1 : B1 < D6 := by omega
    rw [← hD6] at own6 U6 hDE6
    replace HD := HD.trans (hb.mono HD.size)
    obtain ⟨hc, hf⟩ := bcell hb
    have hz := hb.size
    replace b00 := (hc _ 0 L0).trans b00
    replace b10 := (hc _ 0 L1).trans b10
    replace b11 := (hc _ 1 L1).trans b11
    replace b12 := (hc _ 2 L1).trans b12
    replace b13 := (hc _ 3 L1).trans b13
    replace FV := Lib.hid (FixAt.below FV.out hb)
    replace L0 := Nat.lt_of_lt_of_le L0 hz
    replace L1 := Nat.lt_of_lt_of_le L1 hz
    clear hc hf hz hb
    obtain ⟨E6, hE6⟩ : ∃ x, x = V2.heap.size := ⟨_, rfl⟩
    rw [← hE6] at U6 hDE6
    have hwD6 : w.heap.size ≤ D6 := by have := hB0.out; omega
    have hEE6 := Lib.hid hE6
    clear hE6
    have hDD6 := Lib.hid hD6
    clear hD6
    go_wp2_with fail
    refine (toTrack_c a0 cap0 l V2 hl1 FV.out).mono ?_
    rintro e V3 ⟨⟨g0, rfl, hg, hlg⟩, hb⟩
    have hG0 := Lib.hid hg
    have hg0 : E6 ≤ g0 ∧ w.heap.size ≤ g0 ∧ B0 < g0 ∧ B1 < g0 := ⟨by have := hEE6.out; omega, by have := HD.size; omega, by omega, by omega⟩
    have hg1 := FixBlk.lt hg
    clear hg hlg
    replace HD := HD.trans (hb.mono HD.size)
    obtain ⟨hc, hf⟩ := bcell hb
    have hz := hb.size
    replace b00 := (hc _ 0 L0).trans b00
    replace b10 := (hc _ 0 L1).trans b10
    replace b11 := (hc _ 1 L1).trans b11
    replace b12 := (hc _ 2 L1).trans b12
    replace b13 := (hc _ 3 L1).trans b13
    replace FV := Lib.hid (FixAt.below FV.out hb)
    replace own6 := Lib.hid (ownsRow_below own6.out hb)
    replace L0 := Nat.lt_of_lt_of_le L0 hz
    replace L1 := Nat.lt_of_lt_of_le L1 hz
    clear hc hf hz hb
    go_wp2_with fail
    obtain ⟨V4, hV4⟩ : ∃ x, x = V3.alloc (.cells #[.slice (some ⟨g0, 0, none⟩) l.length l.length] 26) := ⟨_, rfl⟩
    have hb : Below V3.heap.size V3 V4 := by subst hV4; exact (Below.refl _ _).alloc (Nat.le_refl _) _
    have k00 : V4.cell? ⟨V3.heap.size, 0, none⟩ = some (.slice (some ⟨g0, 0, none⟩) l.length l.length) := by subst hV4; simp [go_sem]
    have K0 : V3.heap.size < V4.heap.size := by subst hV4; simp
    have hS0 := Lib.hid (show V4.heap.size = V3.heap.size + 1 by subst hV4; simp)
    rw [← hV4]
    clear hV4
    replace HD := HD.trans (hb.mono HD.size)
    obtain ⟨hc, hf⟩ := bcell hb
    have hz := hb.size
    replace b00 := (hc _ 0 L0).trans b00
    replace b10 := (hc _ 0 L1).trans b10
    replace b11 := (hc _ 1 L1).trans b11
    replace b12 := (hc _ 2 L1).trans b12
    replace b13 := (hc _ 3 L1).trans b13
    replace FV := Lib.hid (FixAt.below FV.out hb)
    replace own6 := Lib.hid (ownsRow_below own6.out hb)
    replace hG0 := Lib.hid (FixBlk.below hG0.out hb)
    replace L0 := Nat.lt_of_lt_of_le L0 hz
    replace L1 := Nat.lt_of_lt_of_le L1 hz
    clear hc hf hz hb
    obtain ⟨C0, hC0⟩ : ∃ x, x = V3.heap.size := ⟨_, rfl⟩
    rw [← hC0] at k00 K0
    try rw [← hC0]
    replace hC0 := Lib.hid hC0
    have hg2 : g0 < C0 := by have := hC0.out; omega
    go_cut [9, 10] (fun s9 s10 wx => ∃ (a : Option Addr) (cp : Nat), s9 = .slice a L.length cp ∧ s10 = .int .i64 R2 ∧ wx.ownsRow V4.heap.size 57 5 (.slice a L.length cp) L.length (crFlat L) ∧ Below V4.heap.size V4 wx)
    case first =>
      go_region_held3 (fun wx => Below V4.heap.size V4 wx ∧ ∀ b o, b < V4.heap.size → wx.cell? ⟨b, o, none⟩ = V4.cell? ⟨b, o, none⟩)
        (first | with_reducible exact held_step (by assumption) hb | with_reducible exact held_start _ _ | with_reducible exact held_begin _)
        (first | (go_at_call 33; refine (toLine_c _ _ _ _ _).mono ?_; rintro e w1 ⟨rfl, hb⟩; have hz := held_size (by with_reducible assumption) hb; (try simp at hz); have hs := hb.size; (try simp at hs)) | (go_at_call 43; refine (CI.out _ _ (FixAt.below (FixBlk.at hG0.out) (And.left (by with_reducible assumption)))).mono ?_; rintro e w1 ⟨⟨a', cap', rfl, ho⟩, hb⟩; have hz := held_size (by with_reducible assumption) hb; (try simp at hz); have hs := hb.size; (try simp at hs)))
      all_goals go_wp2_with fail
      all_goals (go_meet; exact ⟨_, _, rfl, rfl, own_mono (by assumption) (by omega), And.left (by with_reducible assumption)⟩)
    case rest =>
      obtain ⟨a9, cap9, rfl, rfl, ho, hb⟩ := hcut
      obtain ⟨V5, rfl⟩ : ∃ x : World, x = wc := ⟨_, rfl⟩
      have own9 := Lib.hid ho
      clear ho
      have hDE9 := hb.size
      have U9 := Lib.hid (fun j (e : (Value.slice a9 L.length cap9).ownBlock = some j) => own9.out.lt j e)
      obtain ⟨D9, hD9⟩ : ∃ x, x = V4.heap.size := ⟨_, rfl⟩
      have d9L0 : B0 < D9 := by omega
      have d9L1 : B1 < D9 := by omega
      have d9K0 : C0 < D9 := by omega
      rw [← hD9] at own9 U9 hDE9
      replace HD := HD.trans (hb.mono HD.size)
      obtain ⟨hc, hf⟩ := bcell hb
      have hz := hb.size
      replace b00 := (hc _ 0 L0).trans b00
      replace b10 := (hc _ 0 L1).trans b10
      replace b11 := (hc _ 1 L1).trans b11
      replace b12 := (hc _ 2 L1).trans b12
      replace b13 := (hc _ 3 L1).trans b13
      replace k00 := (hc _ 0 K0).trans k00
      replace FV := Lib.hid (FixAt.below FV.out hb)
      replace own6 := Lib.hid (ownsRow_below own6.out hb)
      replace hG0 := Lib.hid (FixBlk.below hG0.out hb)
      replace L0 := Nat.lt_of_lt_of_le L0 hz
      replace L1 := Nat.lt_of_lt_of_le L1 hz
      replace K0 := Nat.lt_of_lt_of_le K0 hz
      clear hc hf hz hb
      obtain ⟨E9, hE9⟩ : ∃ x, x = V5.heap.size := ⟨_, rfl⟩
      rw [← hE9] at U9 hDE9
      have hwD9 : w.heap.size ≤ D9 := by have := hB0.out; omega
      have hEE9 := Lib.hid hE9
      clear hE9
      have hDD9 := Lib.hid hD9
      clear hD9
      go_wp2_with fail
      refine (eqCrossingS_c a9 a6 cap9 cap6 L V5 hn3 (row_own own9.out (crFlat_length L)) (row_own own6.out (crFlat_length L))).mono ?_
      rintro e V6 ⟨rfl, hb⟩
      replace HD := HD.trans (hb.mono HD.size)
      obtain ⟨hc, hf⟩ := bcell hb
      have hz := hb.size
      replace b00 := (hc _ 0 L0).trans b00
      replace b10 := (hc _ 0 L1).trans b10
      replace b11 := (hc _ 1 L1).trans b11
      replace b12 := (hc _ 2 L1).trans b12
      replace b13 := (hc _ 3 L1).trans b13
      replace k00 := (hc _ 0 K0).trans k00
      replace FV := Lib.hid (FixAt.below FV.out hb)
      replace own6 := Lib.hid (ownsRow_below own6.out hb)
      replace hG0 := Lib.hid (FixBlk.below hG0.out hb)
      replace own9 := Lib.hid (ownsRow_below own9.out hb)
      replace L0 := Nat.lt_of_lt_of_le L0 hz
      replace L1 := Nat.lt_of_lt_of_le L1 hz
      replace K0 := Nat.lt_of_lt_of_le K0 hz
      clear hc hf hz hb
      go_wp2_with fail
      go_cut [51] (fun s51 wx => s51 = .bool false ∧ Below V6.heap.size V6 wx)
      case first =>
        go_region_held3 (fun wx => Below V6.heap.size V6 wx ∧ ∀ b o, b < V6.heap.size → wx.cell? ⟨b, o, none⟩ = V6.cell? ⟨b, o, none⟩)
          (first | with_reducible exact held_step (by assumption) hb | with_reducible exact held_start _ _ | with_reducible exact held_begin _)
          (first | (go_at_call 28; refine (toTrack_c a0 cap0 l _ hl1 (FixAt.below FV.out (And.left (by with_reducible assumption)))).mono ?_; rintro e w1 ⟨⟨g, rfl, hg, hlg⟩, hb⟩; have hz := held_size (by with_reducible assumption) hb; (try simp at hz); have hs := hb.size; (try simp at hs)) | (go_at_call 31; refine (eqTrack_c _ _ _ _ l _ hl2 (FixAt.below (FixBlk.at hG0.out) (And.left (by with_reducible assumption))) (FixBlk.at (by assumption))).mono ?_; rintro e w1 ⟨rfl, hb⟩; have hz := held_size (by with_reducible assumption) hb; (try simp at hz); have hs := hb.size; (try simp at hs)))
        all_goals go_wp2_with fail
        all_goals (go_meet; exact ⟨rfl, And.left (by with_reducible assumption)⟩)
      case rest =>
        obtain ⟨rfl, hb⟩ := hcut
        obtain ⟨V7, rfl⟩ : ∃ x : World, x = wc := ⟨_, rfl⟩
        replace HD := HD.trans (hb.mono HD.size)
        obtain ⟨hc, hf⟩ := bcell hb
        have hz := hb.size
        replace b00 := (hc _ 0 L0).trans b00
        replace b10 := (hc _ 0 L1).trans b10
        replace b11 := (hc _ 1 L1).trans b11
        replace b12 := (hc _ 2 L1).trans b12
        replace b13 := (hc _ 3 L1).trans b13
        replace k00 := (hc _ 0 K0).trans k00
        replace FV := Lib.hid (FixAt.below FV.out hb)
        replace own6 := Lib.hid (ownsRow_below own6.out hb)
        replace hG0 := Lib.hid (FixBlk.below hG0.out hb)
        replace own9 := Lib.hid (ownsRow_below own9.out hb)
        replace L0 := Nat.lt_of_lt_of_le L0 hz
        replace L1 := Nat.lt_of_lt_of_le L1 hz
        replace K0 := Nat.lt_of_lt_of_le K0 hz
        clear hc hf hz hb
        go_wp2_with fail
        have cm := markTrack_c (some ⟨g0, 0, none⟩) l.length l.length 1 0 (flat l) V7 (by omega) (by omega) (by omega) (own_of_blk hG0.out (Nat.zero_le _) hl2)
        have hM : 0 ≤ 1 + ((l.length * 3 : Nat) : Int) := by omega
        obtain ⟨M, hM0⟩ : ∃ M, 1 + ((l.length * 3 : Nat) : Int) = M := ⟨_, rfl⟩
        rw [hM0] at cm hM
        have hMM := Lib.hid hM0
        clear hM0
        refine cm.mono ?_
        rintro e V8 ⟨rfl, hmk, hg⟩
        have hU : ∀ k, (Value.slice (some ⟨g0, 0, none⟩) l.length l.length).ownBlock = some k → k = g0 := by intro k e; simp [Value.ownBlock] at e; exact e.symm
        clear cm
        replace HD := HD.trans (grown_below hg HD.size (fun k e => by have := hU k e; have := HD.size; omega))
        replace b00 := hg.cell b00 (fun e => by have h1 := hU B0 e.symm; omega)
        replace b10 := hg.cell b10 (fun e => by have h1 := hU B1 e.symm; omega)
        replace b11 := hg.cell b11 (fun e => by have h1 := hU B1 e.symm; omega)
        replace b12 := hg.cell b12 (fun e => by have h1 := hU B1 e.symm; omega)
        replace b13 := hg.cell b13 (fun e => by have h1 := hU B1 e.symm; omega)
        replace k00 := hg.cell k00 (fun e => by have h1 := hU C0 e.symm; omega)
        replace FV := Lib.hid (FixAt.below hf0.out HD)
        replace own6 := Lib.hid (own_kept own6.out hg (fun k e e2 => by have := U6.out k e; have := hU k e2; omega))
        replace own9 := Lib.hid (own_kept own9.out hg (fun k e e2 => by have := U9.out k e; have := hU k e2; omega))
        replace L0 := Nat.lt_of_lt_of_le L0 hg.size
        replace L1 := Nat.lt_of_lt_of_le L1 hg.size
        replace K0 := Nat.lt_of_lt_of_le K0 hg.size
        clear hg
        clear hU hmk hG0
        go_wp2_with fail
        refine (eqCrossingS_c a9 a6 cap9 cap6 L V8 hn3 (row_own own9.out (crFlat_length L)) (row_own own6.out (crFlat_length L))).mono ?_
        rintro e V9 ⟨rfl, hb⟩
        replace HD := HD.trans (hb.mono HD.size)
        obtain ⟨hc, hf⟩ := bcell hb
        have hz := hb.size
        replace b00 := (hc _ 0 L0).trans b00
        replace b10 := (hc _ 0 L1).trans b10
        replace b11 := (hc _ 1 L1).trans b11
        replace b12 := (hc _ 2 L1).trans b12
        replace b13 := (hc _ 3 L1).trans b13
        replace k00 := (hc _ 0 K0).trans k00
        replace FV := Lib.hid (FixAt.below FV.out hb)
        replace own6 := Lib.hid (ownsRow_below own6.out hb)
        replace own9 := Lib.hid (ownsRow_below own9.out hb)
        replace L0 := Nat.lt_of_lt_of_le L0 hz
        replace L1 := Nat.lt_of_lt_of_le L1 hz
        replace K0 := Nat.lt_of_lt_of_le K0 hz
        clear hc hf hz hb
        go_wp2_with fail
        have cm := markCrossingS_c a9 L.length cap9 1 D9 (crFlat L) V9 (by omega) (by omega) (by omega) own9.out
        have hN : 0 ≤ 1 + ((L.length * 5 : Nat) : Int) := by omega
        obtain ⟨N, hN0⟩ : ∃ N, 1 + ((L.length * 5 : Nat) : Int) = N := ⟨_, rfl⟩
        rw [hN0] at cm hN
        have hNN := Lib.hid hN0
        clear hN0
        refine cm.mono ?_
        rintro e V10 ⟨rfl, hmk, hg⟩
        have hU := U9.out
        clear cm
        replace HD := HD.trans (grown_below hg HD.size (fun k e => by have := hU k e; have := HD.size; omega))
        replace b00 := hg.cell b00 (fun e => by have h1 := hU B0 e.symm; omega)
        replace b10 := hg.cell b10 (fun e => by have h1 := hU B1 e.symm; omega)
        replace b11 := hg.cell b11 (fun e => by have h1 := hU B1 e.symm; omega)
        replace b12 := hg.cell b12 (fun e => by have h1 := hU B1 e.symm; omega)
        replace b13 := hg.cell b13 (fun e => by have h1 := hU B1 e.symm; omega)
        replace k00 := hg.cell k00 (fun e => by have h1 := hU C0 e.symm; omega)
        replace FV := Lib.hid (FixAt.below hf0.out HD)
        replace own6 := Lib.hid (own_kept own6.out hg (fun k e e2 => by have := U6.out k e; have := hU k e2; omega))
        replace L0 := Nat.lt_of_lt_of_le L0 hg.size
        replace L1 := Nat.lt_of_lt_of_le L1 hg.size
        replace K0 := Nat.lt_of_lt_of_le K0 hg.size
        clear hg
        replace own9 := Lib.hid hmk
        clear hU hmk
        go_wp2_with fail
        have ch := heldCrossingS_c a9 L.length cap9 1 D9 V10 (by omega) (by omega) (by omega) own9.out
        rw [hNN.out] at ch
        refine (ch).mono ?_
        rintro e V11 ⟨rfl, hb⟩
        clear ch
        replace HD := HD.trans (hb.mono HD.size)
        obtain ⟨hc, hf⟩ := bcell hb
        have hz := hb.size
        replace b00 := (hc _ 0 L0).trans b00
        replace b10 := (hc _ 0 L1).trans b10
        replace b11 := (hc _ 1 L1).trans b11
        replace b12 := (hc _ 2 L1).trans b12
        replace b13 := (hc _ 3 L1).trans b13
        replace k00 := (hc _ 0 K0).trans k00
        replace FV := Lib.hid (FixAt.below FV.out hb)
        replace own6 := Lib.hid (ownsRow_below own6.out hb)
        replace own9 := Lib.hid (ownsRow_below own9.out hb)
        replace L0 := Nat.lt_of_lt_of_le L0 hz
        replace L1 := Nat.lt_of_lt_of_le L1 hz
        replace K0 := Nat.lt_of_lt_of_le K0 hz
        clear hc hf hz hb
        go_wp2_with fail
        go_cut [14, 15] (fun s14 s15 wx => ∃ (a : Option Addr) (cp : Nat), s14 = .slice a L.length cp ∧ s15 = .int .i64 R2 ∧ wx.ownsRow V11.heap.size 57 5 (.slice a L.length cp) L.length (crFlat L) ∧ Below V11.heap.size V11 wx)
        case first =>
          go_region_held3 (fun wx => Below V11.heap.size V11 wx ∧ ∀ b o, b < V11.heap.size → wx.cell? ⟨b, o, none⟩ = V11.cell? ⟨b, o, none⟩)
            (first | with_reducible exact held_step (by assumption) hb | with_reducible exact held_start _ _ | with_reducible exact held_begin _)
            (first | (go_at_call 28; refine (toTrack_c a0 cap0 l _ hl1 (FixAt.below FV.out (And.left (by with_reducible assumption)))).mono ?_; rintro e w1 ⟨⟨g, rfl, hg, hlg⟩, hb⟩; have hz := held_size (by with_reducible assumption) hb; (try simp at hz); have hs := hb.size; (try simp at hs)) | (go_at_call 33; refine (toLine_c _ _ _ _ _).mono ?_; rintro e w1 ⟨rfl, hb⟩; have hz := held_size (by with_reducible assumption) hb; (try simp at hz); have hs := hb.size; (try simp at hs)) | (go_at_call 43; refine (CI.out _ _ (FixAt.below (FixBlk.at (by assumption)) (by repeat (first | with_reducible exact Below.refl _ _ | with_reducible assumption | with_reducible refine Below.drew ?_ | with_reducible refine Below.alloc ?_ (by first | exact Nat.le_refl _ | (simp; done) | (simp; omega) | omega) _ | with_reducible refine Below.setCell ?_ (by first | exact Nat.le_refl _ | (simp; done) | (simp; omega) | omega) _ | with_reducible refine Below.trans ?_ (Below.mono (by with_reducible assumption) (by first | exact Nat.le_refl _ | (simp; done) | (simp; omega) | omega)))))).mono ?_; rintro e w1 ⟨⟨a', cap', rfl, ho⟩, hb⟩; have hz := held_size (by with_reducible assumption) hb; (try simp at hz); have hs := hb.size; (try simp at hs)))
          all_goals go_wp2_with fail
          all_goals (go_meet; exact ⟨_, _, rfl, rfl, own_mono (by assumption) (by omega), And.left (by with_reducible assumption)⟩)
        case rest =>
          obtain ⟨a14, cap14, rfl, rfl, ho, hb⟩ := hcut
          obtain ⟨V12, rfl⟩ : ∃ x : World, x = wc := ⟨_, rfl⟩
          have own14 := Lib.hid ho
          clear ho
          have hDE14 := hb.size
          have U14 := Lib.hid (fun j (e : (Value.slice a14 L.length cap14).ownBlock = some j) => own14.out.lt j e)
          obtain ⟨D14, hD14⟩ : ∃ x, x = V11.heap.size := ⟨_, rfl⟩
          have d14L0 : B0 < D14 := by omega
          have d14L1 : B1 < D14 := by omega
          have d14K0 : C0 < D14 := by omega
          rw [← hD14] at own14 U14 hDE14
          replace HD := HD.trans (hb.mono HD.size)
          obtain ⟨hc, hf⟩ := bcell hb
          have hz := hb.size
          replace b00 := (hc _ 0 L0).trans b00
          replace b10 := (hc _ 0 L1).trans b10
          replace b11 := (hc _ 1 L1).trans b11
          replace b12 := (hc _ 2 L1).trans b12
          replace b13 := (hc _ 3 L1).trans b13
          replace k00 := (hc _ 0 K0).trans k00
          replace FV := Lib.hid (FixAt.below FV.out hb)
          replace own6 := Lib.hid (ownsRow_below own6.out hb)
          replace own9 := Lib.hid (ownsRow_below own9.out hb)
          replace L0 := Nat.lt_of_lt_of_le L0 hz
          replace L1 := Nat.lt_of_lt_of_le L1 hz
          replace K0 := Nat.lt_of_lt_of_le K0 hz
          clear hc hf hz hb
          obtain ⟨E14, hE14⟩ : ∃ x, x = V12.heap.size := ⟨_, rfl⟩
          rw [← hE14] at U14 hDE14
          have hwD14 : w.heap.size ≤ D14 := by have := hB0.out; omega
          have hEE14 := Lib.hid hE14
          clear hE14
          have hDD14 := Lib.hid hD14
          clear hD14
          go_wp2_with fail
          refine (eqCrossingS_c a14 a6 cap14 cap6 L V12 hn3 (row_own own14.out (crFlat_length L)) (row_own own6.out (crFlat_length L))).mono ?_
          rintro e V13 ⟨rfl, hb⟩
          replace HD := HD.trans (hb.mono HD.size)
          obtain ⟨hc, hf⟩ := bcell hb
          have hz := hb.size
          replace b00 := (hc _ 0 L0).trans b00
          replace b10 := (hc _ 0 L1).trans b10
          replace b11 := (hc _ 1 L1).trans b11
          replace b12 := (hc _ 2 L1).trans b12
          replace b13 := (hc _ 3 L1).trans b13
          replace k00 := (hc _ 0 K0).trans k00
          replace FV := Lib.hid (FixAt.below FV.out hb)
          replace own6 := Lib.hid (ownsRow_below own6.out hb)
          replace own9 := Lib.hid (ownsRow_below own9.out hb)
          replace own14 := Lib.hid (ownsRow_below own14.out hb)
          replace L0 := Nat.lt_of_lt_of_le L0 hz
          replace L1 := Nat.lt_of_lt_of_le L1 hz
          replace K0 := Nat.lt_of_lt_of_le K0 hz
          clear hc hf hz hb
          go_wp2_with fail
          have ch := heldCrossingS_c a9 L.length cap9 1 D9 V13 (by omega) (by omega) (by omega) own9.out
          rw [hNN.out] at ch
          refine (ch).mono ?_
          rintro e V14 ⟨rfl, hb⟩
          clear ch
          replace HD := HD.trans (hb.mono HD.size)
          obtain ⟨hc, hf⟩ := bcell hb
          have hz := hb.size
          replace b00 := (hc _ 0 L0).trans b00
          replace b10 := (hc _ 0 L1).trans b10
          replace b11 := (hc _ 1 L1).trans b11
          replace b12 := (hc _ 2 L1).trans b12
          replace b13 := (hc _ 3 L1).trans b13
          replace k00 := (hc _ 0 K0).trans k00
          replace FV := Lib.hid (FixAt.below FV.out hb)
          replace own6 := Lib.hid (ownsRow_below own6.out hb)
          replace own9 := Lib.hid (ownsRow_below own9.out hb)
          replace own14 := Lib.hid (ownsRow_below own14.out hb)
          replace L0 := Nat.lt_of_lt_of_le L0 hz
          replace L1 := Nat.lt_of_lt_of_le L1 hz
          replace K0 := Nat.lt_of_lt_of_le K0 hz
          clear hc hf hz hb
          go_wp2_with fail
          go_ret
          exact ⟨rfl, HD⟩

theorem own : ownKnob Try.prog.godebug = none := by kernel_rfl
theorem laidOut : laidOutB Try.prog = true := by kernel_rfl
set_option maxRecDepth 100000 in
theorem lifted (os : Os) (started : os.Started) (H : Type) (enc : TypeId × Value → H) :
    ReturnsInHanded {} Try.checked os 11 .any (Rows.fnExactCrossingsOfSpec.pre6 enc Try.prog Try.f11 Rows.fnExactCrossingsOfRow.domain false) (Rows.fnExactCrossingsOfSpec.post enc Try.prog Try.f11 false true false false) := by
  refine returnsInHanded_of_change (C := Try.checked) own started (by kernel_rfl) Try.func11
    (ChangeSpec.witness6 (enc := enc) (C := Try.checked) false ⟨#[], #[.agg #[.slice none 0 0], .agg #[.int .i64 0, .int .i64 0, .int .i64 0, .int .i64 0]], []⟩ 8 (by kernel_rfl) (by kernel_rfl) (by kernel_rfl) (by kernel_rfl)) ?_
  intro W base args ds gs before hval0 hW hcnd _
  have hval : ∀ (j : Nat) t v, Try.f11.params[j]? = some t → args[j]? = some v → Value.okWide Try.prog W .any base t v := hval0
  have hW' := hW
  obtain ⟨p, q, hA0, hV, rfl, hfz, hnd⟩ := hW
  have hA : DataW.TrodAll enc Try.prog W 0 (fun _ => true) true Try.f11.params.toList args.toList ds p := hA0
  rw [Try.params11] at hA hval
  obtain ⟨v0, vs0, d0, ds0, p0, q0, hargs, rfl, rfl, h0, r0⟩ := trodAll_cons hA
  obtain ⟨v1, vs1, d1, ds1, p1, q1, rfl, rfl, rfl, h1, r1⟩ := trodAll_cons r0
  obtain ⟨rfl, rfl, rfl⟩ := trodAll_nil r1
  obtain rfl : args = #[v0, v1] := by cases args; simp_all
  obtain ⟨rfl, rfl⟩ := trodVars_none hV
  have k0 := h0
  have lt0 : ∀ x ∈ p0, x.block < W.heap.size := by obtain ⟨m, hm⟩ := k0; exact DataW.trod_lt m _ _ _ hm
  obtain ⟨⟨a0, cap0⟩, l0, rfl, w0⟩ := open_track (n := 0) Try.underlying47 Try.underlying45 Try.underlying141 (by kernel_rfl) (by kernel_rfl) (by kernel_rfl) ⟨by kernel_rfl, by kernel_rfl⟩ (hval 0 47 v0 rfl rfl) h0
  have k1 := h1
  have lt1 : ∀ x ∈ p1, x.block < W.heap.size := by obtain ⟨m, hm⟩ := k1; exact DataW.trod_lt m _ _ _ hm
  obtain ⟨a1, b1, c1, e1, rfl, w1a, w1b, w1c, w1e⟩ := open_four (n := 4) Try.underlying62 (by kernel_rfl) (by kernel_rfl) (hval 1 62 v1 rfl rfl) h1
  clear hA0 hval0
  refine (walk a0 cap0 l0 a1 b1 c1 e1 W w0 w1a w1b w1c w1e).mono fun e W' ⟨he, bel⟩ => ?_
  subst he
  exact ⟨_, rfl, _, _, _, [], _, [], hW', trodAll_mk1 (shut_bool Try.underlying4 _), (trodAll_cons_mk (Below.trod laidOut (by kernel_rfl) (of_decide_eq_true (by kernel_rfl)) k0 bel lt0) (trodAll_cons_mk (Below.trod laidOut (by kernel_rfl) (of_decide_eq_true (by kernel_rfl)) k1 bel lt1) trodAll_mk0)), rfl, bel.frame _, fun h => by cases h⟩

theorem over : Rows.fnExactCrossingsOfRow.holds Try.pinned (OpenSpec.ofChange Rows.fnExactCrossingsOfSpec) :=
  OpenClaim.holds_of_wide 11 Try.f11 rfl rfl rfl rfl rfl rfl rfl ⟨rfl, rfl, rfl, rfl, rfl⟩ rfl rfl rfl rfl rfl (by kernel_rfl) Try.func11 (by kernel_rfl)
    (of_decide_eq_true (by kernel_rfl)) (by unfold Func.isWrapper; first | (rw [if_pos (by decide +kernel)]; kernel_rfl) | (rw [if_neg (by decide +kernel)]; exact ⟨rfl, rfl⟩))
    (fun os started H enc _ => lifted os started H enc)

/-- The statement. -/
theorem proved : Rows.FnExactCrossingsOfSaid := over
end Go.Proofs.Ytdepdkpehbkcjaa.crossingsOf
