/-
  FnExactJoinTracks: for all arguments the program's function answers as the reference's, leaves its arguments as they were, and its result is its own. No condition.
-/
import Derived.Test.YtdgmadpkhdfapaaRows
import Derived.Test.YtdgmadpkhdfapaaJoin
namespace Go.Proofs.Ytdgmadpkhdfapaa.joinTracks
open Go.ChangeShapes Go.WideShapes Go.ChangeAt Go.RowKit Go.Deep
open Go.ChangeMaps (open_string shut_string)
set_option linter.unusedVariables false

theorem blk_kept {w w' : World} {g : Nat} {T : TypeId} {l : List Fx} {row : Option Nat} (h : FixBlk w g T l) (hg : w.grownBy w' row) (hne : row ≠ some g) : FixBlk w' g T l := (hg.block g h.lt (fun e => hne e.symm)).trans h
theorem join_len {l m : List Fx} : (joinR l m).1.length ≤ 80 := by
  unfold joinR
  split
  · rename_i h
    have h1 := (isTrk_true h.1).2.1
    have h2 := (isTrk_true h.2).2.1
    split
    · split
      · simp
      · simp; omega
    · split
      · simp
      · split
        · simp
        · simp; omega
  · simp
set_option maxRecDepth 100000 in
set_option maxHeartbeats 2000000 in
theorem walk (a0 : Option Addr) (cap0 : Nat) (l : List Fx) (a1 : Option Addr) (cap1 : Nat) (m : List Fx) (w : World) (w0 : l.length ≤ 9223372036854775807 ∧ FixAt w a0 l) (w1 : m.length ≤ 9223372036854775807 ∧ FixAt w a1 m) :
    Calls Try.prog 9 #[.agg #[.slice a0 l.length cap0], .agg #[.slice a1 m.length cap1]] w fun e w' => e = .returned (.bool true) ∧ Below w.heap.size w w' := by
  obtain ⟨hl0, hf0⟩ := w0
  obtain ⟨hm0, hf1⟩ := w1
  replace hf0 := Lib.hid hf0
  replace hf1 := Lib.hid hf1
  go_enter Try.func9, Try.ntmps9
  go_wp2_with fail
  obtain ⟨W, hW⟩ : ∃ W, W = ((w.alloc (.cells #[.slice a0 l.length cap0] 24)).alloc (.cells #[.slice a1 m.length cap1] 24)) := ⟨_, rfl⟩
  have HD : Below w.heap.size w W := by subst hW; exact (by repeat (first | with_reducible exact Below.refl _ _ | with_reducible assumption | with_reducible refine Below.drew ?_ | with_reducible refine Below.alloc ?_ (by first | exact Nat.le_refl _ | (simp; done) | (simp; omega) | omega) _ | with_reducible refine Below.setCell ?_ (by first | exact Nat.le_refl _ | (simp; done) | (simp; omega) | omega) _ | with_reducible refine Below.trans ?_ (Below.mono (by with_reducible assumption) (by first | exact Nat.le_refl _ | (simp; done) | (simp; omega) | omega))))
  have b00 : W.cell? ⟨w.heap.size, 0, none⟩ = some (.slice a0 l.length cap0) := by subst hW; simp [go_sem]
  have L0 : w.heap.size < W.heap.size := by subst hW; first | (simp; done) | (simp; omega)
  have b10 : W.cell? ⟨w.heap.size + 1, 0, none⟩ = some (.slice a1 m.length cap1) := by subst hW; simp [go_sem]
  have L1 : w.heap.size + 1 < W.heap.size := by subst hW; first | (simp; done) | (simp; omega)
  rw [← hW]
  clear hW
  generalize w.heap.size + 1 = B1 at *
  obtain ⟨B0, hB0⟩ : ∃ B, B = w.heap.size := ⟨_, rfl⟩
  rw [← hB0] at b00 L0
  try rw [← hB0]
  replace hB0 := Lib.hid hB0
  have cz := szTrack_c a0 l.length cap0 1048576 W hl0 (by omega) (by omega)
  by_cases hn : (l.length : Int) ≤ 1048576
  case neg =>
    rw [if_neg hn] at cz
    refine cz.mono ?_
    rintro e V1 ⟨rfl, hb⟩
    go_wp2_with fail
    go_ret
    exact ⟨rfl, HD.trans (hb.mono HD.size)⟩
  rw [if_pos hn] at cz
  refine (cz).mono ?_
  rintro e V1 ⟨rfl, hb⟩
  replace HD := HD.trans (hb.mono HD.size)
  obtain ⟨hc, hf⟩ := bcell hb
  have hz := hb.size
  replace b00 := (hc _ 0 L0).trans b00
  replace b10 := (hc _ 0 L1).trans b10
  replace L0 := Nat.lt_of_lt_of_le L0 hz
  replace L1 := Nat.lt_of_lt_of_le L1 hz
  clear hc hf hz hb
  go_wp2_with fail
  clear cz
  have cz := szTrack_c a1 m.length cap1 (1048576 - (l.length : Int)) V1 hm0 (by omega) (by omega)
  by_cases hn2 : (m.length : Int) ≤ 1048576 - (l.length : Int)
  case neg =>
    rw [if_neg hn2] at cz
    refine cz.mono ?_
    rintro e V2 ⟨rfl, hb⟩
    go_wp2_with fail
    go_ret
    exact ⟨rfl, HD.trans (hb.mono HD.size)⟩
  rw [if_pos hn2] at cz
  refine (cz).mono ?_
  rintro e V2 ⟨rfl, hb⟩
  replace HD := HD.trans (hb.mono HD.size)
  obtain ⟨hc, hf⟩ := bcell hb
  have hz := hb.size
  replace b00 := (hc _ 0 L0).trans b00
  replace b10 := (hc _ 0 L1).trans b10
  replace L0 := Nat.lt_of_lt_of_le L0 hz
  replace L1 := Nat.lt_of_lt_of_le L1 hz
  clear hc hf hz hb
  go_wp2_with fail
  clear cz
  have hl1 : l.length ≤ 1048576 := by omega
  have hm1 : m.length ≤ 1048576 := by omega
  have hl2 : l.length ≤ 4611686018427387904 := by omega
  have hm2 : m.length ≤ 4611686018427387904 := by omega
  have CS := Lib.hid (fun g g' w h h' => JoinTracksS_c (some ⟨g, 0, none⟩) (some ⟨g', 0, none⟩) l.length m.length l m w hl2 hm2 (Nat.le_refl _) h h')
  have CI := Lib.hid (fun g g' w h h' => JoinTracks_c (some ⟨g, 0, none⟩) (some ⟨g', 0, none⟩) l.length m.length l m w hl2 hm2 (Nat.le_refl _) h h')
  have hn5 := @join_len l m
  generalize (joinR l m).1 = L at *
  generalize (joinR l m).2 = R2 at *
  have hn3 : L.length ≤ 4611686018427387904 := by omega
  have FV := Lib.hid (FixAt.below hf0.out HD)
  have GV := Lib.hid (FixAt.below hf1.out HD)
  go_cut [6, 7] (fun s6 s7 wx => ∃ (C : Nat) (a : Option Addr) (cp : Nat), s6 = .pointer (some ⟨C, 0, none⟩) ∧ s7 = .int .i64 R2 ∧ wx.cell? ⟨C, 0, none⟩ = some (.slice a L.length cp) ∧ wx.ownsRow V2.heap.size 73 3 (.slice a L.length cp) L.length (flat L) ∧ V2.heap.size ≤ C ∧ C < wx.heap.size ∧ Below V2.heap.size V2 wx)
  case first =>
    go_region_held3 (fun wx => Below V2.heap.size V2 wx ∧ ∀ b o, b < V2.heap.size → wx.cell? ⟨b, o, none⟩ = V2.cell? ⟨b, o, none⟩)
      (first | with_reducible exact held_step (by assumption) hb | with_reducible exact held_alloc (by assumption) _ | with_reducible exact (held_set (by with_reducible assumption) (by first | exact Nat.le_refl _ | (simp; done) | (simp; omega) | omega) _) | with_reducible exact (held_set (held_set (by with_reducible assumption) (by first | exact Nat.le_refl _ | (simp; done) | (simp; omega) | omega) _) (by first | exact Nat.le_refl _ | (simp; done) | (simp; omega) | omega) _) | with_reducible exact held_realloc (by assumption) (by first | exact Nat.le_refl _ | (simp; done) | (simp; omega) | omega) _ | with_reducible exact held_start _ _ | with_reducible exact held_begin _ | exact held_of (by repeat (first | with_reducible exact Below.refl _ _ | with_reducible assumption | with_reducible refine Below.drew ?_ | with_reducible refine Below.alloc ?_ (by first | exact Nat.le_refl _ | (simp; done) | (simp; omega) | omega) _ | with_reducible refine Below.setCell ?_ (by first | exact Nat.le_refl _ | (simp; done) | (simp; omega) | omega) _ | with_reducible refine Below.trans ?_ (Below.mono (by with_reducible assumption) (by first | exact Nat.le_refl _ | (simp; done) | (simp; omega) | omega)))))
      (first | (go_at_call_of 17 (a0); refine (toTrack_c a0 cap0 l _ hl1 (FixAt.below FV.out (And.left (by with_reducible assumption)))).mono ?_; rintro e w1 ⟨⟨g, rfl, hg, hlg⟩, hb⟩; have hz := held_size (by with_reducible assumption) hb; (try simp at hz); have hs := hb.size; (try simp at hs); obtain ⟨hc, hf⟩ := bcell hb; (try have hl := below_lt hb); (try simp at hl); (try have hlW : V2.heap.size < w1.heap.size := by first | omega | (simp; omega))) | (go_at_call 17; refine (toTrack_c a1 cap1 m _ hm1 (FixAt.below GV.out (And.left (by with_reducible assumption)))).mono ?_; rintro e w1 ⟨⟨g, rfl, hg, hlg⟩, hb⟩; have hz := held_size (by with_reducible assumption) hb; (try simp at hz); have hs := hb.size; (try simp at hs); obtain ⟨hc, hf⟩ := bcell hb; (try have hl := below_lt hb); (try simp at hl); (try have hlW : V2.heap.size < w1.heap.size := by first | omega | (simp; omega))) | (go_at_call 34; refine (CS.out _ _ _ (FixAt.below (FixBlk.at (by assumption)) (by repeat (first | with_reducible exact Below.refl _ _ | with_reducible assumption | with_reducible refine Below.drew ?_ | with_reducible refine Below.alloc ?_ (by first | exact Nat.le_refl _ | (simp; done) | (simp; omega) | omega) _ | with_reducible refine Below.setCell ?_ (by first | exact Nat.le_refl _ | (simp; done) | (simp; omega) | omega) _ | with_reducible refine Below.trans ?_ (Below.mono (by with_reducible assumption) (by first | exact Nat.le_refl _ | (simp; done) | (simp; omega) | omega))))) (FixAt.below (FixBlk.at (by assumption)) (by repeat (first | with_reducible exact Below.refl _ _ | with_reducible assumption | with_reducible refine Below.drew ?_ | with_reducible refine Below.alloc ?_ (by first | exact Nat.le_refl _ | (simp; done) | (simp; omega) | omega) _ | with_reducible refine Below.setCell ?_ (by first | exact Nat.le_refl _ | (simp; done) | (simp; omega) | omega) _ | with_reducible refine Below.trans ?_ (Below.mono (by with_reducible assumption) (by first | exact Nat.le_refl _ | (simp; done) | (simp; omega) | omega)))))).mono ?_; rintro e w1 ⟨⟨a', cap', rfl, ho⟩, hb⟩; have hz := held_size (by with_reducible assumption) hb; (try simp at hz); have hs := hb.size; (try simp at hs); obtain ⟨hc, hf⟩ := bcell hb; (try have hl := below_lt hb); (try simp at hl); (try have hlW : V2.heap.size < w1.heap.size := by first | omega | (simp; omega))))
    all_goals go_wp2_with fail
    all_goals (have hlt9 := ho.lt; go_meet; exact ⟨_, a', cap', rfl, rfl, (by first | (go_light; go_simp; done) | (simp [go_sem, *]; done)), (by first | exact own_mono (World.ownsRow.alloc (by assumption) _) (by first | omega | (simp; omega)) | exact own_mono (ownsRow_setCell_other ho (fun e => by have h9 := (hlt9 _ e).1; simp at h9; omega) _) (by first | omega | (simp; omega))), (by first | exact Nat.le_refl _ | (simp; done) | (simp; omega) | omega), (by first | (simp; done) | (simp; omega) | omega), And.left (by with_reducible assumption)⟩)
  case rest =>
    obtain ⟨C6, a6, cap6, rfl, rfl, k60, ho, hvC, K6, hb⟩ := hcut
    obtain ⟨V3, rfl⟩ : ∃ x : World, x = wc := ⟨_, rfl⟩
    have own6 := Lib.hid ho
    have U6 := Lib.hid (fun j (e : (Value.slice a6 L.length cap6).ownBlock = some j) => own6.out.lt j e)
    clear ho
    obtain ⟨E6, hE6⟩ : ∃ x, x = V3.heap.size := ⟨_, rfl⟩
    rw [← hE6] at U6
    have hEE6 := Lib.hid hE6
    clear hE6
    obtain ⟨D6, hD6⟩ : ∃ x, x = V2.heap.size := ⟨_, rfl⟩
    have d6L0 : B0 < D6 := by omega
    have d6L1 : B1 < D6 := by omega
    rw [← hD6] at own6 U6 hvC
    replace HD := HD.trans (hb.mono HD.size)
    obtain ⟨hc, hf⟩ := bcell hb
    have hz := hb.size
    replace b00 := (hc _ 0 L0).trans b00
    replace b10 := (hc _ 0 L1).trans b10
    replace FV := Lib.hid (FixAt.below FV.out hb)
    replace GV := Lib.hid (FixAt.below GV.out hb)
    replace L0 := Nat.lt_of_lt_of_le L0 hz
    replace L1 := Nat.lt_of_lt_of_le L1 hz
    clear hc hf hz hb
    have hvC6 := hvC
    have hwD6 : w.heap.size ≤ D6 := by have := hB0.out; omega
    clear hvC
    have hDD6 := Lib.hid hD6
    clear hD6
    go_wp2_with fail
    refine (toTrack_c a0 cap0 l V3 hl1 FV.out).mono ?_
    rintro e V4 ⟨⟨g0, rfl, hg, hlg⟩, hb⟩
    have hG0 := Lib.hid hg
    have hg0 : C6 < g0 ∧ B0 < g0 ∧ B1 < g0 ∧ w.heap.size ≤ g0 ∧ E6 ≤ g0 := ⟨by omega, by omega, by omega, by have := HD.size; omega, by have := hEE6.out; omega⟩
    have hg0l := FixBlk.lt hg
    clear hg hlg
    replace HD := HD.trans (hb.mono HD.size)
    obtain ⟨hc, hf⟩ := bcell hb
    have hz := hb.size
    replace b00 := (hc _ 0 L0).trans b00
    replace b10 := (hc _ 0 L1).trans b10
    replace k60 := (hc _ 0 K6).trans k60
    replace FV := Lib.hid (FixAt.below FV.out hb)
    replace GV := Lib.hid (FixAt.below GV.out hb)
    replace own6 := Lib.hid (ownsRow_below own6.out hb)
    replace L0 := Nat.lt_of_lt_of_le L0 hz
    replace L1 := Nat.lt_of_lt_of_le L1 hz
    replace K6 := Nat.lt_of_lt_of_le K6 hz
    clear hc hf hz hb
    go_wp2_with fail
    obtain ⟨V5, hV5⟩ : ∃ x, x = V4.alloc (.cells #[.slice (some ⟨g0, 0, none⟩) l.length l.length] 29) := ⟨_, rfl⟩
    have hb : Below V4.heap.size V4 V5 := by subst hV5; exact (Below.refl _ _).alloc (Nat.le_refl _) _
    have k80 : V5.cell? ⟨V4.heap.size, 0, none⟩ = some (.slice (some ⟨g0, 0, none⟩) l.length l.length) := by subst hV5; simp [go_sem]
    have K8 : V4.heap.size < V5.heap.size := by subst hV5; simp
    have hS8 := Lib.hid (show V5.heap.size = V4.heap.size + 1 by subst hV5; simp)
    rw [← hV5]
    clear hV5
    replace HD := HD.trans (hb.mono HD.size)
    obtain ⟨hc, hf⟩ := bcell hb
    have hz := hb.size
    replace b00 := (hc _ 0 L0).trans b00
    replace b10 := (hc _ 0 L1).trans b10
    replace k60 := (hc _ 0 K6).trans k60
    replace FV := Lib.hid (FixAt.below FV.out hb)
    replace GV := Lib.hid (FixAt.below GV.out hb)
    replace own6 := Lib.hid (ownsRow_below own6.out hb)
    replace hG0 := Lib.hid (FixBlk.below hG0.out hb)
    replace L0 := Nat.lt_of_lt_of_le L0 hz
    replace L1 := Nat.lt_of_lt_of_le L1 hz
    replace K6 := Nat.lt_of_lt_of_le K6 hz
    clear hc hf hz hb
    obtain ⟨C8, hC8⟩ : ∃ x, x = V4.heap.size := ⟨_, rfl⟩
    rw [← hC8] at k80 K8
    try rw [← hC8]
    replace hC8 := Lib.hid hC8
    have hc8 : g0 < C8 := by have := hC8.out; omega
    refine (toTrack_c a1 cap1 m V5 hm1 GV.out).mono ?_
    rintro e V6 ⟨⟨g1, rfl, hg, hlg⟩, hb⟩
    have hG1 := Lib.hid hg
    have hg1 : C8 < g1 ∧ g0 < g1 := ⟨by omega, by omega⟩
    have hg1l := FixBlk.lt hg
    clear hg hlg
    replace HD := HD.trans (hb.mono HD.size)
    obtain ⟨hc, hf⟩ := bcell hb
    have hz := hb.size
    replace b00 := (hc _ 0 L0).trans b00
    replace b10 := (hc _ 0 L1).trans b10
    replace k60 := (hc _ 0 K6).trans k60
    replace k80 := (hc _ 0 K8).trans k80
    replace FV := Lib.hid (FixAt.below FV.out hb)
    replace GV := Lib.hid (FixAt.below GV.out hb)
    replace own6 := Lib.hid (ownsRow_below own6.out hb)
    replace hG0 := Lib.hid (FixBlk.below hG0.out hb)
    replace L0 := Nat.lt_of_lt_of_le L0 hz
    replace L1 := Nat.lt_of_lt_of_le L1 hz
    replace K6 := Nat.lt_of_lt_of_le K6 hz
    replace K8 := Nat.lt_of_lt_of_le K8 hz
    clear hc hf hz hb
    go_wp2_with fail
    obtain ⟨V7, hV7⟩ : ∃ x, x = V6.alloc (.cells #[.slice (some ⟨g1, 0, none⟩) m.length m.length] 29) := ⟨_, rfl⟩
    have hb : Below V6.heap.size V6 V7 := by subst hV7; exact (Below.refl _ _).alloc (Nat.le_refl _) _
    have k90 : V7.cell? ⟨V6.heap.size, 0, none⟩ = some (.slice (some ⟨g1, 0, none⟩) m.length m.length) := by subst hV7; simp [go_sem]
    have K9 : V6.heap.size < V7.heap.size := by subst hV7; simp
    have hS9 := Lib.hid (show V7.heap.size = V6.heap.size + 1 by subst hV7; simp)
    rw [← hV7]
    clear hV7
    replace HD := HD.trans (hb.mono HD.size)
    obtain ⟨hc, hf⟩ := bcell hb
    have hz := hb.size
    replace b00 := (hc _ 0 L0).trans b00
    replace b10 := (hc _ 0 L1).trans b10
    replace k60 := (hc _ 0 K6).trans k60
    replace k80 := (hc _ 0 K8).trans k80
    replace FV := Lib.hid (FixAt.below FV.out hb)
    replace GV := Lib.hid (FixAt.below GV.out hb)
    replace own6 := Lib.hid (ownsRow_below own6.out hb)
    replace hG0 := Lib.hid (FixBlk.below hG0.out hb)
    replace hG1 := Lib.hid (FixBlk.below hG1.out hb)
    replace L0 := Nat.lt_of_lt_of_le L0 hz
    replace L1 := Nat.lt_of_lt_of_le L1 hz
    replace K6 := Nat.lt_of_lt_of_le K6 hz
    replace K8 := Nat.lt_of_lt_of_le K8 hz
    clear hc hf hz hb
    obtain ⟨C9, hC9⟩ : ∃ x, x = V6.heap.size := ⟨_, rfl⟩
    rw [← hC9] at k90 K9
    try rw [← hC9]
    replace hC9 := Lib.hid hC9
    have hc9 : g1 < C9 := by have := hC9.out; omega
    refine (CI.out g0 g1 V7 (FixBlk.at hG0.out) (FixBlk.at hG1.out)).mono ?_
    rintro e V8 ⟨⟨a10, cap10, rfl, ho⟩, hb⟩
    have own10 := Lib.hid ho
    obtain ⟨D10, hD10⟩ : ∃ x, x = V7.heap.size := ⟨_, rfl⟩
    have U10 := Lib.hid (fun j (e : (Value.slice a10 L.length cap10).ownBlock = some j) => own10.out.lt j e)
    have d10 : C9 < D10 := by omega
    rw [← hD10] at own10 U10
    have hDE := hb.size
    rw [← hD10] at hDE
    clear ho
    replace HD := HD.trans (hb.mono HD.size)
    obtain ⟨hc, hf⟩ := bcell hb
    have hz := hb.size
    replace b00 := (hc _ 0 L0).trans b00
    replace b10 := (hc _ 0 L1).trans b10
    replace k60 := (hc _ 0 K6).trans k60
    replace k80 := (hc _ 0 K8).trans k80
    replace k90 := (hc _ 0 K9).trans k90
    replace FV := Lib.hid (FixAt.below FV.out hb)
    replace GV := Lib.hid (FixAt.below GV.out hb)
    replace own6 := Lib.hid (ownsRow_below own6.out hb)
    replace hG0 := Lib.hid (FixBlk.below hG0.out hb)
    replace hG1 := Lib.hid (FixBlk.below hG1.out hb)
    replace L0 := Nat.lt_of_lt_of_le L0 hz
    replace L1 := Nat.lt_of_lt_of_le L1 hz
    replace K6 := Nat.lt_of_lt_of_le K6 hz
    replace K8 := Nat.lt_of_lt_of_le K8 hz
    replace K9 := Nat.lt_of_lt_of_le K9 hz
    clear hc hf hz hb
    go_wp2_with fail
    obtain ⟨V9, hV9⟩ : ∃ x, x = V8.alloc (.cells #[.slice a10 L.length cap10] 29) := ⟨_, rfl⟩
    have hb : Below V8.heap.size V8 V9 := by subst hV9; exact (Below.refl _ _).alloc (Nat.le_refl _) _
    have k100 : V9.cell? ⟨V8.heap.size, 0, none⟩ = some (.slice a10 L.length cap10) := by subst hV9; simp [go_sem]
    have K10 : V8.heap.size < V9.heap.size := by subst hV9; simp
    have hS10 := Lib.hid (show V9.heap.size = V8.heap.size + 1 by subst hV9; simp)
    rw [← hV9]
    clear hV9
    replace HD := HD.trans (hb.mono HD.size)
    obtain ⟨hc, hf⟩ := bcell hb
    have hz := hb.size
    replace b00 := (hc _ 0 L0).trans b00
    replace b10 := (hc _ 0 L1).trans b10
    replace k60 := (hc _ 0 K6).trans k60
    replace k80 := (hc _ 0 K8).trans k80
    replace k90 := (hc _ 0 K9).trans k90
    replace FV := Lib.hid (FixAt.below FV.out hb)
    replace GV := Lib.hid (FixAt.below GV.out hb)
    replace own6 := Lib.hid (ownsRow_below own6.out hb)
    replace hG0 := Lib.hid (FixBlk.below hG0.out hb)
    replace hG1 := Lib.hid (FixBlk.below hG1.out hb)
    replace own10 := Lib.hid (ownsRow_below own10.out hb)
    replace L0 := Nat.lt_of_lt_of_le L0 hz
    replace L1 := Nat.lt_of_lt_of_le L1 hz
    replace K6 := Nat.lt_of_lt_of_le K6 hz
    replace K8 := Nat.lt_of_lt_of_le K8 hz
    replace K9 := Nat.lt_of_lt_of_le K9 hz
    clear hc hf hz hb
    obtain ⟨C10, hC10⟩ : ∃ x, x = V8.heap.size := ⟨_, rfl⟩
    rw [← hC10] at k100 K10
    try rw [← hC10]
    replace hC10 := Lib.hid hC10
    rw [← hC10.out] at U10 hDE
    clear hD10
    refine (eqTrack_c a10 a6 cap10 cap6 L V9 hn3 (fixAt_own own10.out) (fixAt_own own6.out)).mono ?_
    rintro e V10 ⟨rfl, hb⟩
    replace HD := HD.trans (hb.mono HD.size)
    obtain ⟨hc, hf⟩ := bcell hb
    have hz := hb.size
    replace b00 := (hc _ 0 L0).trans b00
    replace b10 := (hc _ 0 L1).trans b10
    replace k60 := (hc _ 0 K6).trans k60
    replace k80 := (hc _ 0 K8).trans k80
    replace k90 := (hc _ 0 K9).trans k90
    replace k100 := (hc _ 0 K10).trans k100
    replace FV := Lib.hid (FixAt.below FV.out hb)
    replace GV := Lib.hid (FixAt.below GV.out hb)
    replace own6 := Lib.hid (ownsRow_below own6.out hb)
    replace hG0 := Lib.hid (FixBlk.below hG0.out hb)
    replace hG1 := Lib.hid (FixBlk.below hG1.out hb)
    replace own10 := Lib.hid (ownsRow_below own10.out hb)
    replace L0 := Nat.lt_of_lt_of_le L0 hz
    replace L1 := Nat.lt_of_lt_of_le L1 hz
    replace K6 := Nat.lt_of_lt_of_le K6 hz
    replace K8 := Nat.lt_of_lt_of_le K8 hz
    replace K9 := Nat.lt_of_lt_of_le K9 hz
    replace K10 := Nat.lt_of_lt_of_le K10 hz
    clear hc hf hz hb
    go_wp2_with fail
    go_cut [58] (fun s58 wx => s58 = .bool false ∧ Below V10.heap.size V10 wx)
    case first =>
      go_region_held3 (fun wx => Below V10.heap.size V10 wx ∧ ∀ b o, b < V10.heap.size → wx.cell? ⟨b, o, none⟩ = V10.cell? ⟨b, o, none⟩)
        (first | with_reducible exact held_step (by assumption) hb | with_reducible exact held_start _ _ | with_reducible exact held_begin _)
        (first | (go_at_call 17; refine (toTrack_c a0 cap0 l _ hl1 (FixAt.below FV.out (And.left (by with_reducible assumption)))).mono ?_; rintro e w1 ⟨⟨g, rfl, hg, hlg⟩, hb⟩; have hz := held_size (by with_reducible assumption) hb; (try simp at hz); have hs := hb.size; (try simp at hs)) | (go_at_call 19; refine (eqTrack_c _ _ _ _ l _ hl2 (FixAt.below (FixBlk.at hG0.out) (And.left (by with_reducible assumption))) (FixBlk.at (by assumption))).mono ?_; rintro e w1 ⟨rfl, hb⟩; have hz := held_size (by with_reducible assumption) hb; (try simp at hz); have hs := hb.size; (try simp at hs)))
      all_goals go_wp2_with fail
      all_goals (go_meet; exact ⟨rfl, And.left (by with_reducible assumption)⟩)
    case rest =>
      obtain ⟨rfl, hb⟩ := hcut
      obtain ⟨V11, rfl⟩ : ∃ x : World, x = wc := ⟨_, rfl⟩
      replace HD := HD.trans (hb.mono HD.size)
      obtain ⟨hc, hf⟩ := bcell hb
      have hz := hb.size
      replace b00 := (hc _ 0 L0).trans b00
      replace b10 := (hc _ 0 L1).trans b10
      replace k60 := (hc _ 0 K6).trans k60
      replace k80 := (hc _ 0 K8).trans k80
      replace k90 := (hc _ 0 K9).trans k90
      replace k100 := (hc _ 0 K10).trans k100
      replace FV := Lib.hid (FixAt.below FV.out hb)
      replace GV := Lib.hid (FixAt.below GV.out hb)
      replace own6 := Lib.hid (ownsRow_below own6.out hb)
      replace hG0 := Lib.hid (FixBlk.below hG0.out hb)
      replace hG1 := Lib.hid (FixBlk.below hG1.out hb)
      replace own10 := Lib.hid (ownsRow_below own10.out hb)
      replace L0 := Nat.lt_of_lt_of_le L0 hz
      replace L1 := Nat.lt_of_lt_of_le L1 hz
      replace K6 := Nat.lt_of_lt_of_le K6 hz
      replace K8 := Nat.lt_of_lt_of_le K8 hz
      replace K9 := Nat.lt_of_lt_of_le K9 hz
      replace K10 := Nat.lt_of_lt_of_le K10 hz
      clear hc hf hz hb
      go_wp2_with fail
      go_cut [63] (fun s63 wx => s63 = .bool false ∧ Below V11.heap.size V11 wx)
      case first =>
        go_region_held3 (fun wx => Below V11.heap.size V11 wx ∧ ∀ b o, b < V11.heap.size → wx.cell? ⟨b, o, none⟩ = V11.cell? ⟨b, o, none⟩)
          (first | with_reducible exact held_step (by assumption) hb | with_reducible exact held_start _ _ | with_reducible exact held_begin _)
          (first | (go_at_call 17; refine (toTrack_c a1 cap1 m _ hm1 (FixAt.below GV.out (And.left (by with_reducible assumption)))).mono ?_; rintro e w1 ⟨⟨g, rfl, hg, hlg⟩, hb⟩; have hz := held_size (by with_reducible assumption) hb; (try simp at hz); have hs := hb.size; (try simp at hs)) | (go_at_call 19; refine (eqTrack_c _ _ _ _ m _ hm2 (FixAt.below (FixBlk.at hG1.out) (And.left (by with_reducible assumption))) (FixBlk.at (by assumption))).mono ?_; rintro e w1 ⟨rfl, hb⟩; have hz := held_size (by with_reducible assumption) hb; (try simp at hz); have hs := hb.size; (try simp at hs)))
        all_goals go_wp2_with fail
        all_goals (go_meet; exact ⟨rfl, And.left (by with_reducible assumption)⟩)
      case rest =>
        obtain ⟨rfl, hb⟩ := hcut
        obtain ⟨V12, rfl⟩ : ∃ x : World, x = wc := ⟨_, rfl⟩
        replace HD := HD.trans (hb.mono HD.size)
        obtain ⟨hc, hf⟩ := bcell hb
        have hz := hb.size
        replace b00 := (hc _ 0 L0).trans b00
        replace b10 := (hc _ 0 L1).trans b10
        replace k60 := (hc _ 0 K6).trans k60
        replace k80 := (hc _ 0 K8).trans k80
        replace k90 := (hc _ 0 K9).trans k90
        replace k100 := (hc _ 0 K10).trans k100
        replace FV := Lib.hid (FixAt.below FV.out hb)
        replace GV := Lib.hid (FixAt.below GV.out hb)
        replace own6 := Lib.hid (ownsRow_below own6.out hb)
        replace hG0 := Lib.hid (FixBlk.below hG0.out hb)
        replace hG1 := Lib.hid (FixBlk.below hG1.out hb)
        replace own10 := Lib.hid (ownsRow_below own10.out hb)
        replace L0 := Nat.lt_of_lt_of_le L0 hz
        replace L1 := Nat.lt_of_lt_of_le L1 hz
        replace K6 := Nat.lt_of_lt_of_le K6 hz
        replace K8 := Nat.lt_of_lt_of_le K8 hz
        replace K9 := Nat.lt_of_lt_of_le K9 hz
        replace K10 := Nat.lt_of_lt_of_le K10 hz
        clear hc hf hz hb
        go_wp2_with fail
        have cm := markTrack_c (some ⟨g0, 0, none⟩) l.length l.length 1 0 (flat l) V12 (by omega) (by omega) (by omega) (own_of_blk hG0.out (Nat.zero_le _) hl2)
        have hM : 0 ≤ 1 + ((l.length * 3 : Nat) : Int) := by omega
        have hM2 : 1 + ((l.length * 3 : Nat) : Int) ≤ 4194304 := by omega
        obtain ⟨M, hM0⟩ : ∃ M, 1 + ((l.length * 3 : Nat) : Int) = M := ⟨_, rfl⟩
        rw [hM0] at cm hM hM2
        have hMM := Lib.hid hM0
        clear hM0
        refine cm.mono ?_
        rintro e V13 ⟨rfl, hmk, hg⟩
        have hU : ∀ k, (Value.slice (some ⟨g0, 0, none⟩) l.length l.length).ownBlock = some k → k = g0 := by intro k e; simp [Value.ownBlock] at e; exact e.symm
        clear cm
        replace HD := HD.trans (grown_below hg HD.size (fun k e => by have := hU k e; have := HD.size; omega))
        replace b00 := hg.cell b00 (fun e => by have h1 := hU B0 e.symm; omega)
        replace b10 := hg.cell b10 (fun e => by have h1 := hU B1 e.symm; omega)
        replace k60 := hg.cell k60 (fun e => by have h1 := hU C6 e.symm; omega)
        replace k80 := hg.cell k80 (fun e => by have h1 := hU C8 e.symm; omega)
        replace k90 := hg.cell k90 (fun e => by have h1 := hU C9 e.symm; omega)
        replace k100 := hg.cell k100 (fun e => by have h1 := hU C10 e.symm; omega)
        replace FV := Lib.hid (FixAt.below hf0.out HD)
        replace GV := Lib.hid (FixAt.below hf1.out HD)
        replace own6 := Lib.hid (own_kept own6.out hg (fun k e e2 => by have := U6.out k e; have := hU k e2; omega))
        replace own10 := Lib.hid (own_kept own10.out hg (fun k e e2 => by have := U10.out k e; have := hU k e2; omega))
        replace hG1 := Lib.hid (blk_kept hG1.out hg (fun e => by have := hU g1 e; omega))
        replace L0 := Nat.lt_of_lt_of_le L0 hg.size
        replace L1 := Nat.lt_of_lt_of_le L1 hg.size
        replace K6 := Nat.lt_of_lt_of_le K6 hg.size
        replace K8 := Nat.lt_of_lt_of_le K8 hg.size
        replace K9 := Nat.lt_of_lt_of_le K9 hg.size
        replace K10 := Nat.lt_of_lt_of_le K10 hg.size
        clear hg
        clear hU hmk hG0
        go_wp2_with fail
        have cm := markTrack_c (some ⟨g1, 0, none⟩) m.length m.length M 0 (flat m) V13 (by omega) (by omega) (by omega) (own_of_blk hG1.out (Nat.zero_le _) hm2)
        have hM2 : 0 ≤ M + ((m.length * 3 : Nat) : Int) := by omega
        have hM22 : M + ((m.length * 3 : Nat) : Int) ≤ 4194304 := by have := hMM.out; omega
        obtain ⟨M2, hM20⟩ : ∃ M2, M + ((m.length * 3 : Nat) : Int) = M2 := ⟨_, rfl⟩
        rw [hM20] at cm hM2 hM22
        have hM2M2 := Lib.hid hM20
        clear hM20
        refine cm.mono ?_
        rintro e V14 ⟨rfl, hmk, hg⟩
        have hU : ∀ k, (Value.slice (some ⟨g1, 0, none⟩) m.length m.length).ownBlock = some k → k = g1 := by intro k e; simp [Value.ownBlock] at e; exact e.symm
        clear cm
        replace HD := HD.trans (grown_below hg HD.size (fun k e => by have := hU k e; have := HD.size; omega))
        replace b00 := hg.cell b00 (fun e => by have h1 := hU B0 e.symm; omega)
        replace b10 := hg.cell b10 (fun e => by have h1 := hU B1 e.symm; omega)
        replace k60 := hg.cell k60 (fun e => by have h1 := hU C6 e.symm; omega)
        replace k80 := hg.cell k80 (fun e => by have h1 := hU C8 e.symm; omega)
        replace k90 := hg.cell k90 (fun e => by have h1 := hU C9 e.symm; omega)
        replace k100 := hg.cell k100 (fun e => by have h1 := hU C10 e.symm; omega)
        replace FV := Lib.hid (FixAt.below hf0.out HD)
        replace GV := Lib.hid (FixAt.below hf1.out HD)
        replace own6 := Lib.hid (own_kept own6.out hg (fun k e e2 => by have := U6.out k e; have := hU k e2; omega))
        replace own10 := Lib.hid (own_kept own10.out hg (fun k e e2 => by have := U10.out k e; have := hU k e2; omega))
        replace L0 := Nat.lt_of_lt_of_le L0 hg.size
        replace L1 := Nat.lt_of_lt_of_le L1 hg.size
        replace K6 := Nat.lt_of_lt_of_le K6 hg.size
        replace K8 := Nat.lt_of_lt_of_le K8 hg.size
        replace K9 := Nat.lt_of_lt_of_le K9 hg.size
        replace K10 := Nat.lt_of_lt_of_le K10 hg.size
        clear hg
        clear hU hmk hG1
        go_wp2_with fail
        refine (eqTrack_c a10 a6 cap10 cap6 L V14 hn3 (fixAt_own own10.out) (fixAt_own own6.out)).mono ?_
        rintro e V15 ⟨rfl, hb⟩
        replace HD := HD.trans (hb.mono HD.size)
        obtain ⟨hc, hf⟩ := bcell hb
        have hz := hb.size
        replace b00 := (hc _ 0 L0).trans b00
        replace b10 := (hc _ 0 L1).trans b10
        replace k60 := (hc _ 0 K6).trans k60
        replace k80 := (hc _ 0 K8).trans k80
        replace k90 := (hc _ 0 K9).trans k90
        replace k100 := (hc _ 0 K10).trans k100
        replace FV := Lib.hid (FixAt.below FV.out hb)
        replace GV := Lib.hid (FixAt.below GV.out hb)
        replace own6 := Lib.hid (ownsRow_below own6.out hb)
        replace own10 := Lib.hid (ownsRow_below own10.out hb)
        replace L0 := Nat.lt_of_lt_of_le L0 hz
        replace L1 := Nat.lt_of_lt_of_le L1 hz
        replace K6 := Nat.lt_of_lt_of_le K6 hz
        replace K8 := Nat.lt_of_lt_of_le K8 hz
        replace K9 := Nat.lt_of_lt_of_le K9 hz
        replace K10 := Nat.lt_of_lt_of_le K10 hz
        clear hc hf hz hb
        go_wp2_with fail
        have cm := markTrack_c a10 L.length cap10 1 D10 (flat L) V15 (by omega) (by omega) (by omega) own10.out
        have hN : 0 ≤ 1 + ((L.length * 3 : Nat) : Int) := by omega
        have hN2 : 1 + ((L.length * 3 : Nat) : Int) ≤ 4194304 := by omega
        obtain ⟨N, hN0⟩ : ∃ N, 1 + ((L.length * 3 : Nat) : Int) = N := ⟨_, rfl⟩
        rw [hN0] at cm hN hN2
        have hNN := Lib.hid hN0
        clear hN0
        refine cm.mono ?_
        rintro e V16 ⟨rfl, hmk, hg⟩
        have hU := U10.out
        clear cm
        replace HD := HD.trans (grown_below hg HD.size (fun k e => by have := hU k e; have := HD.size; omega))
        replace b00 := hg.cell b00 (fun e => by have h1 := hU B0 e.symm; omega)
        replace b10 := hg.cell b10 (fun e => by have h1 := hU B1 e.symm; omega)
        replace k60 := hg.cell k60 (fun e => by have h1 := hU C6 e.symm; omega)
        replace k80 := hg.cell k80 (fun e => by have h1 := hU C8 e.symm; omega)
        replace k90 := hg.cell k90 (fun e => by have h1 := hU C9 e.symm; omega)
        replace k100 := hg.cell k100 (fun e => by have h1 := hU C10 e.symm; omega)
        replace FV := Lib.hid (FixAt.below hf0.out HD)
        replace GV := Lib.hid (FixAt.below hf1.out HD)
        replace own6 := Lib.hid (own_kept own6.out hg (fun k e e2 => by have := U6.out k e; have := hU k e2; omega))
        replace L0 := Nat.lt_of_lt_of_le L0 hg.size
        replace L1 := Nat.lt_of_lt_of_le L1 hg.size
        replace K6 := Nat.lt_of_lt_of_le K6 hg.size
        replace K8 := Nat.lt_of_lt_of_le K8 hg.size
        replace K9 := Nat.lt_of_lt_of_le K9 hg.size
        replace K10 := Nat.lt_of_lt_of_le K10 hg.size
        clear hg
        replace own10 := Lib.hid hmk
        clear hU hmk
        go_wp2_with fail
        have ch := heldTrack_c a10 L.length cap10 1 D10 V16 (by omega) (by omega) (by omega) own10.out
        rw [hNN.out] at ch
        refine (ch).mono ?_
        rintro e V17 ⟨rfl, hb⟩
        clear ch
        replace HD := HD.trans (hb.mono HD.size)
        obtain ⟨hc, hf⟩ := bcell hb
        have hz := hb.size
        replace b00 := (hc _ 0 L0).trans b00
        replace b10 := (hc _ 0 L1).trans b10
        replace k60 := (hc _ 0 K6).trans k60
        replace k80 := (hc _ 0 K8).trans k80
        replace k90 := (hc _ 0 K9).trans k90
        replace k100 := (hc _ 0 K10).trans k100
        replace FV := Lib.hid (FixAt.below FV.out hb)
        replace GV := Lib.hid (FixAt.below GV.out hb)
        replace own6 := Lib.hid (ownsRow_below own6.out hb)
        replace own10 := Lib.hid (ownsRow_below own10.out hb)
        replace L0 := Nat.lt_of_lt_of_le L0 hz
        replace L1 := Nat.lt_of_lt_of_le L1 hz
        replace K6 := Nat.lt_of_lt_of_le K6 hz
        replace K8 := Nat.lt_of_lt_of_le K8 hz
        replace K9 := Nat.lt_of_lt_of_le K9 hz
        replace K10 := Nat.lt_of_lt_of_le K10 hz
        clear hc hf hz hb
        go_wp2_with fail
        go_cut [15, 16] (fun s15 s16 wx => ∃ (C : Nat) (a : Option Addr) (cp : Nat), s15 = .pointer (some ⟨C, 0, none⟩) ∧ s16 = .int .i64 R2 ∧ wx.cell? ⟨C, 0, none⟩ = some (.slice a L.length cp) ∧ wx.ownsRow V17.heap.size 73 3 (.slice a L.length cp) L.length (flat L) ∧ V17.heap.size ≤ C ∧ C < wx.heap.size ∧ Below V17.heap.size V17 wx)
        case first =>
          go_region_held3 (fun wx => Below V17.heap.size V17 wx ∧ ∀ b o, b < V17.heap.size → wx.cell? ⟨b, o, none⟩ = V17.cell? ⟨b, o, none⟩)
            (first | with_reducible exact held_step (by assumption) hb | with_reducible exact held_alloc (by assumption) _ | with_reducible exact (held_set (by with_reducible assumption) (by first | exact Nat.le_refl _ | (simp; done) | (simp; omega) | omega) _) | with_reducible exact (held_set (held_set (by with_reducible assumption) (by first | exact Nat.le_refl _ | (simp; done) | (simp; omega) | omega) _) (by first | exact Nat.le_refl _ | (simp; done) | (simp; omega) | omega) _) | with_reducible exact held_realloc (by assumption) (by first | exact Nat.le_refl _ | (simp; done) | (simp; omega) | omega) _ | with_reducible exact held_start _ _ | with_reducible exact held_begin _ | exact held_of (by repeat (first | with_reducible exact Below.refl _ _ | with_reducible assumption | with_reducible refine Below.drew ?_ | with_reducible refine Below.alloc ?_ (by first | exact Nat.le_refl _ | (simp; done) | (simp; omega) | omega) _ | with_reducible refine Below.setCell ?_ (by first | exact Nat.le_refl _ | (simp; done) | (simp; omega) | omega) _ | with_reducible refine Below.trans ?_ (Below.mono (by with_reducible assumption) (by first | exact Nat.le_refl _ | (simp; done) | (simp; omega) | omega)))))
            (first | (go_at_call_of 17 (a0); refine (toTrack_c a0 cap0 l _ hl1 (FixAt.below FV.out (And.left (by with_reducible assumption)))).mono ?_; rintro e w1 ⟨⟨g, rfl, hg, hlg⟩, hb⟩; have hz := held_size (by with_reducible assumption) hb; (try simp at hz); have hs := hb.size; (try simp at hs); obtain ⟨hc, hf⟩ := bcell hb; (try have hl := below_lt hb); (try simp at hl); (try have hlW : V17.heap.size < w1.heap.size := by first | omega | (simp; omega))) | (go_at_call 17; refine (toTrack_c a1 cap1 m _ hm1 (FixAt.below GV.out (And.left (by with_reducible assumption)))).mono ?_; rintro e w1 ⟨⟨g, rfl, hg, hlg⟩, hb⟩; have hz := held_size (by with_reducible assumption) hb; (try simp at hz); have hs := hb.size; (try simp at hs); obtain ⟨hc, hf⟩ := bcell hb; (try have hl := below_lt hb); (try simp at hl); (try have hlW : V17.heap.size < w1.heap.size := by first | omega | (simp; omega))) | (go_at_call 35; refine (CI.out _ _ _ (FixAt.below (FixBlk.at (by assumption)) (by repeat (first | with_reducible exact Below.refl _ _ | with_reducible assumption | with_reducible refine Below.drew ?_ | with_reducible refine Below.alloc ?_ (by first | exact Nat.le_refl _ | (simp; done) | (simp; omega) | omega) _ | with_reducible refine Below.setCell ?_ (by first | exact Nat.le_refl _ | (simp; done) | (simp; omega) | omega) _ | with_reducible refine Below.trans ?_ (Below.mono (by with_reducible assumption) (by first | exact Nat.le_refl _ | (simp; done) | (simp; omega) | omega))))) (FixAt.below (FixBlk.at (by assumption)) (by repeat (first | with_reducible exact Below.refl _ _ | with_reducible assumption | with_reducible refine Below.drew ?_ | with_reducible refine Below.alloc ?_ (by first | exact Nat.le_refl _ | (simp; done) | (simp; omega) | omega) _ | with_reducible refine Below.setCell ?_ (by first | exact Nat.le_refl _ | (simp; done) | (simp; omega) | omega) _ | with_reducible refine Below.trans ?_ (Below.mono (by with_reducible assumption) (by first | exact Nat.le_refl _ | (simp; done) | (simp; omega) | omega)))))).mono ?_; rintro e w1 ⟨⟨a', cap', rfl, ho⟩, hb⟩; have hz := held_size (by with_reducible assumption) hb; (try simp at hz); have hs := hb.size; (try simp at hs); obtain ⟨hc, hf⟩ := bcell hb; (try have hl := below_lt hb); (try simp at hl); (try have hlW : V17.heap.size < w1.heap.size := by first | omega | (simp; omega))))
          all_goals go_wp2_with fail
          all_goals (have hlt9 := ho.lt; go_meet; exact ⟨_, a', cap', rfl, rfl, (by first | (go_light; go_simp; done) | (simp [go_sem, *]; done)), (by first | exact own_mono (World.ownsRow.alloc (by assumption) _) (by first | omega | (simp; omega)) | exact own_mono (ownsRow_setCell_other ho (fun e => by have h9 := (hlt9 _ e).1; simp at h9; omega) _) (by first | omega | (simp; omega))), (by first | exact Nat.le_refl _ | (simp; done) | (simp; omega) | omega), (by first | (simp; done) | (simp; omega) | omega), And.left (by with_reducible assumption)⟩)
        case rest =>
          obtain ⟨C15, a15, cap15, rfl, rfl, k150, ho, hvC, K15, hb⟩ := hcut
          obtain ⟨V18, rfl⟩ : ∃ x : World, x = wc := ⟨_, rfl⟩
          have own15 := Lib.hid ho
          have U15 := Lib.hid (fun j (e : (Value.slice a15 L.length cap15).ownBlock = some j) => own15.out.lt j e)
          clear ho
          obtain ⟨E15, hE15⟩ : ∃ x, x = V18.heap.size := ⟨_, rfl⟩
          rw [← hE15] at U15
          have hEE15 := Lib.hid hE15
          clear hE15
          obtain ⟨D15, hD15⟩ : ∃ x, x = V17.heap.size := ⟨_, rfl⟩
          have d15L0 : B0 < D15 := by omega
          have d15L1 : B1 < D15 := by omega
          have d15K6 : C6 < D15 := by omega
          have d15K8 : C8 < D15 := by omega
          have d15K9 : C9 < D15 := by omega
          have d15K10 : C10 < D15 := by omega
          rw [← hD15] at own15 U15 hvC
          replace HD := HD.trans (hb.mono HD.size)
          obtain ⟨hc, hf⟩ := bcell hb
          have hz := hb.size
          replace b00 := (hc _ 0 L0).trans b00
          replace b10 := (hc _ 0 L1).trans b10
          replace k60 := (hc _ 0 K6).trans k60
          replace k80 := (hc _ 0 K8).trans k80
          replace k90 := (hc _ 0 K9).trans k90
          replace k100 := (hc _ 0 K10).trans k100
          replace FV := Lib.hid (FixAt.below FV.out hb)
          replace GV := Lib.hid (FixAt.below GV.out hb)
          replace own6 := Lib.hid (ownsRow_below own6.out hb)
          replace own10 := Lib.hid (ownsRow_below own10.out hb)
          replace L0 := Nat.lt_of_lt_of_le L0 hz
          replace L1 := Nat.lt_of_lt_of_le L1 hz
          replace K6 := Nat.lt_of_lt_of_le K6 hz
          replace K8 := Nat.lt_of_lt_of_le K8 hz
          replace K9 := Nat.lt_of_lt_of_le K9 hz
          replace K10 := Nat.lt_of_lt_of_le K10 hz
          clear hc hf hz hb
          have hvC15 := hvC
          have hwD15 : w.heap.size ≤ D15 := by have := hB0.out; omega
          clear hvC
          have hDD15 := Lib.hid hD15
          clear hD15
          go_wp2_with fail
          refine (eqTrack_c a15 a6 cap15 cap6 L V18 hn3 (fixAt_own own15.out) (fixAt_own own6.out)).mono ?_
          rintro e V19 ⟨rfl, hb⟩
          replace HD := HD.trans (hb.mono HD.size)
          obtain ⟨hc, hf⟩ := bcell hb
          have hz := hb.size
          replace b00 := (hc _ 0 L0).trans b00
          replace b10 := (hc _ 0 L1).trans b10
          replace k60 := (hc _ 0 K6).trans k60
          replace k80 := (hc _ 0 K8).trans k80
          replace k90 := (hc _ 0 K9).trans k90
          replace k100 := (hc _ 0 K10).trans k100
          replace k150 := (hc _ 0 K15).trans k150
          replace FV := Lib.hid (FixAt.below FV.out hb)
          replace GV := Lib.hid (FixAt.below GV.out hb)
          replace own6 := Lib.hid (ownsRow_below own6.out hb)
          replace own10 := Lib.hid (ownsRow_below own10.out hb)
          replace own15 := Lib.hid (ownsRow_below own15.out hb)
          replace L0 := Nat.lt_of_lt_of_le L0 hz
          replace L1 := Nat.lt_of_lt_of_le L1 hz
          replace K6 := Nat.lt_of_lt_of_le K6 hz
          replace K8 := Nat.lt_of_lt_of_le K8 hz
          replace K9 := Nat.lt_of_lt_of_le K9 hz
          replace K10 := Nat.lt_of_lt_of_le K10 hz
          replace K15 := Nat.lt_of_lt_of_le K15 hz
          clear hc hf hz hb
          go_wp2_with fail
          have ch := heldTrack_c a10 L.length cap10 1 D10 V19 (by omega) (by omega) (by omega) own10.out
          rw [hNN.out] at ch
          refine (ch).mono ?_
          rintro e V20 ⟨rfl, hb⟩
          clear ch
          replace HD := HD.trans (hb.mono HD.size)
          obtain ⟨hc, hf⟩ := bcell hb
          have hz := hb.size
          replace b00 := (hc _ 0 L0).trans b00
          replace b10 := (hc _ 0 L1).trans b10
          replace k60 := (hc _ 0 K6).trans k60
          replace k80 := (hc _ 0 K8).trans k80
          replace k90 := (hc _ 0 K9).trans k90
          replace k100 := (hc _ 0 K10).trans k100
          replace k150 := (hc _ 0 K15).trans k150
          replace FV := Lib.hid (FixAt.below FV.out hb)
          replace GV := Lib.hid (FixAt.below GV.out hb)
          replace own6 := Lib.hid (ownsRow_below own6.out hb)
          replace own10 := Lib.hid (ownsRow_below own10.out hb)
          replace own15 := Lib.hid (ownsRow_below own15.out hb)
          replace L0 := Nat.lt_of_lt_of_le L0 hz
          replace L1 := Nat.lt_of_lt_of_le L1 hz
          replace K6 := Nat.lt_of_lt_of_le K6 hz
          replace K8 := Nat.lt_of_lt_of_le K8 hz
          replace K9 := Nat.lt_of_lt_of_le K9 hz
          replace K10 := Nat.lt_of_lt_of_le K10 hz
          replace K15 := Nat.lt_of_lt_of_le K15 hz
          clear hc hf hz hb
          go_wp2_with fail
          go_ret
          exact ⟨rfl, HD⟩

theorem own : ownKnob Try.prog.godebug = none := by kernel_rfl
theorem laidOut : laidOutB Try.prog = true := by kernel_rfl
set_option maxRecDepth 100000 in
theorem lifted (os : Os) (started : os.Started) (H : Type) (enc : TypeId × Value → H) :
    ReturnsInHanded {} Try.checked os 9 .any (Rows.fnExactJoinTracksSpec.pre6 enc Try.prog Try.f9 Rows.fnExactJoinTracksRow.domain false) (Rows.fnExactJoinTracksSpec.post enc Try.prog Try.f9 false true false false) := by
  refine returnsInHanded_of_change (C := Try.checked) own started (by kernel_rfl) Try.func9
    (ChangeSpec.witness6 (enc := enc) (C := Try.checked) false ⟨#[], #[.agg #[.slice none 0 0], .agg #[.slice none 0 0]], []⟩ 8 (by kernel_rfl) (by kernel_rfl) (by kernel_rfl) (by kernel_rfl)) ?_
  intro W base args ds gs before hval0 hW hcnd _
  have hval : ∀ (j : Nat) t v, Try.f9.params[j]? = some t → args[j]? = some v → Value.okWide Try.prog W .any base t v := hval0
  have hW' := hW
  obtain ⟨p, q, hA0, hV, rfl, hfz, hnd⟩ := hW
  have hA : DataW.TrodAll enc Try.prog W 0 (fun _ => true) true Try.f9.params.toList args.toList ds p := hA0
  rw [Try.params9] at hA hval
  obtain ⟨v0, vs0, d0, ds0, p0, q0, hargs, rfl, rfl, h0, r0⟩ := trodAll_cons hA
  obtain ⟨v1, vs1, d1, ds1, p1, q1, rfl, rfl, rfl, h1, r1⟩ := trodAll_cons r0
  obtain ⟨rfl, rfl, rfl⟩ := trodAll_nil r1
  obtain rfl : args = #[v0, v1] := by cases args; simp_all
  obtain ⟨rfl, rfl⟩ := trodVars_none hV
  have k0 := h0
  have lt0 : ∀ x ∈ p0, x.block < W.heap.size := by obtain ⟨m, hm⟩ := k0; exact DataW.trod_lt m _ _ _ hm
  obtain ⟨⟨a0, cap0⟩, l0, rfl, w0⟩ := open_track (n := 0) Try.underlying24 Try.underlying22 Try.underlying104 (by kernel_rfl) (by kernel_rfl) (by kernel_rfl) ⟨by kernel_rfl, by kernel_rfl⟩ (hval 0 24 v0 rfl rfl) h0
  have k1 := h1
  have lt1 : ∀ x ∈ p1, x.block < W.heap.size := by obtain ⟨m, hm⟩ := k1; exact DataW.trod_lt m _ _ _ hm
  obtain ⟨⟨a1, cap1⟩, l1, rfl, w1⟩ := open_track (n := 0) Try.underlying24 Try.underlying22 Try.underlying104 (by kernel_rfl) (by kernel_rfl) (by kernel_rfl) ⟨by kernel_rfl, by kernel_rfl⟩ (hval 1 24 v1 rfl rfl) h1
  clear hA0 hval0
  refine (walk a0 cap0 l0 a1 cap1 l1 W w0 w1).mono fun e W' ⟨he, bel⟩ => ?_
  subst he
  exact ⟨_, rfl, _, _, _, [], _, [], hW', trodAll_mk1 (shut_bool Try.underlying4 _), (trodAll_cons_mk (Below.trod laidOut (by kernel_rfl) (of_decide_eq_true (by kernel_rfl)) k0 bel lt0) (trodAll_cons_mk (Below.trod laidOut (by kernel_rfl) (of_decide_eq_true (by kernel_rfl)) k1 bel lt1) trodAll_mk0)), rfl, bel.frame _, fun h => by cases h⟩

theorem over : Rows.fnExactJoinTracksRow.holds Try.pinned (OpenSpec.ofChange Rows.fnExactJoinTracksSpec) :=
  OpenClaim.holds_of_wide 9 Try.f9 rfl rfl rfl rfl rfl rfl rfl ⟨rfl, rfl, rfl, rfl, rfl⟩ rfl rfl rfl rfl rfl (by kernel_rfl) Try.func9 (by kernel_rfl)
    (of_decide_eq_true (by kernel_rfl)) (by unfold Func.isWrapper; first | (rw [if_pos (by decide +kernel)]; kernel_rfl) | (rw [if_neg (by decide +kernel)]; exact ⟨rfl, rfl⟩))
    (fun os started H enc _ => lifted os started H enc)

/-- The statement. -/
theorem proved : Rows.FnExactJoinTracksSaid := over
end Go.Proofs.Ytdgmadpkhdfapaa.joinTracks
