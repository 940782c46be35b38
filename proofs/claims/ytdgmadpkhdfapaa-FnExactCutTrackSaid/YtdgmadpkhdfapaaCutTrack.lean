/-
  FnExactCutTrack: for all arguments the program's function answers as the reference's, leaves its argument as it was, and its result is its own. No condition.
-/
import Derived.Test.YtdgmadpkhdfapaaRows
import Derived.Test.YtdgmadpkhdfapaaCut
import Derived.Test.YtdgmadpkhdfapaaRows2
namespace Go.Proofs.Ytdgmadpkhdfapaa.cutTrack
open Go.ChangeShapes Go.WideShapes Go.ChangeAt Go.RowKit Go.Deep
open Go.ChangeMaps (open_string shut_string)
set_option linter.unusedVariables false

theorem cut_len {l : List Fx} {f t : Int} : (cutR l f t).1.length ≤ 42 := by
  unfold cutR
  split
  · rename_i h
    have := (isTrk_true h).2.1
    split
    · have := mids_len l f t l.length
      simp [cutL]; omega
    · simp
  · simp
set_option maxRecDepth 100000 in
set_option maxHeartbeats 2000000 in
theorem walk (a0 : Option Addr) (cap0 : Nat) (l : List Fx) (f t : Int) (w : World) (w0 : l.length ≤ 9223372036854775807 ∧ FixAt w a0 l) (v0 : (Lit.int .i64 f).wf = true) (v1 : (Lit.int .i64 t).wf = true) :
    Calls Try.prog 11 #[.agg #[.slice a0 l.length cap0], .int .i64 f, .int .i64 t] w fun e w' => e = .returned (.bool true) ∧ Below w.heap.size w w' := by
  obtain ⟨hl0, hf0⟩ := w0
  clear v0 v1
  replace hf0 := Lib.hid hf0
  go_enter Try.func11, Try.ntmps11
  go_wp2_with fail
  obtain ⟨W, hW⟩ : ∃ W, W = (w.alloc (.cells #[.slice a0 l.length cap0] 24)) := ⟨_, rfl⟩
  have HD : Below w.heap.size w W := by subst hW; exact (by repeat (first | with_reducible exact Below.refl _ _ | with_reducible assumption | with_reducible refine Below.drew ?_ | with_reducible refine Below.alloc ?_ (by first | exact Nat.le_refl _ | (simp; done) | (simp; omega) | omega) _ | with_reducible refine Below.setCell ?_ (by first | exact Nat.le_refl _ | (simp; done) | (simp; omega) | omega) _ | with_reducible refine Below.trans ?_ (Below.mono (by with_reducible assumption) (by first | exact Nat.le_refl _ | (simp; done) | (simp; omega) | omega))))
  have b00 : W.cell? ⟨w.heap.size, 0, none⟩ = some (.slice a0 l.length cap0) := by subst hW; simp [go_sem]
  have L0 : w.heap.size < W.heap.size := by subst hW; first | (simp; done) | (simp; omega)
  rw [← hW]
  clear hW
  obtain ⟨B0, hB0⟩ : ∃ B, B = w.heap.size := ⟨_, rfl⟩
  rw [← hB0] at b00 L0
  try rw [← hB0]
  replace hB0 := Lib.hid hB0
  have cz := szTrack_c a0 l.length cap0 1048576 W hl0 (by omega) (by omega)
  by_cases hn : (l.length : Int) ≤ 1048576
  case neg =>
    rw [if_neg hn] at cz
    refine cz.mono ?_
    rintro e V1 ⟨rfl, hb⟩
    go_wp2_with fail
    go_ret
    exact ⟨rfl, HD.trans (hb.mono HD.size)⟩
  rw [if_pos hn] at cz
  refine (cz).mono ?_
  rintro e V1 ⟨rfl, hb⟩
  replace HD := HD.trans (hb.mono HD.size)
  obtain ⟨hc, hf⟩ := bcell hb
  have hz := hb.size
  replace b00 := (hc _ 0 L0).trans b00
  replace L0 := Nat.lt_of_lt_of_le L0 hz
  clear hc hf hz hb
  go_wp2_with fail
  clear cz
  have hl1 : l.length ≤ 1048576 := by omega
  have hl2 : l.length ≤ 4611686018427387904 := by omega
  have CS := Lib.hid (fun g w h => CutTrackS_c (some ⟨g, 0, none⟩) l.length l f t w hl2 h)
  have CI := Lib.hid (fun g w h => CutTrack_c (some ⟨g, 0, none⟩) l.length l f t w hl2 h)
  have hn2 := @cut_len l f t
  generalize (cutR l f t).1 = L at *
  generalize (cutR l f t).2 = R2 at *
  have hn3 : L.length ≤ 4611686018427387904 := by omega
  have FV := Lib.hid (FixAt.below hf0.out HD)
  refine (toTrack_c a0 cap0 l V1 hl1 FV.out).mono ?_
  rintro e V2 ⟨⟨g1, rfl, hg, hlg⟩, hb⟩
  have hg1 := Lib.hid hg
  clear hg hlg
  replace HD := HD.trans (hb.mono HD.size)
  obtain ⟨hc, hf⟩ := bcell hb
  have hz := hb.size
  replace b00 := (hc _ 0 L0).trans b00
  replace FV := Lib.hid (FixAt.below FV.out hb)
  replace L0 := Nat.lt_of_lt_of_le L0 hz
  clear hc hf hz hb
  go_wp2_with fail
  refine (CS.out g1 V2 (FixBlk.at hg1.out)).mono ?_
  rintro e V3 ⟨⟨a8, cap8, rfl, ho⟩, hb⟩
  have own8 := Lib.hid ho
  clear ho
  have hDE8 := hb.size
  obtain ⟨D8, hD8⟩ : ∃ x, x = V2.heap.size := ⟨_, rfl⟩
  have U8 := Lib.hid (fun k (e : (Value.slice a8 L.length cap8).ownBlock = some k) => own8.out.lt k e)
  rw [← hD8] at own8 U8 hDE8
  replace HD := HD.trans (hb.mono HD.size)
  obtain ⟨hc, hf⟩ := bcell hb
  have hz := hb.size
  replace b00 := (hc _ 0 L0).trans b00
  replace FV := Lib.hid (FixAt.below FV.out hb)
  replace L0 := Nat.lt_of_lt_of_le L0 hz
  clear hc hf hz hb
  obtain ⟨E8, hE8⟩ : ∃ x, x = V3.heap.size := ⟨_, rfl⟩
  rw [← hE8] at U8 hDE8
  go_wp2_with fail
  obtain ⟨V4, hV4⟩ : ∃ x, x = V3.alloc (.cells #[.slice a8 L.length cap8] 29) := ⟨_, rfl⟩
  have hb : Below V3.heap.size V3 V4 := by subst hV4; exact (Below.refl _ _).alloc (Nat.le_refl _) _
  have k80 : V4.cell? ⟨V3.heap.size, 0, none⟩ = some (.slice a8 L.length cap8) := by subst hV4; simp [go_sem]
  have K8 : V3.heap.size < V4.heap.size := by subst hV4; simp
  rw [← hV4]
  clear hV4
  replace HD := HD.trans (hb.mono HD.size)
  obtain ⟨hc, hf⟩ := bcell hb
  have hz := hb.size
  replace b00 := (hc _ 0 L0).trans b00
  replace FV := Lib.hid (FixAt.below FV.out hb)
  replace own8 := Lib.hid (ownsRow_below own8.out hb)
  replace L0 := Nat.lt_of_lt_of_le L0 hz
  clear hc hf hz hb
  obtain ⟨C8, hC8⟩ : ∃ x, x = V3.heap.size := ⟨_, rfl⟩
  rw [← hC8] at k80 K8
  try rw [← hC8]
  replace hC8 := Lib.hid hC8
  rw [hE8.trans hC8.out.symm] at U8 hDE8
  clear hE8
  clear hD8
  refine (toTrack_c a0 cap0 l V4 hl1 FV.out).mono ?_
  rintro e V5 ⟨⟨g0, rfl, hg, hlg⟩, hb⟩
  have hG0 := Lib.hid hg
  have hg0 : C8 < g0 ∧ B0 < g0 ∧ w.heap.size ≤ g0 := ⟨by omega, by omega, by have := HD.size; omega⟩
  have hg1 := FixBlk.lt hg
  clear hg hlg
  replace HD := HD.trans (hb.mono HD.size)
  obtain ⟨hc, hf⟩ := bcell hb
  have hz := hb.size
  replace b00 := (hc _ 0 L0).trans b00
  replace k80 := (hc _ 0 K8).trans k80
  replace FV := Lib.hid (FixAt.below FV.out hb)
  replace own8 := Lib.hid (ownsRow_below own8.out hb)
  replace L0 := Nat.lt_of_lt_of_le L0 hz
  replace K8 := Nat.lt_of_lt_of_le K8 hz
  clear hc hf hz hb
  go_wp2_with fail
  obtain ⟨V6, hV6⟩ : ∃ x, x = V5.alloc (.cells #[.slice (some ⟨g0, 0, none⟩) l.length l.length] 29) := ⟨_, rfl⟩
  have hb : Below V5.heap.size V5 V6 := by subst hV6; exact (Below.refl _ _).alloc (Nat.le_refl _) _
  have k100 : V6.cell? ⟨V5.heap.size, 0, none⟩ = some (.slice (some ⟨g0, 0, none⟩) l.length l.length) := by subst hV6; simp [go_sem]
  have K10 : V5.heap.size < V6.heap.size := by subst hV6; simp
  rw [← hV6]
  clear hV6
  replace HD := HD.trans (hb.mono HD.size)
  obtain ⟨hc, hf⟩ := bcell hb
  have hz := hb.size
  replace b00 := (hc _ 0 L0).trans b00
  replace k80 := (hc _ 0 K8).trans k80
  replace FV := Lib.hid (FixAt.below FV.out hb)
  replace own8 := Lib.hid (ownsRow_below own8.out hb)
  replace hG0 := Lib.hid (FixBlk.below hG0.out hb)
  replace L0 := Nat.lt_of_lt_of_le L0 hz
  replace K8 := Nat.lt_of_lt_of_le K8 hz
  clear hc hf hz hb
  obtain ⟨C10, hC10⟩ : ∃ x, x = V5.heap.size := ⟨_, rfl⟩
  rw [← hC10] at k100 K10
  try rw [← hC10]
  replace hC10 := Lib.hid hC10
  have hg2 : g0 < C10 := by have := hC10.out; omega
  have hw6 : C10 < V6.heap.size ∧ C8 < V6.heap.size ∧ B0 < V6.heap.size ∧ g0 < V6.heap.size ∧ w.heap.size ≤ V6.heap.size := ⟨by omega, by omega, by omega, by omega, HD.size⟩
  refine (CI.out g0 V6 (FixBlk.at hG0.out)).mono ?_
  rintro e V7 ⟨⟨a11, cap11, rfl, ho⟩, hb⟩
  have own11 := Lib.hid ho
  clear ho
  have hDE11 := hb.size
  obtain ⟨D11, hD11⟩ : ∃ x, x = V6.heap.size := ⟨_, rfl⟩
  have U11 := Lib.hid (fun k (e : (Value.slice a11 L.length cap11).ownBlock = some k) => own11.out.lt k e)
  rw [← hD11] at own11 U11 hDE11
  replace HD := HD.trans (hb.mono HD.size)
  obtain ⟨hc, hf⟩ := bcell hb
  have hz := hb.size
  replace b00 := (hc _ 0 L0).trans b00
  replace k80 := (hc _ 0 K8).trans k80
  replace k100 := (hc _ 0 K10).trans k100
  replace FV := Lib.hid (FixAt.below FV.out hb)
  replace own8 := Lib.hid (ownsRow_below own8.out hb)
  replace hG0 := Lib.hid (FixBlk.below hG0.out hb)
  replace L0 := Nat.lt_of_lt_of_le L0 hz
  replace K8 := Nat.lt_of_lt_of_le K8 hz
  replace K10 := Nat.lt_of_lt_of_le K10 hz
  clear hc hf hz hb
  obtain ⟨E11, hE11⟩ : ∃ x, x = V7.heap.size := ⟨_, rfl⟩
  rw [← hE11] at U11 hDE11
  go_wp2_with fail
  rw [← hD11] at hw6
  clear hD11
  obtain ⟨V8, hV8⟩ : ∃ x, x = V7.alloc (.cells #[.slice a11 L.length cap11] 29) := ⟨_, rfl⟩
  have hb : Below V7.heap.size V7 V8 := by subst hV8; exact (Below.refl _ _).alloc (Nat.le_refl _) _
  have k110 : V8.cell? ⟨V7.heap.size, 0, none⟩ = some (.slice a11 L.length cap11) := by subst hV8; simp [go_sem]
  have K11 : V7.heap.size < V8.heap.size := by subst hV8; simp
  rw [← hV8]
  clear hV8
  replace HD := HD.trans (hb.mono HD.size)
  obtain ⟨hc, hf⟩ := bcell hb
  have hz := hb.size
  replace b00 := (hc _ 0 L0).trans b00
  replace k80 := (hc _ 0 K8).trans k80
  replace k100 := (hc _ 0 K10).trans k100
  replace FV := Lib.hid (FixAt.below FV.out hb)
  replace own8 := Lib.hid (ownsRow_below own8.out hb)
  replace hG0 := Lib.hid (FixBlk.below hG0.out hb)
  replace own11 := Lib.hid (ownsRow_below own11.out hb)
  replace L0 := Nat.lt_of_lt_of_le L0 hz
  replace K8 := Nat.lt_of_lt_of_le K8 hz
  replace K10 := Nat.lt_of_lt_of_le K10 hz
  clear hc hf hz hb
  obtain ⟨C11, hC11⟩ : ∃ x, x = V7.heap.size := ⟨_, rfl⟩
  rw [← hC11] at k110 K11
  try rw [← hC11]
  replace hC11 := Lib.hid hC11
  rw [hE11.trans hC11.out.symm] at U11 hDE11
  clear hE11
  refine (eqTrack_c a11 a8 cap11 cap8 L V8 hn3 (fixAt_own own11.out) (fixAt_own own8.out)).mono ?_
  rintro e V9 ⟨rfl, hb⟩
  replace HD := HD.trans (hb.mono HD.size)
  obtain ⟨hc, hf⟩ := bcell hb
  have hz := hb.size
  replace b00 := (hc _ 0 L0).trans b00
  replace k80 := (hc _ 0 K8).trans k80
  replace k100 := (hc _ 0 K10).trans k100
  replace k110 := (hc _ 0 K11).trans k110
  replace FV := Lib.hid (FixAt.below FV.out hb)
  replace own8 := Lib.hid (ownsRow_below own8.out hb)
  replace hG0 := Lib.hid (FixBlk.below hG0.out hb)
  replace own11 := Lib.hid (ownsRow_below own11.out hb)
  replace L0 := Nat.lt_of_lt_of_le L0 hz
  replace K8 := Nat.lt_of_lt_of_le K8 hz
  replace K10 := Nat.lt_of_lt_of_le K10 hz
  replace K11 := Nat.lt_of_lt_of_le K11 hz
  clear hc hf hz hb
  go_wp2_with fail
  go_cut [53] (fun s53 wx => s53 = .bool false ∧ Below V9.heap.size V9 wx)
  case first =>
    go_region_held3 (fun wx => Below V9.heap.size V9 wx ∧ ∀ b o, b < V9.heap.size → wx.cell? ⟨b, o, none⟩ = V9.cell? ⟨b, o, none⟩)
      (first | with_reducible exact held_step (by assumption) hb | with_reducible exact held_start _ _ | with_reducible exact held_begin _)
      (first | (go_at_call 17; refine (toTrack_c a0 cap0 l _ hl1 (FixAt.below FV.out (And.left (by with_reducible assumption)))).mono ?_; rintro e w1 ⟨⟨g, rfl, hg, hlg⟩, hb⟩; have hz := held_size (by with_reducible assumption) hb; (try simp at hz); have hs := hb.size; (try simp at hs)) | (go_at_call 19; refine (eqTrack_c _ _ _ _ l _ hl2 (FixAt.below (FixBlk.at hG0.out) (And.left (by with_reducible assumption))) (FixBlk.at (by assumption))).mono ?_; rintro e w1 ⟨rfl, hb⟩; have hz := held_size (by with_reducible assumption) hb; (try simp at hz); have hs := hb.size; (try simp at hs)))
    all_goals go_wp2_with fail
    all_goals (go_meet; exact ⟨rfl, And.left (by with_reducible assumption)⟩)
  case rest =>
    obtain ⟨rfl, hb⟩ := hcut
    obtain ⟨V10, rfl⟩ : ∃ x : World, x = wc := ⟨_, rfl⟩
    replace HD := HD.trans (hb.mono HD.size)
    obtain ⟨hc, hf⟩ := bcell hb
    have hz := hb.size
    replace b00 := (hc _ 0 L0).trans b00
    replace k80 := (hc _ 0 K8).trans k80
    replace k100 := (hc _ 0 K10).trans k100
    replace k110 := (hc _ 0 K11).trans k110
    replace FV := Lib.hid (FixAt.below FV.out hb)
    replace own8 := Lib.hid (ownsRow_below own8.out hb)
    replace hG0 := Lib.hid (FixBlk.below hG0.out hb)
    replace own11 := Lib.hid (ownsRow_below own11.out hb)
    replace L0 := Nat.lt_of_lt_of_le L0 hz
    replace K8 := Nat.lt_of_lt_of_le K8 hz
    replace K10 := Nat.lt_of_lt_of_le K10 hz
    replace K11 := Nat.lt_of_lt_of_le K11 hz
    clear hc hf hz hb
    go_wp2_with fail
    have cm := markTrack_c (some ⟨g0, 0, none⟩) l.length l.length 1 0 (flat l) V10 (by omega) (by omega) (by omega) (own_of_blk hG0.out (Nat.zero_le _) hl2)
    have hM : 0 ≤ 1 + ((l.length * 3 : Nat) : Int) := by omega
    generalize 1 + ((l.length * 3 : Nat) : Int) = M at *
    refine cm.mono ?_
    rintro e V11 ⟨rfl, hmk, hg⟩
    have hU : ∀ k, (Value.slice (some ⟨g0, 0, none⟩) l.length l.length).ownBlock = some k → k = g0 := by intro k e; simp [Value.ownBlock] at e; exact e.symm
    clear cm
    replace HD := HD.trans (grown_below hg HD.size (fun k e => by have := hU k e; have := HD.size; omega))
    replace b00 := hg.cell b00 (fun e => by have h1 := hU B0 e.symm; omega)
    replace k80 := hg.cell k80 (fun e => by have h1 := hU C8 e.symm; omega)
    replace k100 := hg.cell k100 (fun e => by have h1 := hU C10 e.symm; omega)
    replace k110 := hg.cell k110 (fun e => by have h1 := hU C11 e.symm; omega)
    replace FV := Lib.hid (FixAt.below hf0.out HD)
    replace own8 := Lib.hid (own_kept own8.out hg (fun k e e2 => by have := U8.out k e; have := hU k e2; omega))
    replace own11 := Lib.hid (own_kept own11.out hg (fun k e e2 => by have := U11.out k e; have := hU k e2; omega))
    replace L0 := Nat.lt_of_lt_of_le L0 hg.size
    replace K8 := Nat.lt_of_lt_of_le K8 hg.size
    replace K10 := Nat.lt_of_lt_of_le K10 hg.size
    replace K11 := Nat.lt_of_lt_of_le K11 hg.size
    clear hg
    clear hU hmk hG0
    go_wp2_with fail
    refine (eqTrack_c a11 a8 cap11 cap8 L V11 hn3 (fixAt_own own11.out) (fixAt_own own8.out)).mono ?_
    rintro e V12 ⟨rfl, hb⟩
    replace HD := HD.trans (hb.mono HD.size)
    obtain ⟨hc, hf⟩ := bcell hb
    have hz := hb.size
    replace b00 := (hc _ 0 L0).trans b00
    replace k80 := (hc _ 0 K8).trans k80
    replace k100 := (hc _ 0 K10).trans k100
    replace k110 := (hc _ 0 K11).trans k110
    replace FV := Lib.hid (FixAt.below FV.out hb)
    replace own8 := Lib.hid (ownsRow_below own8.out hb)
    replace own11 := Lib.hid (ownsRow_below own11.out hb)
    replace L0 := Nat.lt_of_lt_of_le L0 hz
    replace K8 := Nat.lt_of_lt_of_le K8 hz
    replace K10 := Nat.lt_of_lt_of_le K10 hz
    replace K11 := Nat.lt_of_lt_of_le K11 hz
    clear hc hf hz hb
    go_wp2_with fail
    have cm := markTrack_c a11 L.length cap11 1 D11 (flat L) V12 (by omega) (by omega) (by omega) own11.out
    have hN : 0 ≤ 1 + ((L.length * 3 : Nat) : Int) := by omega
    obtain ⟨N, hN0⟩ : ∃ N, 1 + ((L.length * 3 : Nat) : Int) = N := ⟨_, rfl⟩
    rw [hN0] at cm hN
    have hNN := Lib.hid hN0
    clear hN0
    refine cm.mono ?_
    rintro e V13 ⟨rfl, hmk, hg⟩
    have hU := U11.out
    clear cm
    replace HD := HD.trans (grown_below hg HD.size (fun k e => by have := hU k e; have := HD.size; omega))
    replace b00 := hg.cell b00 (fun e => by have h1 := hU B0 e.symm; omega)
    replace k80 := hg.cell k80 (fun e => by have h1 := hU C8 e.symm; omega)
    replace k100 := hg.cell k100 (fun e => by have h1 := hU C10 e.symm; omega)
    replace k110 := hg.cell k110 (fun e => by have h1 := hU C11 e.symm; omega)
    replace FV := Lib.hid (FixAt.below hf0.out HD)
    replace own8 := Lib.hid (own_kept own8.out hg (fun k e e2 => by have := U8.out k e; have := hU k e2; omega))
    replace L0 := Nat.lt_of_lt_of_le L0 hg.size
    replace K8 := Nat.lt_of_lt_of_le K8 hg.size
    replace K10 := Nat.lt_of_lt_of_le K10 hg.size
    replace K11 := Nat.lt_of_lt_of_le K11 hg.size
    clear hg
    replace own11 := Lib.hid hmk
    clear hU hmk
    go_wp2_with fail
    have ch := heldTrack_c a11 L.length cap11 1 D11 V13 (by omega) (by omega) (by omega) own11.out
    rw [hNN.out] at ch
    refine (ch).mono ?_
    rintro e V14 ⟨rfl, hb⟩
    clear ch
    replace HD := HD.trans (hb.mono HD.size)
    obtain ⟨hc, hf⟩ := bcell hb
    have hz := hb.size
    replace b00 := (hc _ 0 L0).trans b00
    replace k80 := (hc _ 0 K8).trans k80
    replace k100 := (hc _ 0 K10).trans k100
    replace k110 := (hc _ 0 K11).trans k110
    replace FV := Lib.hid (FixAt.below FV.out hb)
    replace own8 := Lib.hid (ownsRow_below own8.out hb)
    replace own11 := Lib.hid (ownsRow_below own11.out hb)
    replace L0 := Nat.lt_of_lt_of_le L0 hz
    replace K8 := Nat.lt_of_lt_of_le K8 hz
    replace K10 := Nat.lt_of_lt_of_le K10 hz
    replace K11 := Nat.lt_of_lt_of_le K11 hz
    clear hc hf hz hb
    go_wp2_with fail
    refine (toTrack_c a0 cap0 l V14 hl1 FV.out).mono ?_
    rintro e V15 ⟨⟨g2, rfl, hg, hlg⟩, hb⟩
    have hG2 := Lib.hid hg
    clear hg hlg
    replace HD := HD.trans (hb.mono HD.size)
    obtain ⟨hc, hf⟩ := bcell hb
    have hz := hb.size
    replace b00 := (hc _ 0 L0).trans b00
    replace k80 := (hc _ 0 K8).trans k80
    replace k100 := (hc _ 0 K10).trans k100
    replace k110 := (hc _ 0 K11).trans k110
    replace FV := Lib.hid (FixAt.below FV.out hb)
    replace own8 := Lib.hid (ownsRow_below own8.out hb)
    replace own11 := Lib.hid (ownsRow_below own11.out hb)
    replace L0 := Nat.lt_of_lt_of_le L0 hz
    replace K8 := Nat.lt_of_lt_of_le K8 hz
    replace K10 := Nat.lt_of_lt_of_le K10 hz
    replace K11 := Nat.lt_of_lt_of_le K11 hz
    clear hc hf hz hb
    go_wp2_with fail
    refine (CI.out g2 V15 (FixBlk.at hG2.out)).mono ?_
    rintro e V16 ⟨⟨a16, cap16, rfl, ho⟩, hb⟩
    have own16 := Lib.hid ho
    clear ho
    have hDE16 := hb.size
    obtain ⟨D16, hD16⟩ : ∃ x, x = V15.heap.size := ⟨_, rfl⟩
    have U16 := Lib.hid (fun k (e : (Value.slice a16 L.length cap16).ownBlock = some k) => own16.out.lt k e)
    rw [← hD16] at own16 U16 hDE16
    replace HD := HD.trans (hb.mono HD.size)
    obtain ⟨hc, hf⟩ := bcell hb
    have hz := hb.size
    replace b00 := (hc _ 0 L0).trans b00
    replace k80 := (hc _ 0 K8).trans k80
    replace k100 := (hc _ 0 K10).trans k100
    replace k110 := (hc _ 0 K11).trans k110
    replace FV := Lib.hid (FixAt.below FV.out hb)
    replace own8 := Lib.hid (ownsRow_below own8.out hb)
    replace own11 := Lib.hid (ownsRow_below own11.out hb)
    replace L0 := Nat.lt_of_lt_of_le L0 hz
    replace K8 := Nat.lt_of_lt_of_le K8 hz
    replace K10 := Nat.lt_of_lt_of_le K10 hz
    replace K11 := Nat.lt_of_lt_of_le K11 hz
    clear hc hf hz hb
    obtain ⟨E16, hE16⟩ : ∃ x, x = V16.heap.size := ⟨_, rfl⟩
    rw [← hE16] at U16 hDE16
    go_wp2_with fail
    clear U16 hD16 hE16 hG2
    obtain ⟨V17, hV17⟩ : ∃ x, x = V16.alloc (.cells #[.slice a16 L.length cap16] 29) := ⟨_, rfl⟩
    have hb : Below V16.heap.size V16 V17 := by subst hV17; exact (Below.refl _ _).alloc (Nat.le_refl _) _
    have k160 : V17.cell? ⟨V16.heap.size, 0, none⟩ = some (.slice a16 L.length cap16) := by subst hV17; simp [go_sem]
    have K16 : V16.heap.size < V17.heap.size := by subst hV17; simp
    rw [← hV17]
    clear hV17
    replace HD := HD.trans (hb.mono HD.size)
    obtain ⟨hc, hf⟩ := bcell hb
    have hz := hb.size
    replace b00 := (hc _ 0 L0).trans b00
    replace k80 := (hc _ 0 K8).trans k80
    replace k100 := (hc _ 0 K10).trans k100
    replace k110 := (hc _ 0 K11).trans k110
    replace FV := Lib.hid (FixAt.below FV.out hb)
    replace own8 := Lib.hid (ownsRow_below own8.out hb)
    replace own11 := Lib.hid (ownsRow_below own11.out hb)
    replace own16 := Lib.hid (ownsRow_below own16.out hb)
    replace L0 := Nat.lt_of_lt_of_le L0 hz
    replace K8 := Nat.lt_of_lt_of_le K8 hz
    replace K10 := Nat.lt_of_lt_of_le K10 hz
    replace K11 := Nat.lt_of_lt_of_le K11 hz
    clear hc hf hz hb
    obtain ⟨C16, hC16⟩ : ∃ x, x = V16.heap.size := ⟨_, rfl⟩
    rw [← hC16] at k160 K16
    try rw [← hC16]
    replace hC16 := Lib.hid hC16
    refine (eqTrack_c a16 a8 cap16 cap8 L V17 hn3 (fixAt_own own16.out) (fixAt_own own8.out)).mono ?_
    rintro e V18 ⟨rfl, hb⟩
    replace HD := HD.trans (hb.mono HD.size)
    obtain ⟨hc, hf⟩ := bcell hb
    have hz := hb.size
    replace b00 := (hc _ 0 L0).trans b00
    replace k80 := (hc _ 0 K8).trans k80
    replace k100 := (hc _ 0 K10).trans k100
    replace k110 := (hc _ 0 K11).trans k110
    replace k160 := (hc _ 0 K16).trans k160
    replace FV := Lib.hid (FixAt.below FV.out hb)
    replace own8 := Lib.hid (ownsRow_below own8.out hb)
    replace own11 := Lib.hid (ownsRow_below own11.out hb)
    replace own16 := Lib.hid (ownsRow_below own16.out hb)
    replace L0 := Nat.lt_of_lt_of_le L0 hz
    replace K8 := Nat.lt_of_lt_of_le K8 hz
    replace K10 := Nat.lt_of_lt_of_le K10 hz
    replace K11 := Nat.lt_of_lt_of_le K11 hz
    replace K16 := Nat.lt_of_lt_of_le K16 hz
    clear hc hf hz hb
    go_wp2_with fail
    have ch := heldTrack_c a11 L.length cap11 1 D11 V18 (by omega) (by omega) (by omega) own11.out
    rw [hNN.out] at ch
    refine (ch).mono ?_
    rintro e V19 ⟨rfl, hb⟩
    clear ch
    replace HD := HD.trans (hb.mono HD.size)
    obtain ⟨hc, hf⟩ := bcell hb
    have hz := hb.size
    replace b00 := (hc _ 0 L0).trans b00
    replace k80 := (hc _ 0 K8).trans k80
    replace k100 := (hc _ 0 K10).trans k100
    replace k110 := (hc _ 0 K11).trans k110
    replace k160 := (hc _ 0 K16).trans k160
    replace FV := Lib.hid (FixAt.below FV.out hb)
    replace own8 := Lib.hid (ownsRow_below own8.out hb)
    replace own11 := Lib.hid (ownsRow_below own11.out hb)
    replace own16 := Lib.hid (ownsRow_below own16.out hb)
    replace L0 := Nat.lt_of_lt_of_le L0 hz
    replace K8 := Nat.lt_of_lt_of_le K8 hz
    replace K10 := Nat.lt_of_lt_of_le K10 hz
    replace K11 := Nat.lt_of_lt_of_le K11 hz
    replace K16 := Nat.lt_of_lt_of_le K16 hz
    clear hc hf hz hb
    go_wp2_with fail
    go_ret
    exact ⟨rfl, HD⟩

theorem own : ownKnob Try.prog.godebug = none := by kernel_rfl
theorem laidOut : laidOutB Try.prog = true := by kernel_rfl
set_option maxRecDepth 100000 in
theorem lifted (os : Os) (started : os.Started) (H : Type) (enc : TypeId × Value → H) :
    ReturnsInHanded {} Try.checked os 11 .any (Rows.fnExactCutTrackSpec.pre6 enc Try.prog Try.f11 Rows.fnExactCutTrackRow.domain false) (Rows.fnExactCutTrackSpec.post enc Try.prog Try.f11 false true false false) := by
  refine returnsInHanded_of_change (C := Try.checked) own started (by kernel_rfl) Try.func11
    (ChangeSpec.witness6 (enc := enc) (C := Try.checked) false ⟨#[], #[.agg #[.slice none 0 0], .int .i64 0, .int .i64 0], []⟩ 8 (by kernel_rfl) (by kernel_rfl) (by kernel_rfl) (by kernel_rfl)) ?_
  intro W base args ds gs before hval0 hW hcnd _
  have hval : ∀ (j : Nat) t v, Try.f11.params[j]? = some t → args[j]? = some v → Value.okWide Try.prog W .any base t v := hval0
  have hW' := hW
  obtain ⟨p, q, hA0, hV, rfl, hfz, hnd⟩ := hW
  have hA : DataW.TrodAll enc Try.prog W 0 (fun _ => true) true Try.f11.params.toList args.toList ds p := hA0
  rw [Try.params11] at hA hval
  obtain ⟨v0, vs0, d0, ds0, p0, q0, hargs, rfl, rfl, h0, r0⟩ := trodAll_cons hA
  obtain ⟨v1, vs1, d1, ds1, p1, q1, rfl, rfl, rfl, h1, r1⟩ := trodAll_cons r0
  obtain ⟨v2, vs2, d2, ds2, p2, q2, rfl, rfl, rfl, h2, r2⟩ := trodAll_cons r1
  obtain ⟨rfl, rfl, rfl⟩ := trodAll_nil r2
  obtain rfl : args = #[v0, v1, v2] := by cases args; simp_all
  obtain ⟨rfl, rfl⟩ := trodVars_none hV
  have k0 := h0
  have lt0 : ∀ x ∈ p0, x.block < W.heap.size := by obtain ⟨m, hm⟩ := k0; exact DataW.trod_lt m _ _ _ hm
  obtain ⟨⟨a0, cap0⟩, l0, rfl, w0⟩ := open_track (n := 0) Try.underlying24 Try.underlying22 Try.underlying104 (by kernel_rfl) (by kernel_rfl) (by kernel_rfl) ⟨by kernel_rfl, by kernel_rfl⟩ (hval 0 24 v0 rfl rfl) h0
  obtain ⟨a1, rfl, rfl, rfl, w1⟩ := open_int Try.underlying2 (hval 1 2 v1 rfl rfl) h1
  obtain ⟨a2, rfl, rfl, rfl, w2⟩ := open_int Try.underlying2 (hval 2 2 v2 rfl rfl) h2
  clear hA0 hval0
  refine (walk a0 cap0 l0 a1 a2 W w0 w1 w2).mono fun e W' ⟨he, bel⟩ => ?_
  subst he
  exact ⟨_, rfl, _, _, _, [], _, [], hW', trodAll_mk1 (shut_bool Try.underlying4 _), (trodAll_cons_mk (Below.trod laidOut (by kernel_rfl) (of_decide_eq_true (by kernel_rfl)) k0 bel lt0) (trodAll_cons_mk (shut_int Try.underlying2 w1) (trodAll_cons_mk (shut_int Try.underlying2 w2) trodAll_mk0))), rfl, bel.frame _, fun h => by cases h⟩

theorem over : Rows.fnExactCutTrackRow.holds Try.pinned (OpenSpec.ofChange Rows.fnExactCutTrackSpec) :=
  OpenClaim.holds_of_wide 11 Try.f11 rfl rfl rfl rfl rfl rfl rfl ⟨rfl, rfl, rfl, rfl, rfl⟩ rfl rfl rfl rfl rfl (by kernel_rfl) Try.func11 (by kernel_rfl)
    (of_decide_eq_true (by kernel_rfl)) (by unfold Func.isWrapper; first | (rw [if_pos (by decide +kernel)]; kernel_rfl) | (rw [if_neg (by decide +kernel)]; exact ⟨rfl, rfl⟩))
    (fun os started H enc _ => lifted os started H enc)

/-- The statement. -/
theorem proved : Rows.FnExactCutTrackSaid := over
end Go.Proofs.Ytdgmadpkhdfapaa.cutTrack
