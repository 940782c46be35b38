/-
  Counting the crossings of a line, and the first of them: the program's and the reference's. Conditions: the cells lie in the world.
-/
import Derived.Test.YtdepdkpehbkcjaaL05g
namespace Go.Proofs.Ytdepdkpehbkcjaa
set_option linter.unusedVariables false
open Go.RowKit Go.Deep

def cntF (L : List Cr) : Nat → Nat
  | 0 => 0
  | k + 1 => if 0 < (cr L k).way then cntF L k + 1 else cntF L k
theorem cntF_le (L : List Cr) : ∀ k, cntF L k ≤ k
  | 0 => Nat.le_refl _
  | k + 1 => by
    have := cntF_le L k
    unfold cntF
    split <;> omega
theorem cntF_yes {L : List Cr} {k : Nat} (h : 0 < (cr L k).way) : cntF L (k + 1) = cntF L k + 1 := by rw [cntF, if_pos h]
theorem cntF_no {L : List Cr} {k : Nat} (h : ¬ 0 < (cr L k).way) : cntF L (k + 1) = cntF L k := by rw [cntF, if_neg h]
def crL (l : List Fx) (ax ay bx cy : Int) : List Cr := crs l ax ay bx cy (l.length - 1)
theorem crL_len {l : List Fx} {ax ay bx cy : Int} (h : isTrk l = true) : (crL l ax ay bx cy).length ≤ 39 := by
  have h1 := crs_len l ax ay bx cy (l.length - 1)
  have h2 := (isTrk_true h).2.1
  unfold crL; omega
def countR (l : List Fx) (ax ay bx cy : Int) : Int × Int × Int := if isTrk l = true ∧ isSeg ax ay bx cy = true then ((cntF (crL l ax ay bx cy) (crL l ax ay bx cy).length : Nat), ((crL l ax ay bx cy).length : Int) - (cntF (crL l ax ay bx cy) (crL l ax ay bx cy).length : Nat), 0) else (0, 0, 1)
theorem row_cell {w : World} {g k : Nat} {L : List Cr} (h : RowAt w (some ⟨g, 0, none⟩) (crFlat L)) (hk : k < L.length) : w.cell? ⟨g, k * 5, none⟩ = some (.int .i64 (cr L k).t) ∧ w.cell? ⟨g, k * 5 + 1, none⟩ = some (.int .i64 (cr L k).leg) ∧ w.cell? ⟨g, k * 5 + 2, none⟩ = some (.int .i64 (cr L k).way) ∧ w.cell? ⟨g, k * 5 + 3, none⟩ = some (.int .i64 (cr L k).num) ∧ w.cell? ⟨g, k * 5 + 4, none⟩ = some (.int .i64 (cr L k).den) := by
  obtain ⟨f0, f1, f2, f3, f4⟩ := crFlat_get L k _ (cr_of hk)
  have key : ∀ i v, (crFlat L)[i]? = some v → w.cell? ⟨g, i, none⟩ = some v := fun i v hv => by
    obtain ⟨b, off, ha, _, h0⟩ := h i v hv
    simp at ha
    obtain ⟨rfl, rfl⟩ := ha
    rwa [Nat.zero_add] at h0
  exact ⟨key _ _ f0, key _ _ f1, key _ _ f2, key _ _ f3, key _ _ f4⟩
set_option maxRecDepth 100000 in
set_option maxHeartbeats 1000000 in
theorem CountCrossings_c (a : Option Addr) (cap : Nat) (l : List Fx) (ax ay bx cy : Int) (w : World) (hl : l.length ≤ 4611686018427387904) (hf : FixAt w a l) : Calls Try.prog 34 #[.agg #[.slice a l.length cap], .agg #[.int .i64 ax, .int .i64 ay, .int .i64 bx, .int .i64 cy]] w fun e w' => e = .returned (.tuple #[.int .i64 (countR l ax ay bx cy).1, .int .i64 (countR l ax ay bx cy).2.1, .int .i64 (countR l ax ay bx cy).2.2]) ∧ Below w.heap.size w w' := by
  have hF0 := Lib.hid hf
  clear hf
  go_enter Try.func34, Try.ntmps34
  go_wp2_with fail
  obtain ⟨W, hW⟩ : ∃ W, W = ((w.alloc (.cells #[.slice a l.length cap] 26)).alloc (.cells #[.int .i64 ax, .int .i64 ay, .int .i64 bx, .int .i64 cy] 66)) := ⟨_, rfl⟩
  have HD : Below w.heap.size w W := by subst hW; exact (by repeat (first | with_reducible exact Below.refl _ _ | with_reducible assumption | with_reducible refine Below.drew ?_ | with_reducible refine Below.alloc ?_ (by first | exact Nat.le_refl _ | (simp; done) | (simp; omega) | omega) _ | with_reducible refine Below.setCell ?_ (by first | exact Nat.le_refl _ | (simp; done) | (simp; omega) | omega) _ | with_reducible refine Below.trans ?_ (Below.mono (by with_reducible assumption) (by first | exact Nat.le_refl _ | (simp; done) | (simp; omega) | omega))))
  have b00 : W.cell? ⟨w.heap.size, 0, none⟩ = some (.slice a l.length cap) := by subst hW; simp [go_sem]
  have L0 : w.heap.size < W.heap.size := by subst hW; first | (simp; done) | (simp; omega)
  have b10 : W.cell? ⟨w.heap.size + 1, 0, none⟩ = some (.int .i64 ax) := by subst hW; simp [go_sem]
  have b11 : W.cell? ⟨w.heap.size + 1, 1, none⟩ = some (.int .i64 ay) := by subst hW; simp [go_sem]
  have b12 : W.cell? ⟨w.heap.size + 1, 2, none⟩ = some (.int .i64 bx) := by subst hW; simp [go_sem]
  have b13 : W.cell? ⟨w.heap.size + 1, 3, none⟩ = some (.int .i64 cy) := by subst hW; simp [go_sem]
  have L1 : w.heap.size + 1 < W.heap.size := by subst hW; first | (simp; done) | (simp; omega)
  rw [← hW]
  clear hW
  generalize w.heap.size + 1 = B1 at *
  obtain ⟨B0, hB0⟩ : ∃ B, B = w.heap.size := ⟨_, rfl⟩
  rw [← hB0] at b00 L0
  try rw [← hB0]
  replace hB0 := Lib.hid hB0
  have FV := Lib.hid (FixAt.below hF0.out HD)
  by_cases e : isTrk l = true ∧ isSeg ax ay bx cy = true
  case neg =>
    have HF := Lib.hid (show countR l ax ay bx cy = (0, 0, 1) by simp only [countR, if_neg e])
    have cc := lineCode_c a cap l ax ay bx cy W hl FV.out
    rw [if_neg e] at cc
    clear e
    refine (cc).mono ?_
    rintro e V1 ⟨rfl, hb⟩
    clear cc
    replace HD := HD.trans (hb.mono HD.size)
    obtain ⟨hc, hf⟩ := bcell hb
    have hz := hb.size
    replace b00 := (hc _ 0 L0).trans b00
    replace b10 := (hc _ 0 L1).trans b10
    replace b11 := (hc _ 1 L1).trans b11
    replace b12 := (hc _ 2 L1).trans b12
    replace b13 := (hc _ 3 L1).trans b13
    replace FV := Lib.hid (FixAt.below FV.out hb)
    replace L0 := Nat.lt_of_lt_of_le L0 hz
    replace L1 := Nat.lt_of_lt_of_le L1 hz
    clear hc hf hz hb
    go_wp2_with fail
    exact bodyPost_ret (v := .tuple #[.int .i64 0, .int .i64 0, .int .i64 1]) (by simp [results, Try.results34, go_sem]) rfl ⟨by rw [HF.out], HD⟩
  have cc := lineCode_c a cap l ax ay bx cy W hl FV.out
  rw [if_pos e] at cc
  obtain ⟨e1, es⟩ := e
  refine (cc).mono ?_
  rintro e V1 ⟨rfl, hb⟩
  clear cc
  replace HD := HD.trans (hb.mono HD.size)
  obtain ⟨hc, hf⟩ := bcell hb
  have hz := hb.size
  replace b00 := (hc _ 0 L0).trans b00
  replace b10 := (hc _ 0 L1).trans b10
  replace b11 := (hc _ 1 L1).trans b11
  replace b12 := (hc _ 2 L1).trans b12
  replace b13 := (hc _ 3 L1).trans b13
  replace FV := Lib.hid (FixAt.below FV.out hb)
  replace L0 := Nat.lt_of_lt_of_le L0 hz
  replace L1 := Nat.lt_of_lt_of_le L1 hz
  clear hc hf hz hb
  go_wp2_with fail
  have HF := Lib.hid (show countR l ax ay bx cy = (((cntF (crL l ax ay bx cy) (crL l ax ay bx cy).length : Nat) : Int), ((crL l ax ay bx cy).length : Int) - (cntF (crL l ax ay bx cy) (crL l ax ay bx cy).length : Nat), 0) by simp [countR, e1, es])
  have cc := crossingsOf_c a cap l ax ay bx cy V1 hl e1 es FV.out
  rw [show crs l ax ay bx cy (l.length - 1) = crL l ax ay bx cy from rfl] at cc
  have hn39 := crL_len (l := l) (ax := ax) (ay := ay) (bx := bx) (cy := cy) e1
  generalize crL l ax ay bx cy = L at *
  refine cc.mono ?_
  rintro e V2 ⟨⟨g, cp, rfl, ho, hgg⟩, hb⟩
  have RW := Lib.hid (rowAt_own ho)
  clear ho cc hgg
  replace HD := HD.trans (hb.mono HD.size)
  obtain ⟨hc, hf⟩ := bcell hb
  have hz := hb.size
  replace b00 := (hc _ 0 L0).trans b00
  replace b10 := (hc _ 0 L1).trans b10
  replace b11 := (hc _ 1 L1).trans b11
  replace b12 := (hc _ 2 L1).trans b12
  replace b13 := (hc _ 3 L1).trans b13
  replace FV := Lib.hid (FixAt.below FV.out hb)
  replace L0 := Nat.lt_of_lt_of_le L0 hz
  replace L1 := Nat.lt_of_lt_of_le L1 hz
  clear hc hf hz hb
  go_wp2_with fail
  go_loopw [8, 9, 22] (fun x y i wr => ∃ (k c d : Nat), x = .int .i64 c ∧ y = .int .i64 d ∧ i = .int .i64 k ∧ k ≤ L.length ∧ Hid (c = cntF L k) ∧ Hid (c + d = k) ∧ c ≤ k ∧ d ≤ k ∧ Below V2.heap.size V2 wr) (fun _ _ i _ => L.length - (intOf i).toNat)
  case atStart => exact ⟨0, 0, 0, rfl, rfl, rfl, Nat.zero_le _, Lib.hid rfl, Lib.hid rfl, Nat.le_refl _, Nat.le_refl _, Below.refl _ _⟩
  case round =>
    obtain ⟨k, c, d, rfl, rfl, rfl, hk, hc, hcd, hck, hdk, hbl⟩ := hrel
    have hz := hbl.size
    by_cases h : k < L.length
    · obtain ⟨r0, r1, r2, r3, r4⟩ := row_cell (RW.out.below hbl) h
      have h' : (k : Int) < (L.length : Int) := by omega
      by_cases hw : 0 < (cr L k).way
      · have hy := Lib.hid (cntF_yes hw)
        generalize cr L k = x at *
        go_wp2
        exact ⟨⟨k + 1, c + 1, d, by simp, rfl, by simp, by omega, Lib.hid (by rw [hy.out, hc.out]), Lib.hid (by have := hcd.out; omega), by omega, by omega, (by repeat (first | with_reducible exact Below.refl _ _ | with_reducible assumption | with_reducible refine Below.drew ?_ | with_reducible refine Below.alloc ?_ (by first | exact Nat.le_refl _ | (simp; done) | (simp; omega) | omega) _ | with_reducible refine Below.setCell ?_ (by first | exact Nat.le_refl _ | (simp; done) | (simp; omega) | omega) _ | with_reducible refine Below.trans ?_ (Below.mono (by with_reducible assumption) (by first | exact Nat.le_refl _ | (simp; done) | (simp; omega) | omega))))⟩, by simp [intOf]; omega⟩
      · have hy := Lib.hid (cntF_no hw)
        generalize cr L k = x at *
        go_wp2
        exact ⟨⟨k + 1, c, d + 1, rfl, by simp, by simp, by omega, Lib.hid (by rw [hy.out, hc.out]), Lib.hid (by have := hcd.out; omega), by omega, by omega, (by repeat (first | with_reducible exact Below.refl _ _ | with_reducible assumption | with_reducible refine Below.drew ?_ | with_reducible refine Below.alloc ?_ (by first | exact Nat.le_refl _ | (simp; done) | (simp; omega) | omega) _ | with_reducible refine Below.setCell ?_ (by first | exact Nat.le_refl _ | (simp; done) | (simp; omega) | omega) _ | with_reducible refine Below.trans ?_ (Below.mono (by with_reducible assumption) (by first | exact Nat.le_refl _ | (simp; done) | (simp; omega) | omega))))⟩, by simp [intOf]; omega⟩
    · have h' : (L.length : Int) ≤ (k : Int) := by omega
      have hkl := Lib.hid (show k = L.length by omega)
      go_wp2
      refine bodyPost_ret (v := .tuple #[.int .i64 c, .int .i64 d, .int .i64 0]) (by simp [results, Try.results34, go_sem]) rfl ⟨?_, HD.trans (hbl.mono HD.size)⟩
      rw [HF.out, ← hkl.out, ← hc.out]
      have e : (d : Int) = (k : Int) - (c : Int) := by have := hcd.out; omega
      rw [e]
set_option maxRecDepth 100000 in
set_option maxHeartbeats 1000000 in
theorem CountCrossingsS_c (a : Option Addr) (cap : Nat) (l : List Fx) (ax ay bx cy : Int) (w : World) (hl : l.length ≤ 4611686018427387904) (hf : FixAt w a l) : Calls Try.prog 32 #[.agg #[.slice a l.length cap], .agg #[.int .i64 ax, .int .i64 ay, .int .i64 bx, .int .i64 cy]] w fun e w' => e = .returned (.tuple #[.int .i64 (countR l ax ay bx cy).1, .int .i64 (countR l ax ay bx cy).2.1, .int .i64 (countR l ax ay bx cy).2.2]) ∧ Below w.heap.size w w' := by
  have hF0 := Lib.hid hf
  clear hf
  go_enter Try.func32, Try.ntmps32
  go_wp2_with fail
  obtain ⟨W, hW⟩ : ∃ W, W = ((w.alloc (.cells #[.slice a l.length cap] 26)).alloc (.cells #[.int .i64 ax, .int .i64 ay, .int .i64 bx, .int .i64 cy] 66)) := ⟨_, rfl⟩
  have HD : Below w.heap.size w W := by subst hW; exact (by repeat (first | with_reducible exact Below.refl _ _ | with_reducible assumption | with_reducible refine Below.drew ?_ | with_reducible refine Below.alloc ?_ (by first | exact Nat.le_refl _ | (simp; done) | (simp; omega) | omega) _ | with_reducible refine Below.setCell ?_ (by first | exact Nat.le_refl _ | (simp; done) | (simp; omega) | omega) _ | with_reducible refine Below.trans ?_ (Below.mono (by with_reducible assumption) (by first | exact Nat.le_refl _ | (simp; done) | (simp; omega) | omega))))
  have b00 : W.cell? ⟨w.heap.size, 0, none⟩ = some (.slice a l.length cap) := by subst hW; simp [go_sem]
  have L0 : w.heap.size < W.heap.size := by subst hW; first | (simp; done) | (simp; omega)
  have b10 : W.cell? ⟨w.heap.size + 1, 0, none⟩ = some (.int .i64 ax) := by subst hW; simp [go_sem]
  have b11 : W.cell? ⟨w.heap.size + 1, 1, none⟩ = some (.int .i64 ay) := by subst hW; simp [go_sem]
  have b12 : W.cell? ⟨w.heap.size + 1, 2, none⟩ = some (.int .i64 bx) := by subst hW; simp [go_sem]
  have b13 : W.cell? ⟨w.heap.size + 1, 3, none⟩ = some (.int .i64 cy) := by subst hW; simp [go_sem]
  have L1 : w.heap.size + 1 < W.heap.size := by subst hW; first | (simp; done) | (simp; omega)
  rw [← hW]
  clear hW
  generalize w.heap.size + 1 = B1 at *
  obtain ⟨B0, hB0⟩ : ∃ B, B = w.heap.size := ⟨_, rfl⟩
  rw [← hB0] at b00 L0
  try rw [← hB0]
  replace hB0 := Lib.hid hB0
  have FV := Lib.hid (FixAt.below hF0.out HD)
  cases e1 : isTrk l
  case false =>
    have HF := Lib.hid (show countR l ax ay bx cy = (0, 0, 1) by simp [countR, e1])
    have cc := IsTrackS_c a cap l W hl FV.out
    rw [e1] at cc
    refine (cc).mono ?_
    rintro e V1 ⟨rfl, hb⟩
    clear cc
    replace HD := HD.trans (hb.mono HD.size)
    obtain ⟨hc, hf⟩ := bcell hb
    have hz := hb.size
    replace b00 := (hc _ 0 L0).trans b00
    replace b10 := (hc _ 0 L1).trans b10
    replace b11 := (hc _ 1 L1).trans b11
    replace b12 := (hc _ 2 L1).trans b12
    replace b13 := (hc _ 3 L1).trans b13
    replace FV := Lib.hid (FixAt.below FV.out hb)
    replace L0 := Nat.lt_of_lt_of_le L0 hz
    replace L1 := Nat.lt_of_lt_of_le L1 hz
    clear hc hf hz hb
    go_wp2_with fail
    exact bodyPost_ret (v := .tuple #[.int .i64 0, .int .i64 0, .int .i64 1]) (by simp [results, Try.results32, go_sem]) rfl ⟨by rw [HF.out], HD⟩
  have cc := IsTrackS_c a cap l W hl FV.out
  rw [e1] at cc
  refine (cc).mono ?_
  rintro e V0 ⟨rfl, hb⟩
  clear cc
  replace HD := HD.trans (hb.mono HD.size)
  obtain ⟨hc, hf⟩ := bcell hb
  have hz := hb.size
  replace b00 := (hc _ 0 L0).trans b00
  replace b10 := (hc _ 0 L1).trans b10
  replace b11 := (hc _ 1 L1).trans b11
  replace b12 := (hc _ 2 L1).trans b12
  replace b13 := (hc _ 3 L1).trans b13
  replace FV := Lib.hid (FixAt.below FV.out hb)
  replace L0 := Nat.lt_of_lt_of_le L0 hz
  replace L1 := Nat.lt_of_lt_of_le L1 hz
  clear hc hf hz hb
  go_wp2_with fail
  cases es : isSeg ax ay bx cy
  case false =>
    have HF := Lib.hid (show countR l ax ay bx cy = (0, 0, 1) by simp [countR, e1, es])
    have cc := isLineS_c ax ay bx cy V0
    rw [es] at cc
    refine (cc).mono ?_
    rintro e V1 ⟨rfl, hb⟩
    clear cc
    replace HD := HD.trans (hb.mono HD.size)
    obtain ⟨hc, hf⟩ := bcell hb
    have hz := hb.size
    replace b00 := (hc _ 0 L0).trans b00
    replace b10 := (hc _ 0 L1).trans b10
    replace b11 := (hc _ 1 L1).trans b11
    replace b12 := (hc _ 2 L1).trans b12
    replace b13 := (hc _ 3 L1).trans b13
    replace FV := Lib.hid (FixAt.below FV.out hb)
    replace L0 := Nat.lt_of_lt_of_le L0 hz
    replace L1 := Nat.lt_of_lt_of_le L1 hz
    clear hc hf hz hb
    go_wp2_with fail
    exact bodyPost_ret (v := .tuple #[.int .i64 0, .int .i64 0, .int .i64 1]) (by simp [results, Try.results32, go_sem]) rfl ⟨by rw [HF.out], HD⟩
  have cc := isLineS_c ax ay bx cy V0
  rw [es] at cc
  refine (cc).mono ?_
  rintro e V1 ⟨rfl, hb⟩
  clear cc
  replace HD := HD.trans (hb.mono HD.size)
  obtain ⟨hc, hf⟩ := bcell hb
  have hz := hb.size
  replace b00 := (hc _ 0 L0).trans b00
  replace b10 := (hc _ 0 L1).trans b10
  replace b11 := (hc _ 1 L1).trans b11
  replace b12 := (hc _ 2 L1).trans b12
  replace b13 := (hc _ 3 L1).trans b13
  replace FV := Lib.hid (FixAt.below FV.out hb)
  replace L0 := Nat.lt_of_lt_of_le L0 hz
  replace L1 := Nat.lt_of_lt_of_le L1 hz
  clear hc hf hz hb
  go_wp2_with fail
  have HF := Lib.hid (show countR l ax ay bx cy = (((cntF (crL l ax ay bx cy) (crL l ax ay bx cy).length : Nat) : Int), ((crL l ax ay bx cy).length : Int) - (cntF (crL l ax ay bx cy) (crL l ax ay bx cy).length : Nat), 0) by simp [countR, e1, es])
  have cc := l05Crossings_c a cap l ax ay bx cy V1 hl e1 es FV.out
  rw [show crs l ax ay bx cy (l.length - 1) = crL l ax ay bx cy from rfl] at cc
  have hn39 := crL_len (l := l) (ax := ax) (ay := ay) (bx := bx) (cy := cy) e1
  generalize crL l ax ay bx cy = L at *
  refine cc.mono ?_
  rintro e V2 ⟨⟨g, cp, rfl, ho, hgg⟩, hb⟩
  have RW := Lib.hid (rowAt_own ho)
  clear ho cc hgg
  replace HD := HD.trans (hb.mono HD.size)
  obtain ⟨hc, hf⟩ := bcell hb
  have hz := hb.size
  replace b00 := (hc _ 0 L0).trans b00
  replace b10 := (hc _ 0 L1).trans b10
  replace b11 := (hc _ 1 L1).trans b11
  replace b12 := (hc _ 2 L1).trans b12
  replace b13 := (hc _ 3 L1).trans b13
  replace FV := Lib.hid (FixAt.below FV.out hb)
  replace L0 := Nat.lt_of_lt_of_le L0 hz
  replace L1 := Nat.lt_of_lt_of_le L1 hz
  clear hc hf hz hb
  go_wp2_with fail
  go_loopw [8, 9] (fun x i wr => ∃ (k c : Nat), x = .int .i64 c ∧ i = .int .i64 k ∧ k ≤ L.length ∧ Hid (c = cntF L k) ∧ c ≤ k ∧ V2 = wr) (fun _ i _ => L.length - (intOf i).toNat)
  case atStart => exact ⟨0, 0, rfl, rfl, Nat.zero_le _, Lib.hid rfl, Nat.le_refl _, rfl⟩
  case round =>
    obtain ⟨k, c, rfl, rfl, hk, hc, hck, rfl⟩ := hrel
    by_cases h : k < L.length
    · obtain ⟨r0, r1, r2, r3, r4⟩ := row_cell RW.out h
      have h' : (k : Int) < (L.length : Int) := by omega
      by_cases hw : 0 < (cr L k).way
      · have hy := Lib.hid (cntF_yes hw)
        generalize cr L k = x at *
        go_wp2
        exact ⟨⟨k + 1, c + 1, by simp, by simp, by omega, Lib.hid (by rw [hy.out, hc.out]), by omega, by trivial⟩, by simp [intOf]; omega⟩
      · have hy := Lib.hid (cntF_no hw)
        generalize cr L k = x at *
        go_wp2
        exact ⟨⟨k + 1, c, rfl, by simp, by omega, Lib.hid (by rw [hy.out, hc.out]), by omega, by trivial⟩, by simp [intOf]; omega⟩
    · have h' : (L.length : Int) ≤ (k : Int) := by omega
      have hkl := Lib.hid (show k = L.length by omega)
      go_wp2
      refine bodyPost_ret (v := .tuple #[.int .i64 c, .int .i64 ((L.length : Int) - (c : Int)), .int .i64 0]) (by simp [results, Try.results32, go_sem]) rfl ⟨?_, HD⟩
      rw [HF.out, ← hkl.out, ← hc.out]
end Go.Proofs.Ytdepdkpehbkcjaa
