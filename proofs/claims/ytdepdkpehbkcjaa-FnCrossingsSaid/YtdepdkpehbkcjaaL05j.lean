/-
  The point of a crossing: the program's and the reference's. Conditions: the cells lie in the world.
-/
import Derived.Test.YtdepdkpehbkcjaaL05h
import Derived.Test.YtdepdkpehbkcjaaL02p
namespace Go.Proofs.Ytdepdkpehbkcjaa
set_option linter.unusedVariables false
open Go.RowKit Go.Deep

theorem crs_mem {l : List Fx} {ax ay bx cy : Int} : ∀ {K i : Nat}, i < (crs l ax ay bx cy K).length → ∃ k, k < K ∧ wayL l ax ay bx cy k ≠ 0 ∧ cr (crs l ax ay bx cy K) i = crOf l ax ay bx cy k
  | 0, i, h => by simp [crs] at h
  | K + 1, i, h => by
    by_cases hw : wayL l ax ay bx cy K = 0
    · rw [crs_no hw] at h ⊢
      obtain ⟨k, h1, h2, h3⟩ := crs_mem h
      exact ⟨k, by omega, h2, h3⟩
    · rw [crs_yes hw] at h ⊢
      by_cases hi : i < (crs l ax ay bx cy K).length
      · obtain ⟨k, h1, h2, h3⟩ := crs_mem hi
        refine ⟨k, by omega, h2, ?_⟩
        rw [← h3]
        unfold cr
        rw [List.getD_eq_getElem?_getD, List.getD_eq_getElem?_getD, List.getElem?_append_left hi]
      · have e : i = (crs l ax ay bx cy K).length := by simp at h; omega
        refine ⟨K, by omega, hw, ?_⟩
        subst e
        unfold cr
        rw [List.getD_eq_getElem?_getD, List.getElem?_append_right (Nat.le_refl _)]
        simp
theorem crL_mem {l : List Fx} {ax ay bx cy : Int} (hT : isTrk l = true) (es : isSeg ax ay bx cy = true) {i : Nat} (h : i < (crL l ax ay bx cy).length) : ∃ k : Nat, k + 1 < l.length ∧ (cr (crL l ax ay bx cy) i).leg = (k : Int) ∧ placeOK (cr (crL l ax ay bx cy) i).num (cr (crL l ax ay bx cy) i).den = true := by
  obtain ⟨hA, hB, _⟩ := isSeg_true es
  unfold crL at h ⊢
  obtain ⟨k, h1, h2, h3⟩ := crs_mem h
  have h4 : k + 1 < l.length := by omega
  obtain ⟨_, _, n0, n1, n2, n3⟩ := cr_facts hT hA hB h4 h2
  rw [h3]
  refine ⟨k, h4, rfl, ?_⟩
  unfold crOf placeOK
  simp only [Bool.and_eq_true]
  exact ⟨inR_mk n2 (by omega), inR_mk n0 n1⟩
def crPtR (l : List Fx) (ax ay bx cy j : Int) : Int × Int × Int := if isTrk l = true ∧ isSeg ax ay bx cy = true then (if inR j 0 (((crL l ax ay bx cy).length : Int) - 1) = true then (atZ (fx l (cr (crL l ax ay bx cy) j.toNat).leg.toNat).x (fx l ((cr (crL l ax ay bx cy) j.toNat).leg.toNat + 1)).x (cr (crL l ax ay bx cy) j.toNat).num (cr (crL l ax ay bx cy) j.toNat).den, atZ (fx l (cr (crL l ax ay bx cy) j.toNat).leg.toNat).y (fx l ((cr (crL l ax ay bx cy) j.toNat).leg.toNat + 1)).y (cr (crL l ax ay bx cy) j.toNat).num (cr (crL l ax ay bx cy) j.toNat).den, 0) else (0, 0, 4)) else (0, 0, 1)
theorem row_lt {w : World} {g k : Nat} {L : List Cr} (h : RowAt w (some ⟨g, 0, none⟩) (crFlat L)) (hk : k < L.length) : g < w.heap.size := by
  obtain ⟨b, off, ha, hlt, _⟩ := h.head (by rw [crFlat_length]; omega)
  simp at ha
  obtain ⟨rfl, rfl⟩ := ha
  exact hlt
set_option maxRecDepth 100000 in
set_option maxHeartbeats 2000000 in
theorem CrossingPoint_c (a : Option Addr) (cap : Nat) (l : List Fx) (ax ay bx cy : Int) (j : Int) (w : World) (hl : l.length ≤ 4611686018427387904) (hf : FixAt w a l) : Calls Try.prog 36 #[.agg #[.slice a l.length cap], .agg #[.int .i64 ax, .int .i64 ay, .int .i64 bx, .int .i64 cy], .int .i64 j] w fun e w' => e = .returned (.tuple #[.agg #[.int .i64 (crPtR l ax ay bx cy j).1, .int .i64 (crPtR l ax ay bx cy j).2.1], .int .i64 (crPtR l ax ay bx cy j).2.2]) ∧ Below w.heap.size w w' := by
  have hF0 := Lib.hid hf
  clear hf
  go_enter Try.func36, Try.ntmps36
  go_wp2_with fail
  obtain ⟨W, hW⟩ : ∃ W, W = (((w.alloc (.cells #[.slice a l.length cap] 26)).alloc (.cells #[.int .i64 ax, .int .i64 ay, .int .i64 bx, .int .i64 cy] 66)).alloc (.cells #[.int .i64 0, .int .i64 0] 35)) := ⟨_, rfl⟩
  have HD : Below w.heap.size w W := by subst hW; exact (by repeat (first | with_reducible exact Below.refl _ _ | with_reducible assumption | with_reducible refine Below.drew ?_ | with_reducible refine Below.alloc ?_ (by first | exact Nat.le_refl _ | (simp; done) | (simp; omega) | omega) _ | with_reducible refine Below.setCell ?_ (by first | exact Nat.le_refl _ | (simp; done) | (simp; omega) | omega) _ | with_reducible refine Below.trans ?_ (Below.mono (by with_reducible assumption) (by first | exact Nat.le_refl _ | (simp; done) | (simp; omega) | omega))))
  have b00 : W.cell? ⟨w.heap.size, 0, none⟩ = some (.slice a l.length cap) := by subst hW; simp [go_sem]
  have L0 : w.heap.size < W.heap.size := by subst hW; first | (simp; done) | (simp; omega)
  have b10 : W.cell? ⟨w.heap.size + 1, 0, none⟩ = some (.int .i64 ax) := by subst hW; simp [go_sem]
  have b11 : W.cell? ⟨w.heap.size + 1, 1, none⟩ = some (.int .i64 ay) := by subst hW; simp [go_sem]
  have b12 : W.cell? ⟨w.heap.size + 1, 2, none⟩ = some (.int .i64 bx) := by subst hW; simp [go_sem]
  have b13 : W.cell? ⟨w.heap.size + 1, 3, none⟩ = some (.int .i64 cy) := by subst hW; simp [go_sem]
  have L1 : w.heap.size + 1 < W.heap.size := by subst hW; first | (simp; done) | (simp; omega)
  have b20 : W.cell? ⟨w.heap.size + 1 + 1, 0, none⟩ = some (.int .i64 0) := by subst hW; simp [go_sem]
  have b21 : W.cell? ⟨w.heap.size + 1 + 1, 1, none⟩ = some (.int .i64 0) := by subst hW; simp [go_sem]
  have L2 : w.heap.size + 1 + 1 < W.heap.size := by subst hW; first | (simp; done) | (simp; omega)
  have nB02 : w.heap.size ≠ w.heap.size + 1 + 1 := by omega
  have hRB : w.heap.size ≤ w.heap.size + 1 + 1 := by omega
  have fz : ∀ o, W.frozen? ⟨w.heap.size + 1 + 1, o, none⟩ = false := by subst hW; intro o; simp [go_sem]
  rw [← hW]
  clear hW
  generalize w.heap.size + 1 + 1 = B2 at *
  generalize w.heap.size + 1 = B1 at *
  obtain ⟨B0, hB0⟩ : ∃ B, B = w.heap.size := ⟨_, rfl⟩
  rw [← hB0] at b00 L0
  try rw [← hB0]
  replace hB0 := Lib.hid hB0
  have FV := Lib.hid (FixAt.below hF0.out HD)
  by_cases e : isTrk l = true ∧ isSeg ax ay bx cy = true
  case neg =>
    have HF := Lib.hid (show crPtR l ax ay bx cy j = (0, 0, 1) by simp only [crPtR, if_neg e])
    have cc := lineCode_c a cap l ax ay bx cy W hl FV.out
    rw [if_neg e] at cc
    clear e
    refine (cc).mono ?_
    rintro e V1 ⟨rfl, hb⟩
    clear cc
    replace HD := HD.trans (hb.mono HD.size)
    obtain ⟨hc, hf⟩ := bcell hb
    have hz := hb.size
    replace b00 := (hc _ 0 L0).trans b00
    replace b10 := (hc _ 0 L1).trans b10
    replace b11 := (hc _ 1 L1).trans b11
    replace b12 := (hc _ 2 L1).trans b12
    replace b13 := (hc _ 3 L1).trans b13
    replace b20 := (hc _ 0 L2).trans b20
    replace b21 := (hc _ 1 L2).trans b21
    replace fz := fun o => (hf _ o L2).trans (fz o)
    replace FV := Lib.hid (FixAt.below FV.out hb)
    replace L0 := Nat.lt_of_lt_of_le L0 hz
    replace L1 := Nat.lt_of_lt_of_le L1 hz
    replace L2 := Nat.lt_of_lt_of_le L2 hz
    clear hc hf hz hb
    go_wp2_with fail
    exact bodyPost_ret (v := .tuple #[.agg #[.int .i64 0, .int .i64 0], .int .i64 1]) (by simp [results, Try.results36, go_sem, *]) rfl ⟨by rw [HF.out], (by repeat (first | with_reducible exact Below.refl _ _ | with_reducible assumption | with_reducible refine Below.drew ?_ | with_reducible refine Below.alloc ?_ (by first | exact Nat.le_refl _ | (simp; done) | (simp; omega) | omega) _ | with_reducible refine Below.setCell ?_ (by first | exact Nat.le_refl _ | (simp; done) | (simp; omega) | omega) _ | with_reducible refine Below.trans ?_ (Below.mono (by with_reducible assumption) (by first | exact Nat.le_refl _ | (simp; done) | (simp; omega) | omega))))⟩
  have cc := lineCode_c a cap l ax ay bx cy W hl FV.out
  rw [if_pos e] at cc
  obtain ⟨e1, es⟩ := e
  refine (cc).mono ?_
  rintro e V1 ⟨rfl, hb⟩
  clear cc
  replace HD := HD.trans (hb.mono HD.size)
  obtain ⟨hc, hf⟩ := bcell hb
  have hz := hb.size
  replace b00 := (hc _ 0 L0).trans b00
  replace b10 := (hc _ 0 L1).trans b10
  replace b11 := (hc _ 1 L1).trans b11
  replace b12 := (hc _ 2 L1).trans b12
  replace b13 := (hc _ 3 L1).trans b13
  replace b20 := (hc _ 0 L2).trans b20
  replace b21 := (hc _ 1 L2).trans b21
  replace fz := fun o => (hf _ o L2).trans (fz o)
  replace FV := Lib.hid (FixAt.below FV.out hb)
  replace L0 := Nat.lt_of_lt_of_le L0 hz
  replace L1 := Nat.lt_of_lt_of_le L1 hz
  replace L2 := Nat.lt_of_lt_of_le L2 hz
  clear hc hf hz hb
  go_wp2_with fail
  have H0 := Lib.hid (fun h => show crPtR l ax ay bx cy j = (0, 0, 4) by simp only [crPtR, if_pos (And.intro e1 es)]; rw [if_neg h])
  have H1 := Lib.hid (fun h => show crPtR l ax ay bx cy j = (atZ (fx l (cr (crL l ax ay bx cy) j.toNat).leg.toNat).x (fx l ((cr (crL l ax ay bx cy) j.toNat).leg.toNat + 1)).x (cr (crL l ax ay bx cy) j.toNat).num (cr (crL l ax ay bx cy) j.toNat).den, atZ (fx l (cr (crL l ax ay bx cy) j.toNat).leg.toNat).y (fx l ((cr (crL l ax ay bx cy) j.toNat).leg.toNat + 1)).y (cr (crL l ax ay bx cy) j.toNat).num (cr (crL l ax ay bx cy) j.toNat).den, 0) by simp only [crPtR, if_pos (And.intro e1 es)]; rw [if_pos h])
  have HM := Lib.hid (fun i h => @crL_mem l ax ay bx cy e1 es i h)
  have cc := crossingsOf_c a cap l ax ay bx cy V1 hl e1 es FV.out
  rw [show crs l ax ay bx cy (l.length - 1) = crL l ax ay bx cy from rfl] at cc
  have hn39 := crL_len (l := l) (ax := ax) (ay := ay) (bx := bx) (cy := cy) e1
  generalize crL l ax ay bx cy = L at *
  refine cc.mono ?_
  rintro e V2 ⟨⟨g, cp, rfl, ho, hgg⟩, hb⟩
  have RW := Lib.hid (rowAt_own ho)
  have gB : g ≠ B2 := by omega
  clear ho cc hgg
  replace HD := HD.trans (hb.mono HD.size)
  obtain ⟨hc, hf⟩ := bcell hb
  have hz := hb.size
  replace b00 := (hc _ 0 L0).trans b00
  replace b10 := (hc _ 0 L1).trans b10
  replace b11 := (hc _ 1 L1).trans b11
  replace b12 := (hc _ 2 L1).trans b12
  replace b13 := (hc _ 3 L1).trans b13
  replace b20 := (hc _ 0 L2).trans b20
  replace b21 := (hc _ 1 L2).trans b21
  replace fz := fun o => (hf _ o L2).trans (fz o)
  replace FV := Lib.hid (FixAt.below FV.out hb)
  replace L0 := Nat.lt_of_lt_of_le L0 hz
  replace L1 := Nat.lt_of_lt_of_le L1 hz
  replace L2 := Nat.lt_of_lt_of_le L2 hz
  clear hc hf hz hb
  go_wp2_with fail
  cases e3 : inR j 0 ((L.length : Int) - 1)
  case false =>
    have HF := Lib.hid (H0.out (by rw [e3]; simp))
    refine (within_c _ _ _ _).mono ?_
    rintro e w' ⟨rfl, rfl⟩
    go_wp2_with fail
    exact bodyPost_ret (v := .tuple #[.agg #[.int .i64 0, .int .i64 0], .int .i64 4]) (by simp [results, Try.results36, go_sem, *]) rfl ⟨by rw [HF.out], (by repeat (first | with_reducible exact Below.refl _ _ | with_reducible assumption | with_reducible refine Below.drew ?_ | with_reducible refine Below.alloc ?_ (by first | exact Nat.le_refl _ | (simp; done) | (simp; omega) | omega) _ | with_reducible refine Below.setCell ?_ (by first | exact Nat.le_refl _ | (simp; done) | (simp; omega) | omega) _ | with_reducible refine Below.trans ?_ (Below.mono (by with_reducible assumption) (by first | exact Nat.le_refl _ | (simp; done) | (simp; omega) | omega))))⟩
  refine (within_c _ _ _ _).mono ?_
  rintro e w' ⟨rfl, rfl⟩
  obtain ⟨j0, j1⟩ := inR_true e3
  obtain ⟨i, hi⟩ := Int.eq_ofNat_of_zero_le j0
  have hiL : i < L.length := by omega
  have hF1 := H1.out e3
  subst hi
  rw [show Int.toNat ((i : Nat) : Int) = i from rfl] at hF1
  obtain ⟨k, hk, hleg, hpl⟩ := HM.out i hiL
  obtain ⟨r0, r1, r2, r3, r4⟩ := row_cell RW.out hiL
  have hgl := row_lt RW.out hiL
  have h' : (i : Int) < (L.length : Int) := by omega
  rw [hleg] at hF1 r1
  rw [show Int.toNat ((k : Nat) : Int) = k from rfl] at hF1
  generalize (cr L i).num = N at *
  generalize (cr L i).den = D at *
  generalize (cr L i).t = ct at *
  generalize (cr L i).way = cw at *
  clear hleg HM H0 H1
  obtain ⟨hp, hq, _, _, _⟩ := leg_facts e1 hk
  have n0 : B0 ≠ B2 := by rw [hB0.out]; exact nB02
  clear nB02
  have CP := Lib.hid (fun w => pointAt_c (fx l k).x (fx l k).y (fx l (k + 1)).x (fx l (k + 1)).y N D w hp hq hpl)
  have CL := Lib.hid (fun w h => legSegment_c a cap l k w hl hk h)
  have HF := Lib.hid hF1
  clear hF1 hpl hp hq
  generalize atZ (fx l k).x (fx l (k + 1)).x N D = X at *
  generalize atZ (fx l k).y (fx l (k + 1)).y N D = Y at *
  go_upto_region 7 with fail
  go_region_held3 (fun wx => ((∀ b o, b < V2.heap.size → b ≠ B2 → wx.cell? ⟨b, o, none⟩ = V2.cell? ⟨b, o, none⟩) ∧ wx.cell? ⟨B2, 0, none⟩ = some (.int .i64 (rd wx ⟨B2, 0, none⟩)) ∧ wx.cell? ⟨B2, 1, none⟩ = some (.int .i64 (rd wx ⟨B2, 1, none⟩)) ∧ wx.frozen? ⟨B2, 0, none⟩ = false ∧ wx.frozen? ⟨B2, 1, none⟩ = false ∧ Kept B2 V2 wx))
    (first | with_reducible assumption | with_reducible exact h4_below (by with_reducible assumption) L2 hb | with_reducible exact h4_set1 (h4_set0 (by with_reducible assumption) _) _ | exact h4_mk (Kept.refl _ _).drew b20 b21 (fz 0) (fz 1))
    (first | (go_at_call 93; refine (CL.out _ (FixAt.below hF0.out (kept_end HD hRB (h4_kept (by with_reducible assumption))))).mono ?_; rintro e w1 ⟨rfl, hb⟩) | (go_at_call 92; refine (CP.out _).mono ?_; rintro e w1 ⟨rfl, hb⟩))
  all_goals go_wp2
  all_goals have hv := h4_vals (by with_reducible assumption)
  all_goals obtain ⟨hv0, hv1⟩ := hv
  all_goals exact bodyPost_ret (v := .tuple #[.agg #[.int .i64 X, .int .i64 Y], .int .i64 0]) (by simp [results, Try.results36, go_sem, *]) rfl ⟨by rw [HF.out], kept_end HD hRB (h4_kept (by with_reducible assumption))⟩
set_option maxRecDepth 100000 in
set_option maxHeartbeats 2000000 in
theorem CrossingPointS_c (a : Option Addr) (cap : Nat) (l : List Fx) (ax ay bx cy : Int) (j : Int) (w : World) (hl : l.length ≤ 4611686018427387904) (hf : FixAt w a l) : Calls Try.prog 35 #[.agg #[.slice a l.length cap], .agg #[.int .i64 ax, .int .i64 ay, .int .i64 bx, .int .i64 cy], .int .i64 j] w fun e w' => e = .returned (.tuple #[.agg #[.int .i64 (crPtR l ax ay bx cy j).1, .int .i64 (crPtR l ax ay bx cy j).2.1], .int .i64 (crPtR l ax ay bx cy j).2.2]) ∧ Below w.heap.size w w' := by
  have hF0 := Lib.hid hf
  clear hf
  go_enter Try.func35, Try.ntmps35
  go_wp2_with fail
  obtain ⟨W, hW⟩ : ∃ W, W = (((w.alloc (.cells #[.slice a l.length cap] 26)).alloc (.cells #[.int .i64 ax, .int .i64 ay, .int .i64 bx, .int .i64 cy] 66)).alloc (.cells #[.int .i64 0, .int .i64 0] 35)) := ⟨_, rfl⟩
  have HD : Below w.heap.size w W := by subst hW; exact (by repeat (first | with_reducible exact Below.refl _ _ | with_reducible assumption | with_reducible refine Below.drew ?_ | with_reducible refine Below.alloc ?_ (by first | exact Nat.le_refl _ | (simp; done) | (simp; omega) | omega) _ | with_reducible refine Below.setCell ?_ (by first | exact Nat.le_refl _ | (simp; done) | (simp; omega) | omega) _ | with_reducible refine Below.trans ?_ (Below.mono (by with_reducible assumption) (by first | exact Nat.le_refl _ | (simp; done) | (simp; omega) | omega))))
  have b00 : W.cell? ⟨w.heap.size, 0, none⟩ = some (.slice a l.length cap) := by subst hW; simp [go_sem]
  have L0 : w.heap.size < W.heap.size := by subst hW; first | (simp; done) | (simp; omega)
  have b10 : W.cell? ⟨w.heap.size + 1, 0, none⟩ = some (.int .i64 ax) := by subst hW; simp [go_sem]
  have b11 : W.cell? ⟨w.heap.size + 1, 1, none⟩ = some (.int .i64 ay) := by subst hW; simp [go_sem]
  have b12 : W.cell? ⟨w.heap.size + 1, 2, none⟩ = some (.int .i64 bx) := by subst hW; simp [go_sem]
  have b13 : W.cell? ⟨w.heap.size + 1, 3, none⟩ = some (.int .i64 cy) := by subst hW; simp [go_sem]
  have L1 : w.heap.size + 1 < W.heap.size := by subst hW; first | (simp; done) | (simp; omega)
  have b20 : W.cell? ⟨w.heap.size + 1 + 1, 0, none⟩ = some (.int .i64 0) := by subst hW; simp [go_sem]
  have b21 : W.cell? ⟨w.heap.size + 1 + 1, 1, none⟩ = some (.int .i64 0) := by subst hW; simp [go_sem]
  have L2 : w.heap.size + 1 + 1 < W.heap.size := by subst hW; first | (simp; done) | (simp; omega)
  have nB02 : w.heap.size ≠ w.heap.size + 1 + 1 := by omega
  have hRB : w.heap.size ≤ w.heap.size + 1 + 1 := by omega
  have fz : ∀ o, W.frozen? ⟨w.heap.size + 1 + 1, o, none⟩ = false := by subst hW; intro o; simp [go_sem]
  rw [← hW]
  clear hW
  generalize w.heap.size + 1 + 1 = B2 at *
  generalize w.heap.size + 1 = B1 at *
  obtain ⟨B0, hB0⟩ : ∃ B, B = w.heap.size := ⟨_, rfl⟩
  rw [← hB0] at b00 L0
  try rw [← hB0]
  replace hB0 := Lib.hid hB0
  have FV := Lib.hid (FixAt.below hF0.out HD)
  cases e1 : isTrk l
  case false =>
    have HF := Lib.hid (show crPtR l ax ay bx cy j = (0, 0, 1) by simp [crPtR, e1])
    have cc := IsTrackS_c a cap l W hl FV.out
    rw [e1] at cc
    refine (cc).mono ?_
    rintro e V1 ⟨rfl, hb⟩
    clear cc
    replace HD := HD.trans (hb.mono HD.size)
    obtain ⟨hc, hf⟩ := bcell hb
    have hz := hb.size
    replace b00 := (hc _ 0 L0).trans b00
    replace b10 := (hc _ 0 L1).trans b10
    replace b11 := (hc _ 1 L1).trans b11
    replace b12 := (hc _ 2 L1).trans b12
    replace b13 := (hc _ 3 L1).trans b13
    replace b20 := (hc _ 0 L2).trans b20
    replace b21 := (hc _ 1 L2).trans b21
    replace fz := fun o => (hf _ o L2).trans (fz o)
    replace FV := Lib.hid (FixAt.below FV.out hb)
    replace L0 := Nat.lt_of_lt_of_le L0 hz
    replace L1 := Nat.lt_of_lt_of_le L1 hz
    replace L2 := Nat.lt_of_lt_of_le L2 hz
    clear hc hf hz hb
    go_wp2_with fail
    exact bodyPost_ret (v := .tuple #[.agg #[.int .i64 0, .int .i64 0], .int .i64 1]) (by simp [results, Try.results35, go_sem, *]) rfl ⟨by rw [HF.out], (by repeat (first | with_reducible exact Below.refl _ _ | with_reducible assumption | with_reducible refine Below.drew ?_ | with_reducible refine Below.alloc ?_ (by first | exact Nat.le_refl _ | (simp; done) | (simp; omega) | omega) _ | with_reducible refine Below.setCell ?_ (by first | exact Nat.le_refl _ | (simp; done) | (simp; omega) | omega) _ | with_reducible refine Below.trans ?_ (Below.mono (by with_reducible assumption) (by first | exact Nat.le_refl _ | (simp; done) | (simp; omega) | omega))))⟩
  have cc := IsTrackS_c a cap l W hl FV.out
  rw [e1] at cc
  refine (cc).mono ?_
  rintro e V0 ⟨rfl, hb⟩
  clear cc
  replace HD := HD.trans (hb.mono HD.size)
  obtain ⟨hc, hf⟩ := bcell hb
  have hz := hb.size
  replace b00 := (hc _ 0 L0).trans b00
  replace b10 := (hc _ 0 L1).trans b10
  replace b11 := (hc _ 1 L1).trans b11
  replace b12 := (hc _ 2 L1).trans b12
  replace b13 := (hc _ 3 L1).trans b13
  replace b20 := (hc _ 0 L2).trans b20
  replace b21 := (hc _ 1 L2).trans b21
  replace fz := fun o => (hf _ o L2).trans (fz o)
  replace FV := Lib.hid (FixAt.below FV.out hb)
  replace L0 := Nat.lt_of_lt_of_le L0 hz
  replace L1 := Nat.lt_of_lt_of_le L1 hz
  replace L2 := Nat.lt_of_lt_of_le L2 hz
  clear hc hf hz hb
  go_wp2_with fail
  cases es : isSeg ax ay bx cy
  case false =>
    have HF := Lib.hid (show crPtR l ax ay bx cy j = (0, 0, 1) by simp [crPtR, e1, es])
    have cc := isLineS_c ax ay bx cy V0
    rw [es] at cc
    refine (cc).mono ?_
    rintro e V1 ⟨rfl, hb⟩
    clear cc
    replace HD := HD.trans (hb.mono HD.size)
    obtain ⟨hc, hf⟩ := bcell hb
    have hz := hb.size
    replace b00 := (hc _ 0 L0).trans b00
    replace b10 := (hc _ 0 L1).trans b10
    replace b11 := (hc _ 1 L1).trans b11
    replace b12 := (hc _ 2 L1).trans b12
    replace b13 := (hc _ 3 L1).trans b13
    replace b20 := (hc _ 0 L2).trans b20
    replace b21 := (hc _ 1 L2).trans b21
    replace fz := fun o => (hf _ o L2).trans (fz o)
    replace FV := Lib.hid (FixAt.below FV.out hb)
    replace L0 := Nat.lt_of_lt_of_le L0 hz
    replace L1 := Nat.lt_of_lt_of_le L1 hz
    replace L2 := Nat.lt_of_lt_of_le L2 hz
    clear hc hf hz hb
    go_wp2_with fail
    exact bodyPost_ret (v := .tuple #[.agg #[.int .i64 0, .int .i64 0], .int .i64 1]) (by simp [results, Try.results35, go_sem, *]) rfl ⟨by rw [HF.out], (by repeat (first | with_reducible exact Below.refl _ _ | with_reducible assumption | with_reducible refine Below.drew ?_ | with_reducible refine Below.alloc ?_ (by first | exact Nat.le_refl _ | (simp; done) | (simp; omega) | omega) _ | with_reducible refine Below.setCell ?_ (by first | exact Nat.le_refl _ | (simp; done) | (simp; omega) | omega) _ | with_reducible refine Below.trans ?_ (Below.mono (by with_reducible assumption) (by first | exact Nat.le_refl _ | (simp; done) | (simp; omega) | omega))))⟩
  have cc := isLineS_c ax ay bx cy V0
  rw [es] at cc
  refine (cc).mono ?_
  rintro e V1 ⟨rfl, hb⟩
  clear cc
  replace HD := HD.trans (hb.mono HD.size)
  obtain ⟨hc, hf⟩ := bcell hb
  have hz := hb.size
  replace b00 := (hc _ 0 L0).trans b00
  replace b10 := (hc _ 0 L1).trans b10
  replace b11 := (hc _ 1 L1).trans b11
  replace b12 := (hc _ 2 L1).trans b12
  replace b13 := (hc _ 3 L1).trans b13
  replace b20 := (hc _ 0 L2).trans b20
  replace b21 := (hc _ 1 L2).trans b21
  replace fz := fun o => (hf _ o L2).trans (fz o)
  replace FV := Lib.hid (FixAt.below FV.out hb)
  replace L0 := Nat.lt_of_lt_of_le L0 hz
  replace L1 := Nat.lt_of_lt_of_le L1 hz
  replace L2 := Nat.lt_of_lt_of_le L2 hz
  clear hc hf hz hb
  go_wp2_with fail
  have H0 := Lib.hid (fun h => show crPtR l ax ay bx cy j = (0, 0, 4) by simp only [crPtR, if_pos (And.intro e1 es)]; rw [if_neg h])
  have H1 := Lib.hid (fun h => show crPtR l ax ay bx cy j = (atZ (fx l (cr (crL l ax ay bx cy) j.toNat).leg.toNat).x (fx l ((cr (crL l ax ay bx cy) j.toNat).leg.toNat + 1)).x (cr (crL l ax ay bx cy) j.toNat).num (cr (crL l ax ay bx cy) j.toNat).den, atZ (fx l (cr (crL l ax ay bx cy) j.toNat).leg.toNat).y (fx l ((cr (crL l ax ay bx cy) j.toNat).leg.toNat + 1)).y (cr (crL l ax ay bx cy) j.toNat).num (cr (crL l ax ay bx cy) j.toNat).den, 0) by simp only [crPtR, if_pos (And.intro e1 es)]; rw [if_pos h])
  have HM := Lib.hid (fun i h => @crL_mem l ax ay bx cy e1 es i h)
  have cc := l05Crossings_c a cap l ax ay bx cy V1 hl e1 es FV.out
  rw [show crs l ax ay bx cy (l.length - 1) = crL l ax ay bx cy from rfl] at cc
  have hn39 := crL_len (l := l) (ax := ax) (ay := ay) (bx := bx) (cy := cy) e1
  generalize crL l ax ay bx cy = L at *
  refine cc.mono ?_
  rintro e V2 ⟨⟨g, cp, rfl, ho, hgg⟩, hb⟩
  have RW := Lib.hid (rowAt_own ho)
  have gB : g ≠ B2 := by omega
  clear ho cc hgg
  replace HD := HD.trans (hb.mono HD.size)
  obtain ⟨hc, hf⟩ := bcell hb
  have hz := hb.size
  replace b00 := (hc _ 0 L0).trans b00
  replace b10 := (hc _ 0 L1).trans b10
  replace b11 := (hc _ 1 L1).trans b11
  replace b12 := (hc _ 2 L1).trans b12
  replace b13 := (hc _ 3 L1).trans b13
  replace b20 := (hc _ 0 L2).trans b20
  replace b21 := (hc _ 1 L2).trans b21
  replace fz := fun o => (hf _ o L2).trans (fz o)
  replace FV := Lib.hid (FixAt.below FV.out hb)
  replace L0 := Nat.lt_of_lt_of_le L0 hz
  replace L1 := Nat.lt_of_lt_of_le L1 hz
  replace L2 := Nat.lt_of_lt_of_le L2 hz
  clear hc hf hz hb
  go_wp2_with fail
  cases e3 : inR j 0 ((L.length : Int) - 1)
  case false =>
    have HF := Lib.hid (H0.out (by rw [e3]; simp))
    refine (l01In_c _ _ _ _).mono ?_
    rintro e w' ⟨rfl, rfl⟩
    go_wp2_with fail
    exact bodyPost_ret (v := .tuple #[.agg #[.int .i64 0, .int .i64 0], .int .i64 4]) (by simp [results, Try.results35, go_sem, *]) rfl ⟨by rw [HF.out], (by repeat (first | with_reducible exact Below.refl _ _ | with_reducible assumption | with_reducible refine Below.drew ?_ | with_reducible refine Below.alloc ?_ (by first | exact Nat.le_refl _ | (simp; done) | (simp; omega) | omega) _ | with_reducible refine Below.setCell ?_ (by first | exact Nat.le_refl _ | (simp; done) | (simp; omega) | omega) _ | with_reducible refine Below.trans ?_ (Below.mono (by with_reducible assumption) (by first | exact Nat.le_refl _ | (simp; done) | (simp; omega) | omega))))⟩
  refine (l01In_c _ _ _ _).mono ?_
  rintro e w' ⟨rfl, rfl⟩
  obtain ⟨j0, j1⟩ := inR_true e3
  obtain ⟨i, hi⟩ := Int.eq_ofNat_of_zero_le j0
  have hiL : i < L.length := by omega
  have hF1 := H1.out e3
  subst hi
  rw [show Int.toNat ((i : Nat) : Int) = i from rfl] at hF1
  obtain ⟨k, hk, hleg, hpl⟩ := HM.out i hiL
  obtain ⟨r0, r1, r2, r3, r4⟩ := row_cell RW.out hiL
  have hgl := row_lt RW.out hiL
  have h' : (i : Int) < (L.length : Int) := by omega
  rw [hleg] at hF1 r1
  rw [show Int.toNat ((k : Nat) : Int) = k from rfl] at hF1
  generalize (cr L i).num = N at *
  generalize (cr L i).den = D at *
  generalize (cr L i).t = ct at *
  generalize (cr L i).way = cw at *
  clear hleg HM H0 H1
  obtain ⟨hp, hq, _, _, _⟩ := leg_facts e1 hk
  have n0 : B0 ≠ B2 := by rw [hB0.out]; exact nB02
  clear nB02
  obtain ⟨n1, n2, n3, n4⟩ := placeOK_true hpl
  obtain ⟨p1, p2, p3, p4⟩ := isPt_true hp
  obtain ⟨q1, q2, q3, q4⟩ := isPt_true hq
  have FX := Lib.hid (fun w => l02At_c (fx l k).x (fx l (k + 1)).x N D w p1 p2 q1 q2 n3 n4 n1 n2)
  have FY := Lib.hid (fun w => l02At_c (fx l k).y (fx l (k + 1)).y N D w p3 p4 q3 q4 n3 n4 n1 n2)
  have HF := Lib.hid hF1
  clear hF1 hpl hp hq p1 p2 p3 p4 q1 q2 q3 q4 n1 n2 n3 n4
  unfold atZ at HF
  have l2v := L2
  go_wp2_with fail
  obtain ⟨V3, hV3⟩ : ∃ x, x = V2.alloc (.cells #[.int .i64 ct, .int .i64 k, .int .i64 cw, .int .i64 N, .int .i64 D] 57) := ⟨_, rfl⟩
  have hb : Below V2.heap.size V2 V3 := by subst hV3; exact (Below.refl _ _).alloc (Nat.le_refl _) _
  have k90 : V3.cell? ⟨V2.heap.size, 0, none⟩ = some (.int .i64 ct) := by subst hV3; simp [go_sem]
  have k91 : V3.cell? ⟨V2.heap.size, 1, none⟩ = some (.int .i64 k) := by subst hV3; simp [go_sem]
  have k92 : V3.cell? ⟨V2.heap.size, 2, none⟩ = some (.int .i64 cw) := by subst hV3; simp [go_sem]
  have k93 : V3.cell? ⟨V2.heap.size, 3, none⟩ = some (.int .i64 N) := by subst hV3; simp [go_sem]
  have k94 : V3.cell? ⟨V2.heap.size, 4, none⟩ = some (.int .i64 D) := by subst hV3; simp [go_sem]
  have K9 : V2.heap.size < V3.heap.size := by subst hV3; simp
  have hS9 := Lib.hid (show V3.heap.size = V2.heap.size + 1 by subst hV3; simp)
  rw [← hV3]
  clear hV3
  replace HD := HD.trans (hb.mono HD.size)
  obtain ⟨hc, hf⟩ := bcell hb
  have hz := hb.size
  replace b00 := (hc _ 0 L0).trans b00
  replace b10 := (hc _ 0 L1).trans b10
  replace b11 := (hc _ 1 L1).trans b11
  replace b12 := (hc _ 2 L1).trans b12
  replace b13 := (hc _ 3 L1).trans b13
  replace b20 := (hc _ 0 L2).trans b20
  replace b21 := (hc _ 1 L2).trans b21
  replace r0 := (hc _ (i * 5) hgl).trans r0
  replace r1 := (hc _ (i * 5 + 1) hgl).trans r1
  replace r2 := (hc _ (i * 5 + 2) hgl).trans r2
  replace r3 := (hc _ (i * 5 + 3) hgl).trans r3
  replace r4 := (hc _ (i * 5 + 4) hgl).trans r4
  replace fz := fun o => (hf _ o L2).trans (fz o)
  replace FV := Lib.hid (FixAt.below FV.out hb)
  replace RW := Lib.hid (RowAt.below RW.out hb)
  replace L0 := Nat.lt_of_lt_of_le L0 hz
  replace L1 := Nat.lt_of_lt_of_le L1 hz
  replace L2 := Nat.lt_of_lt_of_le L2 hz
  replace hgl := Nat.lt_of_lt_of_le hgl hz
  clear hc hf hz hb
  obtain ⟨C9, hC9⟩ : ∃ x, x = V2.heap.size := ⟨_, rfl⟩
  rw [← hC9] at k90 k91 k92 k93 k94 K9
  try rw [← hC9]
  replace hC9 := Lib.hid hC9
  obtain ⟨b, off, rfl, hlt, hcs⟩ := FV.out.head (by omega)
  obtain ⟨c0, c1, c2⟩ := hcs k (by omega)
  obtain ⟨q, hq2⟩ : ∃ q, q = k + 1 := ⟨_, rfl⟩
  obtain ⟨d0, d1, d2⟩ := hcs q (by omega)
  have g1 : (k : Int) < (l.length : Int) := by omega
  have g2 : (q : Int) < (l.length : Int) := by omega
  have g3 : (k : Int) + 1 = (q : Int) := by omega
  have g4 : IntKind.i64.wrap (q : Int) = (q : Int) := by rw [IntKind.wrap_i64]; omega
  rw [← hq2] at FX FY HF
  clear hcs hq2
  generalize fx l k = fk at *
  generalize fx l q = fq at *
  go_cut [10, 11] (fun s7 s8 wx => ∃ B C : Nat, s7 = .pointer (some ⟨B, 0, none⟩) ∧ s8 = .pointer (some ⟨C, 0, none⟩) ∧ wx.cell? ⟨B, 0, none⟩ = some (.int .i64 fk.x) ∧ wx.cell? ⟨B, 1, none⟩ = some (.int .i64 fk.y) ∧ wx.cell? ⟨C, 0, none⟩ = some (.int .i64 fq.x) ∧ wx.cell? ⟨C, 1, none⟩ = some (.int .i64 fq.y) ∧ V3.heap.size ≤ B ∧ V3.heap.size ≤ C ∧ B < wx.heap.size ∧ C < wx.heap.size ∧ Below V3.heap.size V3 wx)
  case first =>
    go_region_held3 (fun wx => Below V3.heap.size V3 wx ∧ ∀ b o, b < V3.heap.size → wx.cell? ⟨b, o, none⟩ = V3.cell? ⟨b, o, none⟩)
      (first | with_reducible exact held_step (by assumption) hb | with_reducible exact held_alloc (by assumption) _ | with_reducible exact (held_set (by with_reducible assumption) (by first | exact Nat.le_refl _ | (simp; done) | (simp; omega) | omega) _) | with_reducible exact (held_set (held_set (by with_reducible assumption) (by first | exact Nat.le_refl _ | (simp; done) | (simp; omega) | omega) _) (by first | exact Nat.le_refl _ | (simp; done) | (simp; omega) | omega) _) | with_reducible exact (held_set (held_set (held_set (held_set (by with_reducible assumption) (by first | exact Nat.le_refl _ | (simp; done) | (simp; omega) | omega) _) (by first | exact Nat.le_refl _ | (simp; done) | (simp; omega) | omega) _) (by first | exact Nat.le_refl _ | (simp; done) | (simp; omega) | omega) _) (by first | exact Nat.le_refl _ | (simp; done) | (simp; omega) | omega) _) | with_reducible exact held_realloc (by assumption) (by first | exact Nat.le_refl _ | (simp; done) | (simp; omega) | omega) _ | with_reducible exact held_start _ _ | with_reducible exact held_begin _ | exact held_of (by repeat (first | with_reducible exact Below.refl _ _ | with_reducible assumption | with_reducible refine Below.drew ?_ | with_reducible refine Below.alloc ?_ (by first | exact Nat.le_refl _ | (simp; done) | (simp; omega) | omega) _ | with_reducible refine Below.setCell ?_ (by first | exact Nat.le_refl _ | (simp; done) | (simp; omega) | omega) _ | with_reducible refine Below.trans ?_ (Below.mono (by with_reducible assumption) (by first | exact Nat.le_refl _ | (simp; done) | (simp; omega) | omega)))))
      (first | (go_at_call 90; refine (l03Point_c _ _ _ _).mono ?_; rintro e w1 ⟨rfl, hb⟩; have hz := held_size (by with_reducible assumption) hb; (try simp at hz); have hs := hb.size; (try simp at hs); obtain ⟨hc, hf⟩ := bcell hb; have hlx := blt hb; (try simp only [World.size_drew] at hc hf hlx); (try have hl3 := Nat.lt_of_succ_le hs); (try have hl2 := Nat.lt_of_succ_lt hl3); (try (obtain ⟨hn1, hn2, hn3, hn4, hn5, hn6, hn7, hn8⟩ := below_top hb (by first | (simp; done) | (simp; omega) | omega); (try simp [go_sem] at hn1); (try simp [go_sem] at hn2); (try simp [go_sem] at hn3); (try simp [go_sem] at hn4); (try simp [go_sem] at hn5); (try simp [go_sem] at hn6); (try simp [go_sem] at hn7); (try simp [go_sem] at hn8))); (try have hm0 : w1.cell? ⟨V3.heap.size, 0, none⟩ = some (.int .i64 0) := by rw [hc _ _ (by first | (simp; done) | (simp; omega) | omega)]; first | assumption | (simp [go_sem, *]; done)); (try have hp0 : w1.frozen? ⟨V3.heap.size, 0, none⟩ = false := by rw [hf _ _ (by first | (simp; done) | (simp; omega) | omega)]; first | assumption | (simp [go_sem, *]; done)); (try have hm1 : w1.cell? ⟨V3.heap.size, 1, none⟩ = some (.int .i64 0) := by rw [hc _ _ (by first | (simp; done) | (simp; omega) | omega)]; first | assumption | (simp [go_sem, *]; done)); (try have hp1 : w1.frozen? ⟨V3.heap.size, 1, none⟩ = false := by rw [hf _ _ (by first | (simp; done) | (simp; omega) | omega)]; first | assumption | (simp [go_sem, *]; done)); (try have hm2 : w1.cell? ⟨V3.heap.size + 1, 0, none⟩ = some (.int .i64 0) := by rw [hc _ _ (by first | (simp; done) | (simp; omega) | omega)]; first | assumption | (simp [go_sem, *]; done)); (try have hp2 : w1.frozen? ⟨V3.heap.size + 1, 0, none⟩ = false := by rw [hf _ _ (by first | (simp; done) | (simp; omega) | omega)]; first | assumption | (simp [go_sem, *]; done)); (try have hm3 : w1.cell? ⟨V3.heap.size + 1, 1, none⟩ = some (.int .i64 0) := by rw [hc _ _ (by first | (simp; done) | (simp; omega) | omega)]; first | assumption | (simp [go_sem, *]; done)); (try have hp3 : w1.frozen? ⟨V3.heap.size + 1, 1, none⟩ = false := by rw [hf _ _ (by first | (simp; done) | (simp; omega) | omega)]; first | assumption | (simp [go_sem, *]; done))))
    all_goals (go_wp2_with fail; go_meet; exact ⟨_, _, rfl, rfl, (by first | (go_light; go_simp; done) | (simp [go_sem, *]; done)), (by first | (go_light; go_simp; done) | (simp [go_sem, *]; done)), (by first | (go_light; go_simp; done) | (simp [go_sem, *]; done)), (by first | (go_light; go_simp; done) | (simp [go_sem, *]; done)), (by go_light; first | exact Nat.le_refl _ | (simp; done) | (simp; omega) | omega), (by go_light; first | exact Nat.le_refl _ | (simp; done) | (simp; omega) | omega), (by go_light; first | (simp; done) | (simp; omega) | omega), (by go_light; first | (simp; done) | (simp; omega) | omega), (held_of (by repeat (first | with_reducible exact Below.refl _ _ | with_reducible assumption | with_reducible refine Below.drew ?_ | with_reducible refine Below.alloc ?_ (by first | exact Nat.le_refl _ | (simp; done) | (simp; omega) | omega) _ | with_reducible refine Below.setCell ?_ (by first | exact Nat.le_refl _ | (simp; done) | (simp; omega) | omega) _ | with_reducible refine Below.trans ?_ (Below.mono (by with_reducible assumption) (by first | exact Nat.le_refl _ | (simp; done) | (simp; omega) | omega))))).1⟩)
  case rest =>
    obtain ⟨B, C, rfl, rfl, p0, p1, q0, q1, hVB, hVC, lB, lC, hb⟩ := hcut
    obtain ⟨V4, rfl⟩ : ∃ x : World, x = wc := ⟨_, rfl⟩
    have nB : B ≠ B2 := by omega
    have nC : C ≠ B2 := by omega
    have n9 : C9 ≠ B2 := by have := hC9.out; omega
    clear c0 c1 c2 d0 d1 d2
    replace HD := HD.trans (hb.mono HD.size)
    obtain ⟨hc, hf⟩ := bcell hb
    have hz := hb.size
    replace b00 := (hc _ 0 L0).trans b00
    replace b10 := (hc _ 0 L1).trans b10
    replace b11 := (hc _ 1 L1).trans b11
    replace b12 := (hc _ 2 L1).trans b12
    replace b13 := (hc _ 3 L1).trans b13
    replace b20 := (hc _ 0 L2).trans b20
    replace b21 := (hc _ 1 L2).trans b21
    replace r0 := (hc _ (i * 5) hgl).trans r0
    replace r1 := (hc _ (i * 5 + 1) hgl).trans r1
    replace r2 := (hc _ (i * 5 + 2) hgl).trans r2
    replace r3 := (hc _ (i * 5 + 3) hgl).trans r3
    replace r4 := (hc _ (i * 5 + 4) hgl).trans r4
    replace k90 := (hc _ 0 K9).trans k90
    replace k91 := (hc _ 1 K9).trans k91
    replace k92 := (hc _ 2 K9).trans k92
    replace k93 := (hc _ 3 K9).trans k93
    replace k94 := (hc _ 4 K9).trans k94
    replace fz := fun o => (hf _ o L2).trans (fz o)
    replace FV := Lib.hid (FixAt.below FV.out hb)
    replace RW := Lib.hid (RowAt.below RW.out hb)
    replace L0 := Nat.lt_of_lt_of_le L0 hz
    replace L1 := Nat.lt_of_lt_of_le L1 hz
    replace L2 := Nat.lt_of_lt_of_le L2 hz
    replace hgl := Nat.lt_of_lt_of_le hgl hz
    replace K9 := Nat.lt_of_lt_of_le K9 hz
    clear hc hf hz hb
    have r5 := Lib.hid HF
    generalize fk.x + (fq.x - fk.x) * N / D = X at *
    generalize fk.y + (fq.y - fk.y) * N / D = Y at *
    clear r5
    go_upto_region 8 with fail
    go_region_held3 (fun wx => ((∀ b o, b < V4.heap.size → b ≠ B2 → wx.cell? ⟨b, o, none⟩ = V4.cell? ⟨b, o, none⟩) ∧ wx.cell? ⟨B2, 0, none⟩ = some (.int .i64 (rd wx ⟨B2, 0, none⟩)) ∧ wx.cell? ⟨B2, 1, none⟩ = some (.int .i64 (rd wx ⟨B2, 1, none⟩)) ∧ wx.frozen? ⟨B2, 0, none⟩ = false ∧ wx.frozen? ⟨B2, 1, none⟩ = false ∧ Kept B2 V4 wx))
      (first | with_reducible assumption | with_reducible exact h4_below (by with_reducible assumption) L2 hb | with_reducible exact h4_set1 (h4_set0 (by with_reducible assumption) _) _ | exact h4_mk (Kept.refl _ _).drew b20 b21 (fz 0) (fz 1))
      (first | (go_at_call_of 91 (fq.x); refine (FX.out _).mono ?_; rintro e w1 ⟨rfl, hb⟩) | (go_at_call_of 91 (fq.y); refine (FY.out _).mono ?_; rintro e w1 ⟨rfl, hb⟩))
    all_goals go_wp2
    all_goals have hv := h4_vals (by with_reducible assumption)
    all_goals obtain ⟨hv0, hv1⟩ := hv
    all_goals exact bodyPost_ret (v := .tuple #[.agg #[.int .i64 X, .int .i64 Y], .int .i64 0]) (by simp [results, Try.results35, go_sem, *]) rfl ⟨by rw [HF.out], kept_end HD hRB (h4_kept (by with_reducible assumption))⟩
end Go.Proofs.Ytdepdkpehbkcjaa
