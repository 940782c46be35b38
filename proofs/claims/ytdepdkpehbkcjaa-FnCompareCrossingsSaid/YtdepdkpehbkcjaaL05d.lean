/-
  The comparison of two crossings, exported: the program's and the reference's. Conditions: the cells lie in the world.
-/
import Derived.Test.YtdepdkpehbkcjaaL05c
namespace Go.Proofs.Ytdepdkpehbkcjaa
set_option linter.unusedVariables false
open Go.RowKit Go.Deep

def Boxes (V : World) (B0 B1 B2 B3 : Nat) (a0 a1 : Option Addr) (n0 n1 cap0 cap1 : Nat) (t i y n d t' j y' n' d' : Int) : Prop :=
  V.cell? ⟨B0, 0, none⟩ = some (.slice a0 n0 cap0) ∧ V.cell? ⟨B1, 0, none⟩ = some (.int .i64 t) ∧ V.cell? ⟨B1, 1, none⟩ = some (.int .i64 i) ∧ V.cell? ⟨B1, 2, none⟩ = some (.int .i64 y) ∧ V.cell? ⟨B1, 3, none⟩ = some (.int .i64 n) ∧ V.cell? ⟨B1, 4, none⟩ = some (.int .i64 d) ∧ V.cell? ⟨B2, 0, none⟩ = some (.slice a1 n1 cap1) ∧ V.cell? ⟨B3, 0, none⟩ = some (.int .i64 t') ∧ V.cell? ⟨B3, 1, none⟩ = some (.int .i64 j) ∧ V.cell? ⟨B3, 2, none⟩ = some (.int .i64 y') ∧ V.cell? ⟨B3, 3, none⟩ = some (.int .i64 n') ∧ V.cell? ⟨B3, 4, none⟩ = some (.int .i64 d') ∧ B0 < V.heap.size ∧ B1 < V.heap.size ∧ B2 < V.heap.size ∧ B3 < V.heap.size
theorem Boxes.below {V V' : World} {B0 B1 B2 B3 : Nat} {a0 a1 : Option Addr} {n0 n1 cap0 cap1 : Nat} {t i y n d t' j y' n' d' : Int} (h : Boxes V B0 B1 B2 B3 a0 a1 n0 n1 cap0 cap1 t i y n d t' j y' n' d') (hb : Below V.heap.size V V') : Boxes V' B0 B1 B2 B3 a0 a1 n0 n1 cap0 cap1 t i y n d t' j y' n' d' := by
  obtain ⟨b00, b10, b11, b12, b13, b14, b20, b30, b31, b32, b33, b34, L0, L1, L2, L3⟩ := h
  obtain ⟨hc, _⟩ := bcell hb
  have hz := hb.size
  exact ⟨(hc _ _ L0).trans b00, (hc _ _ L1).trans b10, (hc _ _ L1).trans b11, (hc _ _ L1).trans b12, (hc _ _ L1).trans b13, (hc _ _ L1).trans b14, (hc _ _ L2).trans b20, (hc _ _ L3).trans b30, (hc _ _ L3).trans b31, (hc _ _ L3).trans b32, (hc _ _ L3).trans b33, (hc _ _ L3).trans b34, Nat.lt_of_lt_of_le L0 hz, Nat.lt_of_lt_of_le L1 hz, Nat.lt_of_lt_of_le L2 hz, Nat.lt_of_lt_of_le L3 hz⟩
set_option maxRecDepth 100000 in
set_option maxHeartbeats 2000000 in
theorem CompareCrossings_c (a0 a1 : Option Addr) (cap0 cap1 : Nat) (l m : List Fx) (t i y n d t' j y' n' d' : Int) (w : World) (hl : l.length ≤ 4611686018427387904) (hm : m.length ≤ 4611686018427387904) (hf : FixAt w a0 l) (hg : FixAt w a1 m) : Calls Try.prog 30 #[.agg #[.slice a0 l.length cap0], .agg #[.int .i64 t, .int .i64 i, .int .i64 y, .int .i64 n, .int .i64 d], .agg #[.slice a1 m.length cap1], .agg #[.int .i64 t', .int .i64 j, .int .i64 y', .int .i64 n', .int .i64 d']] w fun e w' => e = .returned (.tuple #[.int .i64 (cmpCrR l i n d m j n' d').1, .int .i64 (cmpCrR l i n d m j n' d').2]) ∧ Below w.heap.size w w' := by
  have hF0 := Lib.hid hf
  have hG0 := Lib.hid hg
  have tl := fun w h => IsTrack_c a0 cap0 l w hl h
  have tm := fun w h => IsTrack_c a1 cap1 m w hm h
  have TL := Lib.hid tl
  have TM := Lib.hid tm
  clear hf hg tl tm
  go_enter Try.func30, Try.ntmps30
  go_wp2_with fail
  obtain ⟨W, hW⟩ : ∃ W, W = (((w.alloc (.cells #[.slice a0 l.length cap0] 26)).alloc (.cells #[.int .i64 t, .int .i64 i, .int .i64 y, .int .i64 n, .int .i64 d] 57)).alloc (.cells #[.slice a1 m.length cap1] 26)).alloc (.cells #[.int .i64 t', .int .i64 j, .int .i64 y', .int .i64 n', .int .i64 d'] 57) := ⟨_, rfl⟩
  have HD : Below w.heap.size w W := by subst hW; exact (by repeat (first | with_reducible exact Below.refl _ _ | with_reducible assumption | with_reducible refine Below.drew ?_ | with_reducible refine Below.alloc ?_ (by first | exact Nat.le_refl _ | (simp; done) | (simp; omega) | omega) _ | with_reducible refine Below.setCell ?_ (by first | exact Nat.le_refl _ | (simp; done) | (simp; omega) | omega) _ | with_reducible refine Below.trans ?_ (Below.mono (by with_reducible assumption) (by first | exact Nat.le_refl _ | (simp; done) | (simp; omega) | omega))))
  have hX : Boxes W w.heap.size (w.heap.size + 1) (w.heap.size + 1 + 1) (w.heap.size + 1 + 1 + 1) a0 a1 l.length m.length cap0 cap1 t i y n d t' j y' n' d' := by
    subst hW
    exact ⟨by simp [go_sem], by simp [go_sem], by simp [go_sem], by simp [go_sem], by simp [go_sem], by simp [go_sem], by simp [go_sem], by simp [go_sem], by simp [go_sem], by simp [go_sem], by simp [go_sem], by simp [go_sem], by first | (simp; done) | (simp; omega), by first | (simp; done) | (simp; omega), by first | (simp; done) | (simp; omega), by simp⟩
  rw [← hW]
  clear hW
  generalize w.heap.size + 1 + 1 + 1 = B3 at *
  generalize w.heap.size + 1 + 1 = B2 at *
  generalize w.heap.size + 1 = B1 at *
  obtain ⟨B0, hB0⟩ : ∃ B, B = w.heap.size := ⟨_, rfl⟩
  rw [← hB0] at hX
  have HB := Lib.hid hX
  obtain ⟨b00, b10, b11, b12, b13, b14, b20, b30, b31, b32, b33, b34, L0, L1, L2, L3⟩ := hX
  try rw [← hB0]
  replace hB0 := Lib.hid hB0
  cases e1 : isTrk l
  · have HF := Lib.hid (cmpR_no1 (l := l) (i := i) (n := n) (d := d) (m := m) (j := j) (n' := n') (d' := d') e1)
    rw [e1] at TL
    refine (TL.out W (FixAt.below hF0.out HD)).mono ?_
    rintro e V1 ⟨rfl, hb⟩
    replace HD := HD.trans (hb.mono HD.size)
    clear b00 b10 b11 b12 b13 b14 b20 b30 b31 b32 b33 b34 L0 L1 L2 L3
    have hX := HB.out.below hb
    replace HB := Lib.hid hX
    obtain ⟨b00, b10, b11, b12, b13, b14, b20, b30, b31, b32, b33, b34, L0, L1, L2, L3⟩ := hX
    clear hb
    go_wp2_with fail
    go_ret2
    exact ⟨by rw [HF.out]; rfl, HD⟩
  rw [e1] at TL
  refine (TL.out W (FixAt.below hF0.out HD)).mono ?_
  rintro e V1 ⟨rfl, hb⟩
  replace HD := HD.trans (hb.mono HD.size)
  clear b00 b10 b11 b12 b13 b14 b20 b30 b31 b32 b33 b34 L0 L1 L2 L3
  have hX := HB.out.below hb
  replace HB := Lib.hid hX
  obtain ⟨b00, b10, b11, b12, b13, b14, b20, b30, b31, b32, b33, b34, L0, L1, L2, L3⟩ := hX
  clear hb
  go_wp2_with fail
  cases e2 : isTrk m
  · have HF := Lib.hid (cmpR_no2 (l := l) (i := i) (n := n) (d := d) (m := m) (j := j) (n' := n') (d' := d') e2)
    rw [e2] at TM
    refine (TM.out V1 (FixAt.below hG0.out HD)).mono ?_
    rintro e V2 ⟨rfl, hb⟩
    replace HD := HD.trans (hb.mono HD.size)
    clear b00 b10 b11 b12 b13 b14 b20 b30 b31 b32 b33 b34 L0 L1 L2 L3
    have hX := HB.out.below hb
    replace HB := Lib.hid hX
    obtain ⟨b00, b10, b11, b12, b13, b14, b20, b30, b31, b32, b33, b34, L0, L1, L2, L3⟩ := hX
    clear hb
    go_wp2_with fail
    go_ret2
    exact ⟨by rw [HF.out]; rfl, HD⟩
  rw [e2] at TM
  refine (TM.out V1 (FixAt.below hG0.out HD)).mono ?_
  rintro e V2 ⟨rfl, hb⟩
  replace HD := HD.trans (hb.mono HD.size)
  clear b00 b10 b11 b12 b13 b14 b20 b30 b31 b32 b33 b34 L0 L1 L2 L3
  have hX := HB.out.below hb
  replace HB := Lib.hid hX
  obtain ⟨b00, b10, b11, b12, b13, b14, b20, b30, b31, b32, b33, b34, L0, L1, L2, L3⟩ := hX
  clear hb
  go_wp2_with fail
  cases e3 : inR i 0 ((l.length : Int) - 2)
  · have HF := Lib.hid (cmpR_no3 (l := l) (i := i) (n := n) (d := d) (m := m) (j := j) (n' := n') (d' := d') e1 e2 (by simp [rightB, e3]))
    have cc := isLeg_c a0 l.length cap0 i V2 hl
    rw [e3] at cc
    refine (cc).mono ?_
    rintro e V3 ⟨rfl, hb⟩
    replace HD := HD.trans (hb.mono HD.size)
    clear b00 b10 b11 b12 b13 b14 b20 b30 b31 b32 b33 b34 L0 L1 L2 L3
    have hX := HB.out.below hb
    replace HB := Lib.hid hX
    obtain ⟨b00, b10, b11, b12, b13, b14, b20, b30, b31, b32, b33, b34, L0, L1, L2, L3⟩ := hX
    clear hb
    go_wp2_with fail
    clear cc
    go_ret2
    exact ⟨by rw [HF.out]; rfl, HD⟩
  have cc := isLeg_c a0 l.length cap0 i V2 hl
  rw [e3] at cc
  refine (cc).mono ?_
  rintro e V3 ⟨rfl, hb⟩
  replace HD := HD.trans (hb.mono HD.size)
  clear b00 b10 b11 b12 b13 b14 b20 b30 b31 b32 b33 b34 L0 L1 L2 L3
  have hX := HB.out.below hb
  replace HB := Lib.hid hX
  obtain ⟨b00, b10, b11, b12, b13, b14, b20, b30, b31, b32, b33, b34, L0, L1, L2, L3⟩ := hX
  clear hb
  go_wp2_with fail
  clear cc
  cases e4 : inR j 0 ((m.length : Int) - 2)
  · have HF := Lib.hid (cmpR_no4 (l := l) (i := i) (n := n) (d := d) (m := m) (j := j) (n' := n') (d' := d') e1 e2 (by simp [rightB, e4]))
    have cc := isLeg_c a1 m.length cap1 j V3 hm
    rw [e4] at cc
    refine (cc).mono ?_
    rintro e V4 ⟨rfl, hb⟩
    replace HD := HD.trans (hb.mono HD.size)
    clear b00 b10 b11 b12 b13 b14 b20 b30 b31 b32 b33 b34 L0 L1 L2 L3
    have hX := HB.out.below hb
    replace HB := Lib.hid hX
    obtain ⟨b00, b10, b11, b12, b13, b14, b20, b30, b31, b32, b33, b34, L0, L1, L2, L3⟩ := hX
    clear hb
    go_wp2_with fail
    clear cc
    go_ret2
    exact ⟨by rw [HF.out]; rfl, HD⟩
  have cc := isLeg_c a1 m.length cap1 j V3 hm
  rw [e4] at cc
  refine (cc).mono ?_
  rintro e V4 ⟨rfl, hb⟩
  replace HD := HD.trans (hb.mono HD.size)
  clear b00 b10 b11 b12 b13 b14 b20 b30 b31 b32 b33 b34 L0 L1 L2 L3
  have hX := HB.out.below hb
  replace HB := Lib.hid hX
  obtain ⟨b00, b10, b11, b12, b13, b14, b20, b30, b31, b32, b33, b34, L0, L1, L2, L3⟩ := hX
  clear hb
  go_wp2_with fail
  clear cc
  cases e5 : placeOK n d
  · have HF := Lib.hid (cmpR_no3 (l := l) (i := i) (n := n) (d := d) (m := m) (j := j) (n' := n') (d' := d') e1 e2 (by simp [rightB, e5]))
    have cc := isPlace_c n d V4
    rw [e5] at cc
    refine (cc).mono ?_
    rintro e V5 ⟨rfl, hb⟩
    replace HD := HD.trans (hb.mono HD.size)
    clear b00 b10 b11 b12 b13 b14 b20 b30 b31 b32 b33 b34 L0 L1 L2 L3
    have hX := HB.out.below hb
    replace HB := Lib.hid hX
    obtain ⟨b00, b10, b11, b12, b13, b14, b20, b30, b31, b32, b33, b34, L0, L1, L2, L3⟩ := hX
    clear hb
    go_wp2_with fail
    clear cc
    go_ret2
    exact ⟨by rw [HF.out]; rfl, HD⟩
  have cc := isPlace_c n d V4
  rw [e5] at cc
  refine (cc).mono ?_
  rintro e V5 ⟨rfl, hb⟩
  replace HD := HD.trans (hb.mono HD.size)
  clear b00 b10 b11 b12 b13 b14 b20 b30 b31 b32 b33 b34 L0 L1 L2 L3
  have hX := HB.out.below hb
  replace HB := Lib.hid hX
  obtain ⟨b00, b10, b11, b12, b13, b14, b20, b30, b31, b32, b33, b34, L0, L1, L2, L3⟩ := hX
  clear hb
  go_wp2_with fail
  clear cc
  cases e6 : placeOK n' d'
  · have HF := Lib.hid (cmpR_no4 (l := l) (i := i) (n := n) (d := d) (m := m) (j := j) (n' := n') (d' := d') e1 e2 (by simp [rightB, e6]))
    have cc := isPlace_c n' d' V5
    rw [e6] at cc
    refine (cc).mono ?_
    rintro e V6 ⟨rfl, hb⟩
    replace HD := HD.trans (hb.mono HD.size)
    clear b00 b10 b11 b12 b13 b14 b20 b30 b31 b32 b33 b34 L0 L1 L2 L3
    have hX := HB.out.below hb
    replace HB := Lib.hid hX
    obtain ⟨b00, b10, b11, b12, b13, b14, b20, b30, b31, b32, b33, b34, L0, L1, L2, L3⟩ := hX
    clear hb
    go_wp2_with fail
    clear cc
    go_ret2
    exact ⟨by rw [HF.out]; rfl, HD⟩
  have cc := isPlace_c n' d' V5
  rw [e6] at cc
  refine (cc).mono ?_
  rintro e V6 ⟨rfl, hb⟩
  replace HD := HD.trans (hb.mono HD.size)
  clear b00 b10 b11 b12 b13 b14 b20 b30 b31 b32 b33 b34 L0 L1 L2 L3
  have hX := HB.out.below hb
  replace HB := Lib.hid hX
  obtain ⟨b00, b10, b11, b12, b13, b14, b20, b30, b31, b32, b33, b34, L0, L1, L2, L3⟩ := hX
  clear hb
  go_wp2_with fail
  clear cc
  have HY := Lib.hid (cmpR_yes (l := l) (i := i) (n := n) (d := d) (m := m) (j := j) (n' := n') (d' := d') e1 e2 (by simp [rightB, e3, e5]) (by simp [rightB, e4, e6]))
  obtain ⟨k, hk0, hk⟩ := leg_nat e3
  obtain ⟨k2, hk1, hk2⟩ := leg_nat e4
  obtain ⟨x1, x2, x3, x4⟩ := cr_bd e1 hk e5
  obtain ⟨y1, y2, y3, y4⟩ := cr_bd e2 hk2 e6
  obtain ⟨d1, d2, _, _⟩ := placeOK_true e5
  obtain ⟨d3, d4, _, _⟩ := placeOK_true e6
  have hx := fun w h => exactTime_c a0 cap0 l t y n d k w hl e1 hk e5 h
  have hy := fun w h => exactTime_c a1 cap1 m t' y' n' d' k2 w hm e2 hk2 e6 h
  have hv : cmpCr l i n d m j n' d' = if wholeZ l k n d = wholeZ m k2 n' d' then cmpZ (restZ l k n d) d (restZ m k2 n' d') d' else sgn (wholeZ l k n d - wholeZ m k2 n' d') := by
    simp only [cmpCr, hk0, hk1, Int.toNat_natCast]
  rw [← hk0] at hx
  rw [← hk1] at hy
  clear hk0 hk1 hk hk2 e1 e2 e3 e4 e5 e6
  generalize wholeZ l k n d = X at *
  generalize wholeZ m k2 n' d' = Y at *
  generalize restZ l k n d = P at *
  generalize restZ m k2 n' d' = Q at *
  have HX := Lib.hid hx
  have HZ := Lib.hid hy
  have HV := Lib.hid hv
  clear hx hy hv
  refine (HX.out V6 (FixAt.below hF0.out HD)).mono ?_
  rintro e V7 ⟨rfl, hb⟩
  replace HD := HD.trans (hb.mono HD.size)
  clear b00 b10 b11 b12 b13 b14 b20 b30 b31 b32 b33 b34 L0 L1 L2 L3
  have hX := HB.out.below hb
  replace HB := Lib.hid hX
  obtain ⟨b00, b10, b11, b12, b13, b14, b20, b30, b31, b32, b33, b34, L0, L1, L2, L3⟩ := hX
  clear hb
  go_wp2_with fail
  have HE1 : Below w.heap.size w (V7.alloc (.cells #[.int .i64 P, .int .i64 d] 55)) := HD.alloc HD.size _
  refine (HZ.out _ (FixAt.below hG0.out HE1)).mono ?_
  rintro e V8 ⟨rfl, hb⟩
  have HE2 : Below w.heap.size w V8 := HE1.trans (hb.mono HE1.size)
  have c0 := hb.cell (p := ⟨V7.heap.size, 0, none⟩) (by simp)
  have c1 := hb.cell (p := ⟨V7.heap.size, 1, none⟩) (by simp)
  have hz := hb.size
  simp at c0 c1 hz
  have l4 : V7.heap.size < V8.heap.size := by omega
  have hs2 := HE2.size
  clear hb HD HE1 HZ HX HB TL TM b00 b10 b11 b12 b13 b14 b20 b30 b31 b32 b33 b34 L0 L1 L2 L3
  by_cases he : X = Y
  · subst he
    go_wp2_with (go_at_call 83; refine (compareRatios_c _ _ _ _ _ d1 d2 d3 d4 (by omega) (by omega) (by omega) (by omega)).mono ?_; rintro e w1 ⟨rfl, hb⟩; (try replace hb := below_trans (by with_reducible assumption) hb); obtain ⟨hc, hf⟩ := bcell hb; have hz := hb.size; (try simp at hz); (try have hz0 : w.heap.size ≤ w1.heap.size := by omega); (try have hz1 : w.heap.size < w1.heap.size := by omega); (try have hz2 : w.heap.size + 1 < w1.heap.size := by omega); (try have hz3 : w.heap.size + 1 + 1 < w1.heap.size := by omega); (try have hz4 : w.heap.size + 1 + 1 + 1 < w1.heap.size := by omega))
    go_ret2
    exact ⟨by rw [HY.out, HV.out]; first | rfl | simp, (by repeat (first | with_reducible exact Below.refl _ _ | with_reducible assumption | with_reducible refine Below.drew ?_ | with_reducible refine Below.alloc ?_ (by first | exact Nat.le_refl _ | (simp; done) | (simp; omega) | omega) _ | with_reducible refine Below.setCell ?_ (by first | exact Nat.le_refl _ | (simp; done) | (simp; omega) | omega) _ | with_reducible refine Below.trans ?_ (Below.mono (by with_reducible assumption) (by first | exact Nat.le_refl _ | (simp; done) | (simp; omega) | omega))))⟩
  · have he2 : (X == Y) = false := by simpa using he
    go_wp2_with (go_at_call 82; refine (sign_c _ _).mono ?_; rintro e w' ⟨rfl, rfl⟩)
    go_ret2
    exact ⟨by rw [HY.out, HV.out]; first | rfl | simp [he], (by repeat (first | with_reducible exact Below.refl _ _ | with_reducible assumption | with_reducible refine Below.drew ?_ | with_reducible refine Below.alloc ?_ (by first | exact Nat.le_refl _ | (simp; done) | (simp; omega) | omega) _ | with_reducible refine Below.setCell ?_ (by first | exact Nat.le_refl _ | (simp; done) | (simp; omega) | omega) _ | with_reducible refine Below.trans ?_ (Below.mono (by with_reducible assumption) (by first | exact Nat.le_refl _ | (simp; done) | (simp; omega) | omega))))⟩
set_option maxRecDepth 100000 in
set_option maxHeartbeats 2000000 in
theorem CompareCrossingsS_c (a0 a1 : Option Addr) (cap0 cap1 : Nat) (l m : List Fx) (t i y n d t' j y' n' d' : Int) (w : World) (hl : l.length ≤ 4611686018427387904) (hm : m.length ≤ 4611686018427387904) (hf : FixAt w a0 l) (hg : FixAt w a1 m) : Calls Try.prog 27 #[.agg #[.slice a0 l.length cap0], .agg #[.int .i64 t, .int .i64 i, .int .i64 y, .int .i64 n, .int .i64 d], .agg #[.slice a1 m.length cap1], .agg #[.int .i64 t', .int .i64 j, .int .i64 y', .int .i64 n', .int .i64 d']] w fun e w' => e = .returned (.tuple #[.int .i64 (cmpCrR l i n d m j n' d').1, .int .i64 (cmpCrR l i n d m j n' d').2]) ∧ Below w.heap.size w w' := by
  have hF0 := Lib.hid hf
  have hG0 := Lib.hid hg
  have tl := fun w h => IsTrackS_c a0 cap0 l w hl h
  have tm := fun w h => IsTrackS_c a1 cap1 m w hm h
  have TL := Lib.hid tl
  have TM := Lib.hid tm
  clear hf hg tl tm
  go_enter Try.func27, Try.ntmps27
  go_wp2_with fail
  obtain ⟨W, hW⟩ : ∃ W, W = (((w.alloc (.cells #[.slice a0 l.length cap0] 26)).alloc (.cells #[.int .i64 t, .int .i64 i, .int .i64 y, .int .i64 n, .int .i64 d] 57)).alloc (.cells #[.slice a1 m.length cap1] 26)).alloc (.cells #[.int .i64 t', .int .i64 j, .int .i64 y', .int .i64 n', .int .i64 d'] 57) := ⟨_, rfl⟩
  have HD : Below w.heap.size w W := by subst hW; exact (by repeat (first | with_reducible exact Below.refl _ _ | with_reducible assumption | with_reducible refine Below.drew ?_ | with_reducible refine Below.alloc ?_ (by first | exact Nat.le_refl _ | (simp; done) | (simp; omega) | omega) _ | with_reducible refine Below.setCell ?_ (by first | exact Nat.le_refl _ | (simp; done) | (simp; omega) | omega) _ | with_reducible refine Below.trans ?_ (Below.mono (by with_reducible assumption) (by first | exact Nat.le_refl _ | (simp; done) | (simp; omega) | omega))))
  have hX : Boxes W w.heap.size (w.heap.size + 1) (w.heap.size + 1 + 1) (w.heap.size + 1 + 1 + 1) a0 a1 l.length m.length cap0 cap1 t i y n d t' j y' n' d' := by
    subst hW
    exact ⟨by simp [go_sem], by simp [go_sem], by simp [go_sem], by simp [go_sem], by simp [go_sem], by simp [go_sem], by simp [go_sem], by simp [go_sem], by simp [go_sem], by simp [go_sem], by simp [go_sem], by simp [go_sem], by first | (simp; done) | (simp; omega), by first | (simp; done) | (simp; omega), by first | (simp; done) | (simp; omega), by simp⟩
  rw [← hW]
  clear hW
  generalize w.heap.size + 1 + 1 + 1 = B3 at *
  generalize w.heap.size + 1 + 1 = B2 at *
  generalize w.heap.size + 1 = B1 at *
  obtain ⟨B0, hB0⟩ : ∃ B, B = w.heap.size := ⟨_, rfl⟩
  rw [← hB0] at hX
  have HB := Lib.hid hX
  obtain ⟨b00, b10, b11, b12, b13, b14, b20, b30, b31, b32, b33, b34, L0, L1, L2, L3⟩ := hX
  try rw [← hB0]
  replace hB0 := Lib.hid hB0
  cases e1 : isTrk l
  · have HF := Lib.hid (cmpR_no1 (l := l) (i := i) (n := n) (d := d) (m := m) (j := j) (n' := n') (d' := d') e1)
    rw [e1] at TL
    refine (TL.out W (FixAt.below hF0.out HD)).mono ?_
    rintro e V1 ⟨rfl, hb⟩
    replace HD := HD.trans (hb.mono HD.size)
    clear b00 b10 b11 b12 b13 b14 b20 b30 b31 b32 b33 b34 L0 L1 L2 L3
    have hX := HB.out.below hb
    replace HB := Lib.hid hX
    obtain ⟨b00, b10, b11, b12, b13, b14, b20, b30, b31, b32, b33, b34, L0, L1, L2, L3⟩ := hX
    clear hb
    go_wp2_with fail
    go_ret2
    exact ⟨by rw [HF.out]; rfl, HD⟩
  rw [e1] at TL
  refine (TL.out W (FixAt.below hF0.out HD)).mono ?_
  rintro e V1 ⟨rfl, hb⟩
  replace HD := HD.trans (hb.mono HD.size)
  clear b00 b10 b11 b12 b13 b14 b20 b30 b31 b32 b33 b34 L0 L1 L2 L3
  have hX := HB.out.below hb
  replace HB := Lib.hid hX
  obtain ⟨b00, b10, b11, b12, b13, b14, b20, b30, b31, b32, b33, b34, L0, L1, L2, L3⟩ := hX
  clear hb
  go_wp2_with fail
  cases e2 : isTrk m
  · have HF := Lib.hid (cmpR_no2 (l := l) (i := i) (n := n) (d := d) (m := m) (j := j) (n' := n') (d' := d') e2)
    rw [e2] at TM
    refine (TM.out V1 (FixAt.below hG0.out HD)).mono ?_
    rintro e V2 ⟨rfl, hb⟩
    replace HD := HD.trans (hb.mono HD.size)
    clear b00 b10 b11 b12 b13 b14 b20 b30 b31 b32 b33 b34 L0 L1 L2 L3
    have hX := HB.out.below hb
    replace HB := Lib.hid hX
    obtain ⟨b00, b10, b11, b12, b13, b14, b20, b30, b31, b32, b33, b34, L0, L1, L2, L3⟩ := hX
    clear hb
    go_wp2_with fail
    go_ret2
    exact ⟨by rw [HF.out]; rfl, HD⟩
  rw [e2] at TM
  refine (TM.out V1 (FixAt.below hG0.out HD)).mono ?_
  rintro e V2 ⟨rfl, hb⟩
  replace HD := HD.trans (hb.mono HD.size)
  clear b00 b10 b11 b12 b13 b14 b20 b30 b31 b32 b33 b34 L0 L1 L2 L3
  have hX := HB.out.below hb
  replace HB := Lib.hid hX
  obtain ⟨b00, b10, b11, b12, b13, b14, b20, b30, b31, b32, b33, b34, L0, L1, L2, L3⟩ := hX
  clear hb
  go_wp2_with fail
  cases e3 : rightB l i n d
  · have HF := Lib.hid (cmpR_no3 (l := l) (i := i) (n := n) (d := d) (m := m) (j := j) (n' := n') (d' := d') e1 e2 e3)
    have cc := l05Right_c a0 cap0 l.length t i y n d V2 hl
    rw [show (inR i 0 ((l.length : Int) - 2) && placeOK n d) = rightB l i n d from rfl, e3] at cc
    refine (cc).mono ?_
    rintro e V3 ⟨rfl, hb⟩
    replace HD := HD.trans (hb.mono HD.size)
    clear b00 b10 b11 b12 b13 b14 b20 b30 b31 b32 b33 b34 L0 L1 L2 L3
    have hX := HB.out.below hb
    replace HB := Lib.hid hX
    obtain ⟨b00, b10, b11, b12, b13, b14, b20, b30, b31, b32, b33, b34, L0, L1, L2, L3⟩ := hX
    clear hb
    go_wp2_with fail
    clear cc
    go_ret2
    exact ⟨by rw [HF.out]; rfl, HD⟩
  have cc := l05Right_c a0 cap0 l.length t i y n d V2 hl
  rw [show (inR i 0 ((l.length : Int) - 2) && placeOK n d) = rightB l i n d from rfl, e3] at cc
  refine (cc).mono ?_
  rintro e V3 ⟨rfl, hb⟩
  replace HD := HD.trans (hb.mono HD.size)
  clear b00 b10 b11 b12 b13 b14 b20 b30 b31 b32 b33 b34 L0 L1 L2 L3
  have hX := HB.out.below hb
  replace HB := Lib.hid hX
  obtain ⟨b00, b10, b11, b12, b13, b14, b20, b30, b31, b32, b33, b34, L0, L1, L2, L3⟩ := hX
  clear hb
  go_wp2_with fail
  clear cc
  cases e4 : rightB m j n' d'
  · have HF := Lib.hid (cmpR_no4 (l := l) (i := i) (n := n) (d := d) (m := m) (j := j) (n' := n') (d' := d') e1 e2 e4)
    have cc := l05Right_c a1 cap1 m.length t' j y' n' d' V3 hm
    rw [show (inR j 0 ((m.length : Int) - 2) && placeOK n' d') = rightB m j n' d' from rfl, e4] at cc
    refine (cc).mono ?_
    rintro e V4 ⟨rfl, hb⟩
    replace HD := HD.trans (hb.mono HD.size)
    clear b00 b10 b11 b12 b13 b14 b20 b30 b31 b32 b33 b34 L0 L1 L2 L3
    have hX := HB.out.below hb
    replace HB := Lib.hid hX
    obtain ⟨b00, b10, b11, b12, b13, b14, b20, b30, b31, b32, b33, b34, L0, L1, L2, L3⟩ := hX
    clear hb
    go_wp2_with fail
    clear cc
    go_ret2
    exact ⟨by rw [HF.out]; rfl, HD⟩
  have cc := l05Right_c a1 cap1 m.length t' j y' n' d' V3 hm
  rw [show (inR j 0 ((m.length : Int) - 2) && placeOK n' d') = rightB m j n' d' from rfl, e4] at cc
  refine (cc).mono ?_
  rintro e V4 ⟨rfl, hb⟩
  replace HD := HD.trans (hb.mono HD.size)
  clear b00 b10 b11 b12 b13 b14 b20 b30 b31 b32 b33 b34 L0 L1 L2 L3
  have hX := HB.out.below hb
  replace HB := Lib.hid hX
  obtain ⟨b00, b10, b11, b12, b13, b14, b20, b30, b31, b32, b33, b34, L0, L1, L2, L3⟩ := hX
  clear hb
  go_wp2_with fail
  clear cc
  have e5 : placeOK n d = true := by simp only [rightB, Bool.and_eq_true] at e3; exact e3.2
  have e6 : placeOK n' d' = true := by simp only [rightB, Bool.and_eq_true] at e4; exact e4.2
  have e7 : inR i 0 ((l.length : Int) - 2) = true := by simp only [rightB, Bool.and_eq_true] at e3; exact e3.1
  have e8 : inR j 0 ((m.length : Int) - 2) = true := by simp only [rightB, Bool.and_eq_true] at e4; exact e4.1
  have HY := Lib.hid (cmpR_yes (l := l) (i := i) (n := n) (d := d) (m := m) (j := j) (n' := n') (d' := d') e1 e2 (e3) (e4))
  obtain ⟨k, hk0, hk⟩ := leg_nat e7
  obtain ⟨k2, hk1, hk2⟩ := leg_nat e8
  have hx := fun w h h' => l05Compare_c a0 a1 cap0 cap1 l m t y n d t' y' n' d' k k2 w hl hm e1 e2 hk hk2 e5 e6 h h'
  rw [← hk0, ← hk1] at hx
  clear hk0 hk1 hk hk2 e1 e2 e3 e4 e5 e6 e7 e8
  generalize cmpCr l i n d m j n' d' = V at *
  refine (hx V4 (FixAt.below hF0.out HD) (FixAt.below hG0.out HD)).mono ?_
  rintro e V5 ⟨rfl, hb⟩
  replace HD := HD.trans (hb.mono HD.size)
  clear b00 b10 b11 b12 b13 b14 b20 b30 b31 b32 b33 b34 L0 L1 L2 L3
  have hX := HB.out.below hb
  replace HB := Lib.hid hX
  obtain ⟨b00, b10, b11, b12, b13, b14, b20, b30, b31, b32, b33, b34, L0, L1, L2, L3⟩ := hX
  clear hb
  go_wp2_with fail
  go_ret2
  exact ⟨by rw [HY.out]; rfl, HD⟩
end Go.Proofs.Ytdepdkpehbkcjaa
