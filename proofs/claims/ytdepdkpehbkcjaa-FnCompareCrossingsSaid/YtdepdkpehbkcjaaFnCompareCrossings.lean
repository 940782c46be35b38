/-
  FnCompareCrossings: for every code the law's function answers true. No condition.
-/
import Derived.Test.YtdepdkpehbkcjaaRows
import Derived.Test.YtdepdkpehbkcjaaTdraw9
import Derived.Test.YtdepdkpehbkcjaaL05d
namespace Go.Proofs.Ytdepdkpehbkcjaa.fnCompareCrossings
open Go.ChangeShapes Go.WideShapes Go.ChangeAt Go.RowKit Go.Deep
open Go.ChangeMaps (open_string shut_string)
set_option linter.unusedVariables false

theorem fixC {w : World} {r k : Nat} {l : List Fx} (h : FixAt w (some ⟨r, 0, none⟩) l) (hk : k < l.length) : w.cell? ⟨r, k * 3, none⟩ = some (.int .i64 (fx l k).t) ∧ w.cell? ⟨r, k * 3 + 1, none⟩ = some (.int .i64 (fx l k).x) ∧ w.cell? ⟨r, k * 3 + 2, none⟩ = some (.int .i64 (fx l k).y) ∧ r < w.heap.size := by
  obtain ⟨b, off, ha, hlt, c0, c1, c2⟩ := h k _ (fx_of hk)
  simp at ha
  obtain ⟨rfl, rfl⟩ := ha
  exact ⟨by simpa using c0, by simpa using c1, by simpa using c2, hlt⟩
theorem right_nat {l : List Fx} {i n d : Int} (h : rightB l i n d = true) : ∃ k : Nat, i = (k : Int) ∧ k + 1 < l.length ∧ placeOK n d = true := by
  unfold rightB at h
  simp only [Bool.and_eq_true] at h
  obtain ⟨k, hk, hk2⟩ := leg_nat h.1
  exact ⟨k, hk, hk2, h.2⟩
theorem cmp_cases (l : List Fx) (i n d : Int) (m : List Fx) (j n' d' : Int) : (cmpCrR l i n d m j n' d').2 ≠ 0 ∨ (isTrk l = true ∧ isTrk m = true ∧ rightB l i n d = true ∧ rightB m j n' d' = true) := by
  unfold cmpCrR
  by_cases h : isTrk l = true ∧ isTrk m = true
  · rw [if_pos h]
    by_cases h2 : rightB l i n d = true ∧ rightB m j n' d' = true
    · exact .inr ⟨h.1, h.2, h2.1, h2.2⟩
    · rw [if_neg h2]; exact .inl (by simp)
  · rw [if_neg h]; exact .inl (by simp)
theorem cmp_anti (l : List Fx) (i n d : Int) (m : List Fx) (j n' d' : Int) : cmpCr m j n' d' l i n d = -cmpCr l i n d m j n' d' := by
  unfold cmpCr
  by_cases h : wholeZ l i.toNat n d = wholeZ m j.toNat n' d'
  · rw [if_pos h, if_pos h.symm]
    unfold cmpZ
    rw [← sgn_minus]
    congr 1
    omega
  · rw [if_neg h, if_neg (fun e => h e.symm), ← sgn_minus]
    congr 1
    omega
theorem cmp_self (l : List Fx) (i n d : Int) : cmpCr l i n d l i n d = 0 := by
  unfold cmpCr
  rw [if_pos rfl]
  unfold cmpZ
  rw [Int.sub_self]
  rfl
theorem cmp_bd (l : List Fx) (i n d : Int) (m : List Fx) (j n' d' : Int) : -1 ≤ cmpCr l i n d m j n' d' ∧ cmpCr l i n d m j n' d' ≤ 1 := by
  unfold cmpCr cmpZ
  split <;> exact sgn_bd _
theorem cmp_later {l m : List Fx} {i j : Nat} {n d n' d' : Int} (h1 : isTrk l = true) (h2 : isTrk m = true) (hi : i + 1 < l.length) (hj : j + 1 < m.length) (hp : placeOK n d = true) (hq : placeOK n' d' = true) (h : (fx m (j + 1)).t < (fx l i).t) : 0 < cmpCr l (i : Int) n d m (j : Int) n' d' := by
  have p := placeOK_true hp
  have q := placeOK_true hq
  have a := cr_time h1 hi p.2.2.1 p.2.2.2 p.1
  have b := cr_time h2 hj q.2.2.1 q.2.2.2 q.1
  have c : lapZ m j = (fx m (j + 1)).t - (fx m j).t := rfl
  have ha : wholeZ l i n d = (fx l i).t + lapZ l i * n / d := rfl
  have hb : wholeZ m j n' d' = (fx m j).t + lapZ m j * n' / d' := rfl
  unfold cmpCr
  simp only [Int.toNat_natCast]
  rw [if_neg (by omega), sgn_1 (by omega)]
  omega

set_option maxRecDepth 100000 in
set_option maxHeartbeats 2000000 in
theorem walk (a : Option Addr) (cap n : Nat) (w : World) (w0 : n ≤ 9223372036854775807 ∧ BytesB w.heap.size w a n) :
    Calls Try.prog 9 #[.slice a n cap] w fun e w' => e = .returned (.bool true) ∧ Below w.heap.size w w' := by
  obtain ⟨hn, hb⟩ := w0
  have HB := Lib.hid hb
  clear hb
  by_cases h : (4096 : Int) < (n : Int)
  · have CB := Lib.hid (fun w => big_t a n cap w hn h)
    go_enter Try.func9, Try.ntmps9
    go_wp2_with (go_at_call 13; refine (CB.out _).mono ?_; rintro e w' ⟨rfl, rfl⟩)
    go_ret
    exact ⟨rfl, (by repeat (first | with_reducible exact Below.refl _ _ | with_reducible assumption | with_reducible refine Below.drew ?_ | with_reducible refine Below.alloc ?_ (by first | exact Nat.le_refl _ | (simp; done) | (simp; omega) | omega) _ | with_reducible refine Below.setCell ?_ (by first | exact Nat.le_refl _ | (simp; done) | (simp; omega) | omega) _ | with_reducible refine Below.trans ?_ (Below.mono (by with_reducible assumption) (by first | exact Nat.le_refl _ | (simp; done) | (simp; omega) | omega))))⟩
  have CB := Lib.hid (fun w => big_f a n cap w hn h)
  clear h
  go_enter Try.func9, Try.ntmps9
  go_wp2_with (go_at_call 13; refine (CB.out _).mono ?_; rintro e w' ⟨rfl, rfl⟩)
  refine (DrawCompareCrossings_c a n cap _ hn (bytes_at HB.out (by repeat (first | with_reducible exact Below.refl _ _ | with_reducible assumption | with_reducible refine Below.drew ?_ | with_reducible refine Below.alloc ?_ (by first | exact Nat.le_refl _ | (simp; done) | (simp; omega) | omega) _ | with_reducible refine Below.setCell ?_ (by first | exact Nat.le_refl _ | (simp; done) | (simp; omega) | omega) _ | with_reducible refine Below.trans ?_ (Below.mono (by with_reducible assumption) (by first | exact Nat.le_refl _ | (simp; done) | (simp; omega) | omega)))))).mono ?_
  rintro e V1 ⟨⟨r, cp, l, x0, x1, x2, x3, x4, r', cp', l', y0, y1, y2, y3, y4, rfl, hl0, ho, ho'⟩, hbV⟩
  clear CB HB
  have hzV := hbV.size
  go_wp2_with fail
  obtain ⟨W, hW⟩ : ∃ W, W = ((((V1.alloc (.cells #[.slice (some ⟨r, 0, none⟩) l.length cp] 26)).alloc (.cells #[.int .i64 x0, .int .i64 x1, .int .i64 x2, .int .i64 x3, .int .i64 x4] 57)).alloc (.cells #[.slice (some ⟨r', 0, none⟩) l'.length cp'] 26)).alloc (.cells #[.int .i64 y0, .int .i64 y1, .int .i64 y2, .int .i64 y3, .int .i64 y4] 57)) := ⟨_, rfl⟩
  have HD : Below w.heap.size w W := by subst hW; exact (by repeat (first | with_reducible exact Below.refl _ _ | with_reducible assumption | with_reducible refine Below.drew ?_ | with_reducible refine Below.alloc ?_ (by first | exact Nat.le_refl _ | (simp; done) | (simp; omega) | omega) _ | with_reducible refine Below.setCell ?_ (by first | exact Nat.le_refl _ | (simp; done) | (simp; omega) | omega) _ | with_reducible refine Below.trans ?_ (Below.mono (by with_reducible assumption) (by first | exact Nat.le_refl _ | (simp; done) | (simp; omega) | omega))))
  have HV : Below V1.heap.size V1 W := by subst hW; exact (by repeat (first | with_reducible exact Below.refl _ _ | with_reducible assumption | with_reducible refine Below.drew ?_ | with_reducible refine Below.alloc ?_ (by first | exact Nat.le_refl _ | (simp; done) | (simp; omega) | omega) _ | with_reducible refine Below.setCell ?_ (by first | exact Nat.le_refl _ | (simp; done) | (simp; omega) | omega) _ | with_reducible refine Below.trans ?_ (Below.mono (by with_reducible assumption) (by first | exact Nat.le_refl _ | (simp; done) | (simp; omega) | omega))))
  have b00 : W.cell? ⟨V1.heap.size, 0, none⟩ = some (.slice (some ⟨r, 0, none⟩) l.length cp) := by subst hW; simp [go_sem]
  have L0 : V1.heap.size < W.heap.size := by subst hW; first | (simp; done) | (simp; omega)
  have b10 : W.cell? ⟨V1.heap.size + 1, 0, none⟩ = some (.int .i64 x0) := by subst hW; simp [go_sem]
  have b11 : W.cell? ⟨V1.heap.size + 1, 1, none⟩ = some (.int .i64 x1) := by subst hW; simp [go_sem]
  have b12 : W.cell? ⟨V1.heap.size + 1, 2, none⟩ = some (.int .i64 x2) := by subst hW; simp [go_sem]
  have b13 : W.cell? ⟨V1.heap.size + 1, 3, none⟩ = some (.int .i64 x3) := by subst hW; simp [go_sem]
  have b14 : W.cell? ⟨V1.heap.size + 1, 4, none⟩ = some (.int .i64 x4) := by subst hW; simp [go_sem]
  have L1 : V1.heap.size + 1 < W.heap.size := by subst hW; first | (simp; done) | (simp; omega)
  have b20 : W.cell? ⟨V1.heap.size + 1 + 1, 0, none⟩ = some (.slice (some ⟨r', 0, none⟩) l'.length cp') := by subst hW; simp [go_sem]
  have L2 : V1.heap.size + 1 + 1 < W.heap.size := by subst hW; first | (simp; done) | (simp; omega)
  have b30 : W.cell? ⟨V1.heap.size + 1 + 1 + 1, 0, none⟩ = some (.int .i64 y0) := by subst hW; simp [go_sem]
  have b31 : W.cell? ⟨V1.heap.size + 1 + 1 + 1, 1, none⟩ = some (.int .i64 y1) := by subst hW; simp [go_sem]
  have b32 : W.cell? ⟨V1.heap.size + 1 + 1 + 1, 2, none⟩ = some (.int .i64 y2) := by subst hW; simp [go_sem]
  have b33 : W.cell? ⟨V1.heap.size + 1 + 1 + 1, 3, none⟩ = some (.int .i64 y3) := by subst hW; simp [go_sem]
  have b34 : W.cell? ⟨V1.heap.size + 1 + 1 + 1, 4, none⟩ = some (.int .i64 y4) := by subst hW; simp [go_sem]
  have L3 : V1.heap.size + 1 + 1 + 1 < W.heap.size := by subst hW; first | (simp; done) | (simp; omega)
  rw [← hW]
  clear hW
  generalize V1.heap.size + 1 + 1 + 1 = B3 at *
  generalize V1.heap.size + 1 + 1 = B2 at *
  generalize V1.heap.size + 1 = B1 at *
  obtain ⟨B0, hB0⟩ : ∃ B, B = V1.heap.size := ⟨_, rfl⟩
  rw [← hB0] at b00 L0
  try rw [← hB0]
  replace hB0 := Lib.hid hB0
  have hn2 : l.length ≤ 4611686018427387904 := by omega
  have hn3 : l'.length ≤ 4611686018427387904 := by omega
  have FV := Lib.hid (FixAt.below ho HV)
  have FM := Lib.hid (FixAt.below ho' HV)
  clear ho ho' HV
  rcases cmp_cases l x1 x3 x4 l' y1 y3 y4 with E | ⟨hT1, hT2, hR1, hR2⟩
  case inl =>
    have C1 := Lib.hid (fun W h h2 => CompareCrossings_c (some ⟨r, 0, none⟩) (some ⟨r', 0, none⟩) cp cp' l l' x0 x1 x2 x3 x4 y0 y1 y2 y3 y4 W hn2 hn3 h h2)
    have C2 := Lib.hid (fun W h h2 => CompareCrossingsS_c (some ⟨r, 0, none⟩) (some ⟨r', 0, none⟩) cp cp' l l' x0 x1 x2 x3 x4 y0 y1 y2 y3 y4 W hn2 hn3 h h2)
    generalize cmpCrR l x1 x3 x4 l' y1 y3 y4 = R at *
    obtain ⟨N, M⟩ := R
    simp only at E C1 C2
    refine (C1.out _ FV.out FM.out).mono ?_
    rintro e U1 ⟨rfl, hb⟩
    replace HD := HD.trans (hb.mono HD.size)
    obtain ⟨hc, hf⟩ := bcell hb
    have hz := hb.size
    replace b00 := (hc _ 0 L0).trans b00
    replace b10 := (hc _ 0 L1).trans b10
    replace b11 := (hc _ 1 L1).trans b11
    replace b12 := (hc _ 2 L1).trans b12
    replace b13 := (hc _ 3 L1).trans b13
    replace b14 := (hc _ 4 L1).trans b14
    replace b20 := (hc _ 0 L2).trans b20
    replace b30 := (hc _ 0 L3).trans b30
    replace b31 := (hc _ 1 L3).trans b31
    replace b32 := (hc _ 2 L3).trans b32
    replace b33 := (hc _ 3 L3).trans b33
    replace b34 := (hc _ 4 L3).trans b34
    replace FV := Lib.hid (FixAt.below FV.out hb)
    replace FM := Lib.hid (FixAt.below FM.out hb)
    replace L0 := Nat.lt_of_lt_of_le L0 hz
    replace L1 := Nat.lt_of_lt_of_le L1 hz
    replace L2 := Nat.lt_of_lt_of_le L2 hz
    replace L3 := Nat.lt_of_lt_of_le L3 hz
    clear hc hf hz hb
    go_wp2_with fail
    refine (C2.out _ FV.out FM.out).mono ?_
    rintro e U2 ⟨rfl, hb⟩
    replace HD := HD.trans (hb.mono HD.size)
    obtain ⟨hc, hf⟩ := bcell hb
    have hz := hb.size
    replace b00 := (hc _ 0 L0).trans b00
    replace b10 := (hc _ 0 L1).trans b10
    replace b11 := (hc _ 1 L1).trans b11
    replace b12 := (hc _ 2 L1).trans b12
    replace b13 := (hc _ 3 L1).trans b13
    replace b14 := (hc _ 4 L1).trans b14
    replace b20 := (hc _ 0 L2).trans b20
    replace b30 := (hc _ 0 L3).trans b30
    replace b31 := (hc _ 1 L3).trans b31
    replace b32 := (hc _ 2 L3).trans b32
    replace b33 := (hc _ 3 L3).trans b33
    replace b34 := (hc _ 4 L3).trans b34
    replace FV := Lib.hid (FixAt.below FV.out hb)
    replace FM := Lib.hid (FixAt.below FM.out hb)
    replace L0 := Nat.lt_of_lt_of_le L0 hz
    replace L1 := Nat.lt_of_lt_of_le L1 hz
    replace L2 := Nat.lt_of_lt_of_le L2 hz
    replace L3 := Nat.lt_of_lt_of_le L3 hz
    clear hc hf hz hb
    go_wp2_with fail
    go_ret
    exact ⟨rfl, HD⟩
  case inr =>
    have E1 : cmpCrR l x1 x3 x4 l' y1 y3 y4 = (cmpCr l x1 x3 x4 l' y1 y3 y4, 0) := by unfold cmpCrR; rw [if_pos ⟨hT1, hT2⟩, if_pos ⟨hR1, hR2⟩]
    have E2 : cmpCrR l' y1 y3 y4 l x1 x3 x4 = (-cmpCr l x1 x3 x4 l' y1 y3 y4, 0) := by unfold cmpCrR; rw [if_pos ⟨hT2, hT1⟩, if_pos ⟨hR2, hR1⟩, cmp_anti]
    have E3 : cmpCrR l x1 x3 x4 l x1 x3 x4 = (0, 0) := by unfold cmpCrR; rw [if_pos ⟨hT1, hT1⟩, if_pos ⟨hR1, hR1⟩, cmp_self]
    have C1 := Lib.hid (fun W h h2 => E1 ▸ CompareCrossings_c (some ⟨r, 0, none⟩) (some ⟨r', 0, none⟩) cp cp' l l' x0 x1 x2 x3 x4 y0 y1 y2 y3 y4 W hn2 hn3 h h2)
    have C2 := Lib.hid (fun W h h2 => E1 ▸ CompareCrossingsS_c (some ⟨r, 0, none⟩) (some ⟨r', 0, none⟩) cp cp' l l' x0 x1 x2 x3 x4 y0 y1 y2 y3 y4 W hn2 hn3 h h2)
    have C3 := Lib.hid (fun W h h2 => E2 ▸ CompareCrossings_c (some ⟨r', 0, none⟩) (some ⟨r, 0, none⟩) cp' cp l' l y0 y1 y2 y3 y4 x0 x1 x2 x3 x4 W hn3 hn2 h h2)
    have C4 := Lib.hid (fun W h h2 => E3 ▸ CompareCrossings_c (some ⟨r, 0, none⟩) (some ⟨r, 0, none⟩) cp cp l l x0 x1 x2 x3 x4 x0 x1 x2 x3 x4 W hn2 hn2 h h2)
    clear E1 E2 E3
    obtain ⟨I, rfl, hI, hp⟩ := right_nat hR1
    obtain ⟨J, rfl, hJ, hq⟩ := right_nat hR2
    have HL := Lib.hid (fun h => cmp_later hT1 hT2 hI hJ hp hq h)
    have HB := cmp_bd l (I : Int) x3 x4 l' (J : Int) y3 y4
    clear hT1 hT2 hR1 hR2 hp hq
    generalize cmpCr l (I : Int) x3 x4 l' (J : Int) y3 y4 = N at *
    simp only at C1 C2 C3 C4
    have w1 : IntKind.i64.wrap (-N) = -N := by rw [IntKind.wrap_i64]; omega
    clear HB
    refine (C1.out _ FV.out FM.out).mono ?_
    rintro e U1 ⟨rfl, hb⟩
    replace HD := HD.trans (hb.mono HD.size)
    obtain ⟨hc, hf⟩ := bcell hb
    have hz := hb.size
    replace b00 := (hc _ 0 L0).trans b00
    replace b10 := (hc _ 0 L1).trans b10
    replace b11 := (hc _ 1 L1).trans b11
    replace b12 := (hc _ 2 L1).trans b12
    replace b13 := (hc _ 3 L1).trans b13
    replace b14 := (hc _ 4 L1).trans b14
    replace b20 := (hc _ 0 L2).trans b20
    replace b30 := (hc _ 0 L3).trans b30
    replace b31 := (hc _ 1 L3).trans b31
    replace b32 := (hc _ 2 L3).trans b32
    replace b33 := (hc _ 3 L3).trans b33
    replace b34 := (hc _ 4 L3).trans b34
    replace FV := Lib.hid (FixAt.below FV.out hb)
    replace FM := Lib.hid (FixAt.below FM.out hb)
    replace L0 := Nat.lt_of_lt_of_le L0 hz
    replace L1 := Nat.lt_of_lt_of_le L1 hz
    replace L2 := Nat.lt_of_lt_of_le L2 hz
    replace L3 := Nat.lt_of_lt_of_le L3 hz
    clear hc hf hz hb
    go_wp2_with fail
    refine (C2.out _ FV.out FM.out).mono ?_
    rintro e U2 ⟨rfl, hb⟩
    replace HD := HD.trans (hb.mono HD.size)
    obtain ⟨hc, hf⟩ := bcell hb
    have hz := hb.size
    replace b00 := (hc _ 0 L0).trans b00
    replace b10 := (hc _ 0 L1).trans b10
    replace b11 := (hc _ 1 L1).trans b11
    replace b12 := (hc _ 2 L1).trans b12
    replace b13 := (hc _ 3 L1).trans b13
    replace b14 := (hc _ 4 L1).trans b14
    replace b20 := (hc _ 0 L2).trans b20
    replace b30 := (hc _ 0 L3).trans b30
    replace b31 := (hc _ 1 L3).trans b31
    replace b32 := (hc _ 2 L3).trans b32
    replace b33 := (hc _ 3 L3).trans b33
    replace b34 := (hc _ 4 L3).trans b34
    replace FV := Lib.hid (FixAt.below FV.out hb)
    replace FM := Lib.hid (FixAt.below FM.out hb)
    replace L0 := Nat.lt_of_lt_of_le L0 hz
    replace L1 := Nat.lt_of_lt_of_le L1 hz
    replace L2 := Nat.lt_of_lt_of_le L2 hz
    replace L3 := Nat.lt_of_lt_of_le L3 hz
    clear hc hf hz hb
    go_wp2_with fail
    refine (C3.out _ FM.out FV.out).mono ?_
    rintro e U3 ⟨rfl, hb⟩
    replace HD := HD.trans (hb.mono HD.size)
    obtain ⟨hc, hf⟩ := bcell hb
    have hz := hb.size
    replace b00 := (hc _ 0 L0).trans b00
    replace b10 := (hc _ 0 L1).trans b10
    replace b11 := (hc _ 1 L1).trans b11
    replace b12 := (hc _ 2 L1).trans b12
    replace b13 := (hc _ 3 L1).trans b13
    replace b14 := (hc _ 4 L1).trans b14
    replace b20 := (hc _ 0 L2).trans b20
    replace b30 := (hc _ 0 L3).trans b30
    replace b31 := (hc _ 1 L3).trans b31
    replace b32 := (hc _ 2 L3).trans b32
    replace b33 := (hc _ 3 L3).trans b33
    replace b34 := (hc _ 4 L3).trans b34
    replace FV := Lib.hid (FixAt.below FV.out hb)
    replace FM := Lib.hid (FixAt.below FM.out hb)
    replace L0 := Nat.lt_of_lt_of_le L0 hz
    replace L1 := Nat.lt_of_lt_of_le L1 hz
    replace L2 := Nat.lt_of_lt_of_le L2 hz
    replace L3 := Nat.lt_of_lt_of_le L3 hz
    clear hc hf hz hb
    go_wp2_with fail
    refine (C4.out _ FV.out FV.out).mono ?_
    rintro e U4 ⟨rfl, hb⟩
    replace HD := HD.trans (hb.mono HD.size)
    obtain ⟨hc, hf⟩ := bcell hb
    have hz := hb.size
    replace b00 := (hc _ 0 L0).trans b00
    replace b10 := (hc _ 0 L1).trans b10
    replace b11 := (hc _ 1 L1).trans b11
    replace b12 := (hc _ 2 L1).trans b12
    replace b13 := (hc _ 3 L1).trans b13
    replace b14 := (hc _ 4 L1).trans b14
    replace b20 := (hc _ 0 L2).trans b20
    replace b30 := (hc _ 0 L3).trans b30
    replace b31 := (hc _ 1 L3).trans b31
    replace b32 := (hc _ 2 L3).trans b32
    replace b33 := (hc _ 3 L3).trans b33
    replace b34 := (hc _ 4 L3).trans b34
    replace FV := Lib.hid (FixAt.below FV.out hb)
    replace FM := Lib.hid (FixAt.below FM.out hb)
    replace L0 := Nat.lt_of_lt_of_le L0 hz
    replace L1 := Nat.lt_of_lt_of_le L1 hz
    replace L2 := Nat.lt_of_lt_of_le L2 hz
    replace L3 := Nat.lt_of_lt_of_le L3 hz
    clear hc hf hz hb
    obtain ⟨c0, _, _, LR⟩ := fixC FV.out (show I < l.length by omega)
    obtain ⟨d0, _, _, LM⟩ := fixC FM.out hJ
    have i1 : (I : Int) < (l.length : Int) := by omega
    have i2 : (J : Int) + 1 < (l'.length : Int) := by omega
    have i3 : IntKind.i64.wrap ((J : Int) + 1) = (J : Int) + 1 := by rw [IntKind.wrap_i64]; omega
    have i4 : (0 : Int) ≤ (J : Int) + 1 := by omega
    generalize (fx l I).t = f0 at *
    generalize (fx l' (J + 1)).t = g0 at *
    by_cases hfg : f0 ≤ g0
    case pos =>
      go_wp2_with fail
      refine wp_region_later (by kernel_rfl) (by kernel_rfl) ?_
      repeat (first | go_big_quiet_step (fail) | quiet_step (fail))
      refine wpQuiet_nil ?_
      intro _ hw'
      obtain ⟨sk5, hw''⟩ := hw'
      subst hw''
      have hbk5 := sk5.below
      generalize sk5.w = wk5 at hbk5 ⊢
      clear sk5
      try replace hbk5 := below_trans (by with_reducible assumption) hbk5
      obtain ⟨hck5, hfk5⟩ := bcell hbk5
      have hzk5 := hbk5.size
      try simp at hzk5
      try have hzk50 : w.heap.size ≤ wk5.heap.size := by omega
      try have hzk51 : w.heap.size < wk5.heap.size := by omega
      try have hzk52 : w.heap.size + 1 < wk5.heap.size := by omega
      try have hzk53 : w.heap.size + 1 + 1 < wk5.heap.size := by omega
      try have hzk54 : w.heap.size + 1 + 1 + 1 < wk5.heap.size := by omega
      go_wp2_with fail
      go_ret
      exact ⟨rfl, by first | exact hbk5 | exact HD.trans (hbk5.mono HD.size)⟩
    case neg =>
      have hN := HL.out (by omega)
      go_wp2_with fail
      refine wp_region_later (by kernel_rfl) (by kernel_rfl) ?_
      repeat (first | go_big_quiet_step (fail) | quiet_step (fail))
      refine wpQuiet_nil ?_
      intro _ hw'
      obtain ⟨sk5, hw''⟩ := hw'
      subst hw''
      have hbk5 := sk5.below
      generalize sk5.w = wk5 at hbk5 ⊢
      clear sk5
      try replace hbk5 := below_trans (by with_reducible assumption) hbk5
      obtain ⟨hck5, hfk5⟩ := bcell hbk5
      have hzk5 := hbk5.size
      try simp at hzk5
      try have hzk50 : w.heap.size ≤ wk5.heap.size := by omega
      try have hzk51 : w.heap.size < wk5.heap.size := by omega
      try have hzk52 : w.heap.size + 1 < wk5.heap.size := by omega
      try have hzk53 : w.heap.size + 1 + 1 < wk5.heap.size := by omega
      try have hzk54 : w.heap.size + 1 + 1 + 1 < wk5.heap.size := by omega
      go_wp2_with fail
      go_ret
      exact ⟨rfl, by first | exact hbk5 | exact HD.trans (hbk5.mono HD.size)⟩

theorem own : ownKnob Try.prog.godebug = none := by kernel_rfl
theorem laidOut : laidOutB Try.prog = true := by kernel_rfl
set_option maxRecDepth 100000 in
theorem lifted (os : Os) (started : os.Started) (H : Type) (enc : TypeId × Value → H) :
    ReturnsInHanded {} Try.checked os 9 .any (Rows.fnCompareCrossingsSpec.pre6 enc Try.prog Try.f9 Rows.fnCompareCrossingsRow.domain false) (Rows.fnCompareCrossingsSpec.post enc Try.prog Try.f9 false true false false) := by
  refine returnsInHanded_of_change (C := Try.checked) own started (by kernel_rfl) Try.func9
    (ChangeSpec.witness6 (enc := enc) (C := Try.checked) false ⟨#[], #[.slice none 0 0], []⟩ 8 (by kernel_rfl) (by kernel_rfl) (by kernel_rfl) (by kernel_rfl)) ?_
  intro W base args ds gs before hval0 hW hcnd _
  have hval : ∀ (j : Nat) t v, Try.f9.params[j]? = some t → args[j]? = some v → Value.okWide Try.prog W .any base t v := hval0
  have hW' := hW
  obtain ⟨p, q, hA0, hV, rfl, hfz, hnd⟩ := hW
  have hA : DataW.TrodAll enc Try.prog W 0 (fun _ => true) true Try.f9.params.toList args.toList ds p := hA0
  rw [Try.params9] at hA hval
  obtain ⟨v0, vs0, d0, ds0, p0, q0, hargs, rfl, rfl, h0, r0⟩ := trodAll_cons hA
  obtain ⟨rfl, rfl, rfl⟩ := trodAll_nil r0
  obtain rfl : args = #[v0] := by cases args; simp_all
  obtain ⟨rfl, rfl⟩ := trodVars_none hV
  have k0 := h0
  have lt0 : ∀ x ∈ p0, x.block < W.heap.size := by obtain ⟨m, hm⟩ := k0; exact DataW.trod_lt m _ _ _ hm
  obtain ⟨⟨a0, cap0⟩, n0, rfl, w0⟩ := open_bytes Try.underlying22 Try.underlying5 (by kernel_rfl) (hval 0 22 v0 rfl rfl) h0
  clear hA0 hval0
  refine (walk a0 cap0 n0 W w0).mono fun e W' ⟨he, bel⟩ => ?_
  subst he
  exact ⟨_, rfl, _, _, _, [], _, [], hW', trodAll_mk1 (shut_bool Try.underlying4 _), (trodAll_cons_mk (Below.trod laidOut (by kernel_rfl) (of_decide_eq_true (by kernel_rfl)) k0 bel lt0) trodAll_mk0), rfl, bel.frame _, fun h => by cases h⟩

theorem over : Rows.fnCompareCrossingsRow.holds Try.pinned (OpenSpec.ofChange Rows.fnCompareCrossingsSpec) :=
  OpenClaim.holds_of_wide 9 Try.f9 rfl rfl rfl rfl rfl rfl rfl ⟨rfl, rfl, rfl, rfl, rfl⟩ rfl rfl rfl rfl rfl (by kernel_rfl) Try.func9 (by kernel_rfl)
    (of_decide_eq_true (by kernel_rfl)) (by unfold Func.isWrapper; first | (rw [if_pos (by decide +kernel)]; kernel_rfl) | (rw [if_neg (by decide +kernel)]; exact ⟨rfl, rfl⟩))
    (fun os started H enc _ => lifted os started H enc)

/-- The statement. -/
theorem proved : Rows.FnCompareCrossingsSaid := over
end Go.Proofs.Ytdepdkpehbkcjaa.fnCompareCrossings
