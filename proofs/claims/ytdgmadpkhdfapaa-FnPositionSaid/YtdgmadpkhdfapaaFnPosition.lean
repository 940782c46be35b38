/-
  FnPosition: for every code the law's function answers true. No condition.
-/
import Derived.Test.YtdgmadpkhdfapaaRows
import Derived.Test.YtdgmadpkhdfapaaTdraw4
import Derived.Test.YtdgmadpkhdfapaaL03r
namespace Go.Proofs.Ytdgmadpkhdfapaa.fnPosition
open Go.ChangeShapes Go.WideShapes Go.ChangeAt Go.RowKit Go.Deep
open Go.ChangeMaps (open_string shut_string)
set_option linter.unusedVariables false

theorem fixC {w : World} {r k : Nat} {l : List Fx} (h : FixAt w (some ⟨r, 0, none⟩) l) (hk : k < l.length) : w.cell? ⟨r, k * 3, none⟩ = some (.int .i64 (fx l k).t) ∧ w.cell? ⟨r, k * 3 + 1, none⟩ = some (.int .i64 (fx l k).x) ∧ w.cell? ⟨r, k * 3 + 2, none⟩ = some (.int .i64 (fx l k).y) ∧ r < w.heap.size := by
  obtain ⟨b, off, ha, hlt, c0, c1, c2⟩ := h k _ (fx_of hk)
  simp at ha
  obtain ⟨rfl, rfl⟩ := ha
  exact ⟨by simpa using c0, by simpa using c1, by simpa using c2, hlt⟩
theorem trk_lt {l : List Fx} (h : isTrk l = true) {i : Nat} : ∀ j, i < j → j < l.length → (fx l i).t < (fx l j).t
  | 0, hij, _ => by omega
  | j + 1, hij, hj => by
    have h1 := (okAt_true (okUpto_lt (isTrk_true h).2.2 (j + 1) hj)).2.2.2
    have h2 : (fx l j).t < (fx l (j + 1)).t := by
      rcases h1 with h1 | h1
      · omega
      · simpa using h1
    rcases Nat.lt_or_eq_of_le (Nat.le_of_lt_succ hij) with g | g
    · have := trk_lt h j g (by omega)
      omega
    · rw [g]; exact h2
theorem place_lo (a b u v : Int) : placeZ a b u u v = a := by simp [placeZ]
theorem place_hi (a b : Int) {u v : Int} (h : u < v) : placeZ a b v u v = b := by
  unfold placeZ
  rw [Int.mul_ediv_cancel _ (show v - u ≠ 0 by omega)]
  omega
theorem place_in {a b t u v : Int} (h1 : u ≤ t) (h2 : t ≤ v) (h : u < v) : min a b ≤ placeZ a b t u v ∧ placeZ a b t u v ≤ max a b := by
  have hp : 0 < v - u := by omega
  unfold placeZ
  rcases Int.le_total a b with g | g
  · have q0 : 0 ≤ (b - a) * (t - u) / (v - u) := Int.ediv_nonneg (Int.mul_nonneg (by omega) (by omega)) (by omega)
    have q1 : (b - a) * (t - u) / (v - u) ≤ b - a := Int.ediv_le_of_le_mul hp (Int.mul_le_mul_of_nonneg_left (by omega) (by omega))
    omega
  · have n0 : (b - a) * (t - u) ≤ 0 := Int.mul_nonpos_of_nonpos_of_nonneg (by omega) (by omega)
    have q0 : (b - a) * (t - u) / (v - u) ≤ 0 := Int.ediv_le_of_le_mul hp (by omega)
    have q1 : b - a ≤ (b - a) * (t - u) / (v - u) := Int.le_ediv_of_mul_le hp (Int.mul_le_mul_of_nonpos_left (by omega) (by omega))
    omega
theorem pos_fix {l : List Fx} (h : isTrk l = true) {i : Nat} (hi : i < l.length) : posR l (fx l i).t = ((fx l i).x, (fx l i).y, 0) := by
  have h2 := (isTrk_true h).1
  have hl : lastsB l (fx l i).t = true := by
    unfold lastsB
    have a1 : (fx l 0).t ≤ (fx l i).t := by
      rcases Nat.eq_zero_or_pos i with g | g
      · rw [g]; exact Int.le_refl _
      · exact Int.le_of_lt (trk_lt h i g hi)
    have a2 : (fx l i).t ≤ (fx l (l.length - 1)).t := by
      rcases Nat.lt_or_eq_of_le (show i ≤ l.length - 1 by omega) with g | g
      · exact Int.le_of_lt (trk_lt h _ g (by omega))
      · rw [← g]; exact Int.le_refl _
    simp [inR, a1, a2]
  have hc : codeZ l (fx l i).t = 0 := by simp [codeZ, h, hl]
  obtain ⟨t1, t2⟩ := legN_times h hl
  have hk := legN_lt (fx l i).t h2
  have hik : i = legN l (fx l i).t ∨ i = legN l (fx l i).t + 1 := by
    generalize legN l (fx l i).t = k at *
    rcases Nat.lt_trichotomy i k with g | g | g
    · have := trk_lt h k g (by omega); omega
    · exact .inl g
    · rcases Nat.lt_or_eq_of_le (show k + 1 ≤ i by omega) with g2 | g2
      · have := trk_lt h i g2 hi; omega
      · exact .inr g2.symm
  have hkk := trk_lt h (legN l (fx l i).t + 1) (Nat.lt_succ_self _) hk
  simp only [posR, hc, if_true, posX, posY]
  generalize legN l (fx l i).t = k at *
  rcases hik with rfl | rfl
  · rw [place_lo, place_lo]
  · rw [place_hi _ _ hkk, place_hi _ _ hkk]
theorem between_c (x a b : Int) (w : World) : Calls Try.prog 49 #[.int .i64 x, .int .i64 a, .int .i64 b] w fun e w' => e = .returned (.bool (decide (min a b ≤ x ∧ x ≤ max a b))) ∧ w = w' := by
  rcases Int.lt_or_le b a with g | g
  · rw [Int.min_eq_right (Int.le_of_lt g), Int.max_eq_left (Int.le_of_lt g)]
    by_cases h1 : b ≤ x
    all_goals by_cases h2 : x ≤ a
    all_goals
      go_enter Try.func49, Try.ntmps49
      go_wp2
      all_goals go_ret
      all_goals exact ⟨ret_bool (by first | (simp [*]; done) | (simp [*]; omega)), rfl⟩
  · rw [Int.min_eq_left g, Int.max_eq_right g]
    by_cases h1 : a ≤ x
    all_goals by_cases h2 : x ≤ b
    all_goals
      go_enter Try.func49, Try.ntmps49
      go_wp2
      all_goals go_ret
      all_goals exact ⟨ret_bool (by first | (simp [*]; done) | (simp [*]; omega)), rfl⟩

set_option maxRecDepth 100000 in
set_option maxHeartbeats 2000000 in
theorem walk (a : Option Addr) (cap n : Nat) (w : World) (w0 : n ≤ 9223372036854775807 ∧ BytesB w.heap.size w a n) :
    Calls Try.prog 14 #[.slice a n cap] w fun e w' => e = .returned (.bool true) ∧ Below w.heap.size w w' := by
  obtain ⟨hn, hb⟩ := w0
  have HB := Lib.hid hb
  clear hb
  by_cases h : (4096 : Int) < (n : Int)
  · have CB := Lib.hid (fun w => big_t a n cap w hn h)
    go_enter Try.func14, Try.ntmps14
    go_wp2_with (go_at_call 45; refine (CB.out _).mono ?_; rintro e w' ⟨rfl, rfl⟩)
    go_ret
    exact ⟨rfl, (by repeat (first | with_reducible exact Below.refl _ _ | with_reducible assumption | with_reducible refine Below.drew ?_ | with_reducible refine Below.alloc ?_ (by first | exact Nat.le_refl _ | (simp; done) | (simp; omega) | omega) _ | with_reducible refine Below.setCell ?_ (by first | exact Nat.le_refl _ | (simp; done) | (simp; omega) | omega) _ | with_reducible refine Below.trans ?_ (Below.mono (by with_reducible assumption) (by first | exact Nat.le_refl _ | (simp; done) | (simp; omega) | omega))))⟩
  have CB := Lib.hid (fun w => big_f a n cap w hn h)
  clear h
  go_enter Try.func14, Try.ntmps14
  go_wp2_with (go_at_call 45; refine (CB.out _).mono ?_; rintro e w' ⟨rfl, rfl⟩)
  refine (DrawPositionAt_c a n cap _ hn (bytes_at HB.out (by repeat (first | with_reducible exact Below.refl _ _ | with_reducible assumption | with_reducible refine Below.drew ?_ | with_reducible refine Below.alloc ?_ (by first | exact Nat.le_refl _ | (simp; done) | (simp; omega) | omega) _ | with_reducible refine Below.setCell ?_ (by first | exact Nat.le_refl _ | (simp; done) | (simp; omega) | omega) _ | with_reducible refine Below.trans ?_ (Below.mono (by with_reducible assumption) (by first | exact Nat.le_refl _ | (simp; done) | (simp; omega) | omega)))))).mono ?_
  rintro e V1 ⟨⟨r, cp, l, t, rfl, hl0, hl1, ho⟩, hbV⟩
  clear CB HB
  have hzV := hbV.size
  go_wp2_with fail
  obtain ⟨W, hW⟩ : ∃ W, W = (V1.alloc (.cells #[.slice (some ⟨r, 0, none⟩) l.length cp] 29)) := ⟨_, rfl⟩
  have HD : Below w.heap.size w W := by subst hW; exact (by repeat (first | with_reducible exact Below.refl _ _ | with_reducible assumption | with_reducible refine Below.drew ?_ | with_reducible refine Below.alloc ?_ (by first | exact Nat.le_refl _ | (simp; done) | (simp; omega) | omega) _ | with_reducible refine Below.setCell ?_ (by first | exact Nat.le_refl _ | (simp; done) | (simp; omega) | omega) _ | with_reducible refine Below.trans ?_ (Below.mono (by with_reducible assumption) (by first | exact Nat.le_refl _ | (simp; done) | (simp; omega) | omega))))
  have HV : Below V1.heap.size V1 W := by subst hW; exact (by repeat (first | with_reducible exact Below.refl _ _ | with_reducible assumption | with_reducible refine Below.drew ?_ | with_reducible refine Below.alloc ?_ (by first | exact Nat.le_refl _ | (simp; done) | (simp; omega) | omega) _ | with_reducible refine Below.setCell ?_ (by first | exact Nat.le_refl _ | (simp; done) | (simp; omega) | omega) _ | with_reducible refine Below.trans ?_ (Below.mono (by with_reducible assumption) (by first | exact Nat.le_refl _ | (simp; done) | (simp; omega) | omega))))
  have b00 : W.cell? ⟨V1.heap.size, 0, none⟩ = some (.slice (some ⟨r, 0, none⟩) l.length cp) := by subst hW; simp [go_sem]
  have L0 : V1.heap.size < W.heap.size := by subst hW; first | (simp; done) | (simp; omega)
  rw [← hW]
  clear hW
  obtain ⟨B0, hB0⟩ : ∃ B, B = V1.heap.size := ⟨_, rfl⟩
  rw [← hB0] at b00 L0
  try rw [← hB0]
  replace hB0 := Lib.hid hB0
  have hn2 : l.length ≤ 4611686018427387904 := by omega
  have FV := Lib.hid (FixAt.below (fixAt_own ho) HV)
  clear ho HV
  have CP := Lib.hid (fun t W h => PositionAt_c (some ⟨r, 0, none⟩) cp l t W hn2 h)
  have CS := Lib.hid (fun t W h => PositionAtS_c (some ⟨r, 0, none⟩) cp l t W hn2 h)
  by_cases E : codeZ l t = 0
  case neg =>
    have E1 : posR l t = (0, 0, codeZ l t) := by simp only [posR, if_neg E]
    have C1 := Lib.hid (fun W h => E1 ▸ CP.out t W h)
    have C2 := Lib.hid (fun W h => E1 ▸ CS.out t W h)
    clear E1 CP CS
    generalize codeZ l t = C at *
    refine (C1.out _ FV.out).mono ?_
    rintro e U1 ⟨rfl, hb⟩
    replace HD := HD.trans (hb.mono HD.size)
    obtain ⟨hc, hf⟩ := bcell hb
    have hz := hb.size
    replace b00 := (hc _ 0 L0).trans b00
    replace FV := Lib.hid (FixAt.below FV.out hb)
    replace L0 := Nat.lt_of_lt_of_le L0 hz
    clear hc hf hz hb
    go_wp2_with fail
    obtain ⟨P1, hP1⟩ : ∃ x, x = U1.alloc (.cells #[.int .i64 0, .int .i64 0] 37) := ⟨_, rfl⟩
    have hb : Below U1.heap.size U1 P1 := by subst hP1; exact (Below.refl _ _).alloc (Nat.le_refl _) _
    have k10 : P1.cell? ⟨U1.heap.size, 0, none⟩ = some (.int .i64 0) := by subst hP1; simp [go_sem]
    have k11 : P1.cell? ⟨U1.heap.size, 1, none⟩ = some (.int .i64 0) := by subst hP1; simp [go_sem]
    have K1 : U1.heap.size < P1.heap.size := by subst hP1; simp
    have hS1 := Lib.hid (show P1.heap.size = U1.heap.size + 1 by subst hP1; simp)
    rw [← hP1]
    clear hP1
    replace HD := HD.trans (hb.mono HD.size)
    obtain ⟨hc, hf⟩ := bcell hb
    have hz := hb.size
    replace b00 := (hc _ 0 L0).trans b00
    replace FV := Lib.hid (FixAt.below FV.out hb)
    replace L0 := Nat.lt_of_lt_of_le L0 hz
    clear hc hf hz hb
    obtain ⟨C1, hC1⟩ : ∃ x, x = U1.heap.size := ⟨_, rfl⟩
    rw [← hC1] at k10 k11 K1
    try rw [← hC1]
    replace hC1 := Lib.hid hC1
    refine (C2.out _ FV.out).mono ?_
    rintro e U2 ⟨rfl, hb⟩
    replace HD := HD.trans (hb.mono HD.size)
    obtain ⟨hc, hf⟩ := bcell hb
    have hz := hb.size
    replace b00 := (hc _ 0 L0).trans b00
    replace k10 := (hc _ 0 K1).trans k10
    replace k11 := (hc _ 1 K1).trans k11
    replace FV := Lib.hid (FixAt.below FV.out hb)
    replace L0 := Nat.lt_of_lt_of_le L0 hz
    replace K1 := Nat.lt_of_lt_of_le K1 hz
    clear hc hf hz hb
    go_wp2_with fail
    go_ret
    exact ⟨rfl, HD.alloc HD.size _⟩
  case pos =>
    have E1 : posR l t = (posX l t, posY l t, 0) := by simp only [posR, if_pos E]
    have hT : isTrk l = true := by unfold codeZ at E; split at E <;> first | assumption | omega
    have hL : lastsB l t = true := by unfold codeZ at E; rw [if_pos hT] at E; split at E <;> first | assumption | omega
    have E2 : legR l t = (((legN l t : Nat) : Int), 0) := by simp only [legR, if_pos hT, if_pos hL]
    obtain ⟨t1, t2⟩ := legN_times hT hL
    have hk1 := legN_lt t (isTrk_true hT).1
    have hkk := trk_lt hT (legN l t + 1) (Nat.lt_succ_self _) hk1
    have hx := place_in (a := (fx l (legN l t)).x) (b := (fx l (legN l t + 1)).x) t1 t2 hkk
    have hy := place_in (a := (fx l (legN l t)).y) (b := (fx l (legN l t + 1)).y) t1 t2 hkk
    have E3 := pos_fix hT (show legN l t < l.length by omega)
    have E4 := pos_fix hT hk1
    have C1 := Lib.hid (fun W h => E1 ▸ CP.out t W h)
    have C2 := Lib.hid (fun W h => E1 ▸ CS.out t W h)
    have C3 := Lib.hid (fun W h => E2 ▸ LegAt_c (some ⟨r, 0, none⟩) cp l t W hn2 h)
    have C4 := Lib.hid (fun W h => E2 ▸ LegAtS_c (some ⟨r, 0, none⟩) cp l t W hn2 h)
    have C5 := Lib.hid (fun W h => E3 ▸ CP.out (fx l (legN l t)).t W h)
    have C6 := Lib.hid (fun W h => E4 ▸ CP.out (fx l (legN l t + 1)).t W h)
    have CB1 := Lib.hid (fun W => (decide_eq_true hx) ▸ between_c (posX l t) (fx l (legN l t)).x (fx l (legN l t + 1)).x W)
    have CB2 := Lib.hid (fun W => (decide_eq_true hy) ▸ between_c (posY l t) (fx l (legN l t)).y (fx l (legN l t + 1)).y W)
    clear E1 E2 E3 E4 CP CS hx hy E hL hT
    generalize posX l t = X at *
    generalize posY l t = Y at *
    generalize legN l t = k at *
    refine (C1.out _ FV.out).mono ?_
    rintro e U1 ⟨rfl, hb⟩
    replace HD := HD.trans (hb.mono HD.size)
    obtain ⟨hc, hf⟩ := bcell hb
    have hz := hb.size
    replace b00 := (hc _ 0 L0).trans b00
    replace FV := Lib.hid (FixAt.below FV.out hb)
    replace L0 := Nat.lt_of_lt_of_le L0 hz
    clear hc hf hz hb
    go_wp2_with fail
    obtain ⟨P1, hP1⟩ : ∃ x, x = U1.alloc (.cells #[.int .i64 X, .int .i64 Y] 37) := ⟨_, rfl⟩
    have hb : Below U1.heap.size U1 P1 := by subst hP1; exact (Below.refl _ _).alloc (Nat.le_refl _) _
    have k10 : P1.cell? ⟨U1.heap.size, 0, none⟩ = some (.int .i64 X) := by subst hP1; simp [go_sem]
    have k11 : P1.cell? ⟨U1.heap.size, 1, none⟩ = some (.int .i64 Y) := by subst hP1; simp [go_sem]
    have K1 : U1.heap.size < P1.heap.size := by subst hP1; simp
    have hS1 := Lib.hid (show P1.heap.size = U1.heap.size + 1 by subst hP1; simp)
    rw [← hP1]
    clear hP1
    replace HD := HD.trans (hb.mono HD.size)
    obtain ⟨hc, hf⟩ := bcell hb
    have hz := hb.size
    replace b00 := (hc _ 0 L0).trans b00
    replace FV := Lib.hid (FixAt.below FV.out hb)
    replace L0 := Nat.lt_of_lt_of_le L0 hz
    clear hc hf hz hb
    obtain ⟨C1, hC1⟩ : ∃ x, x = U1.heap.size := ⟨_, rfl⟩
    rw [← hC1] at k10 k11 K1
    try rw [← hC1]
    replace hC1 := Lib.hid hC1
    refine (C2.out _ FV.out).mono ?_
    rintro e U2 ⟨rfl, hb⟩
    replace HD := HD.trans (hb.mono HD.size)
    obtain ⟨hc, hf⟩ := bcell hb
    have hz := hb.size
    replace b00 := (hc _ 0 L0).trans b00
    replace k10 := (hc _ 0 K1).trans k10
    replace k11 := (hc _ 1 K1).trans k11
    replace FV := Lib.hid (FixAt.below FV.out hb)
    replace L0 := Nat.lt_of_lt_of_le L0 hz
    replace K1 := Nat.lt_of_lt_of_le K1 hz
    clear hc hf hz hb
    go_wp2_with fail
    obtain ⟨P2, hP2⟩ : ∃ x, x = U2.alloc (.cells #[.int .i64 X, .int .i64 Y] 37) := ⟨_, rfl⟩
    have hb : Below U2.heap.size U2 P2 := by subst hP2; exact (Below.refl _ _).alloc (Nat.le_refl _) _
    have k20 : P2.cell? ⟨U2.heap.size, 0, none⟩ = some (.int .i64 X) := by subst hP2; simp [go_sem]
    have k21 : P2.cell? ⟨U2.heap.size, 1, none⟩ = some (.int .i64 Y) := by subst hP2; simp [go_sem]
    have K2 : U2.heap.size < P2.heap.size := by subst hP2; simp
    have hS2 := Lib.hid (show P2.heap.size = U2.heap.size + 1 by subst hP2; simp)
    rw [← hP2]
    clear hP2
    replace HD := HD.trans (hb.mono HD.size)
    obtain ⟨hc, hf⟩ := bcell hb
    have hz := hb.size
    replace b00 := (hc _ 0 L0).trans b00
    replace k10 := (hc _ 0 K1).trans k10
    replace k11 := (hc _ 1 K1).trans k11
    replace FV := Lib.hid (FixAt.below FV.out hb)
    replace L0 := Nat.lt_of_lt_of_le L0 hz
    replace K1 := Nat.lt_of_lt_of_le K1 hz
    clear hc hf hz hb
    obtain ⟨C2, hC2⟩ : ∃ x, x = U2.heap.size := ⟨_, rfl⟩
    rw [← hC2] at k20 k21 K2
    try rw [← hC2]
    replace hC2 := Lib.hid hC2
    refine (C3.out _ FV.out).mono ?_
    rintro e U3 ⟨rfl, hb⟩
    replace HD := HD.trans (hb.mono HD.size)
    obtain ⟨hc, hf⟩ := bcell hb
    have hz := hb.size
    replace b00 := (hc _ 0 L0).trans b00
    replace k10 := (hc _ 0 K1).trans k10
    replace k11 := (hc _ 1 K1).trans k11
    replace k20 := (hc _ 0 K2).trans k20
    replace k21 := (hc _ 1 K2).trans k21
    replace FV := Lib.hid (FixAt.below FV.out hb)
    replace L0 := Nat.lt_of_lt_of_le L0 hz
    replace K1 := Nat.lt_of_lt_of_le K1 hz
    replace K2 := Nat.lt_of_lt_of_le K2 hz
    clear hc hf hz hb
    go_wp2_with fail
    refine (C4.out _ FV.out).mono ?_
    rintro e U4 ⟨rfl, hb⟩
    replace HD := HD.trans (hb.mono HD.size)
    obtain ⟨hc, hf⟩ := bcell hb
    have hz := hb.size
    replace b00 := (hc _ 0 L0).trans b00
    replace k10 := (hc _ 0 K1).trans k10
    replace k11 := (hc _ 1 K1).trans k11
    replace k20 := (hc _ 0 K2).trans k20
    replace k21 := (hc _ 1 K2).trans k21
    replace FV := Lib.hid (FixAt.below FV.out hb)
    replace L0 := Nat.lt_of_lt_of_le L0 hz
    replace K1 := Nat.lt_of_lt_of_le K1 hz
    replace K2 := Nat.lt_of_lt_of_le K2 hz
    clear hc hf hz hb
    go_wp2_with fail
    obtain ⟨c0, c1, c2, LR⟩ := fixC FV.out (show k < l.length by omega)
    obtain ⟨d0, d1, d2, _⟩ := fixC FV.out hk1
    have i1 : (k : Int) < (l.length : Int) := by omega
    have i2 : (k : Int) + 1 < (l.length : Int) := by omega
    have i3 : IntKind.i64.wrap ((k : Int) + 1) = (k : Int) + 1 := by rw [IntKind.wrap_i64]; omega
    have i4 : (0 : Int) ≤ (k : Int) + 1 := by omega
    go_cut [13, 14] (fun s13 s14 wx => ∃ g0 g1 : Nat, s13 = .pointer (some ⟨g0, 0, none⟩) ∧ s14 = .pointer (some ⟨g1, 0, none⟩) ∧ wx.cell? ⟨g0, 0, none⟩ = some (.int .i64 (fx l k).t) ∧ wx.cell? ⟨g0, 1, none⟩ = some (.int .i64 (fx l k).x) ∧ wx.cell? ⟨g0, 2, none⟩ = some (.int .i64 (fx l k).y) ∧ wx.cell? ⟨g1, 0, none⟩ = some (.int .i64 (fx l (k + 1)).t) ∧ wx.cell? ⟨g1, 1, none⟩ = some (.int .i64 (fx l (k + 1)).x) ∧ wx.cell? ⟨g1, 2, none⟩ = some (.int .i64 (fx l (k + 1)).y) ∧ g0 < wx.heap.size ∧ g1 < wx.heap.size ∧ Below U4.heap.size U4 wx)
    case first =>
      go_region_held3 (fun wx => Below U4.heap.size U4 wx ∧ ∀ b o, b < U4.heap.size → wx.cell? ⟨b, o, none⟩ = U4.cell? ⟨b, o, none⟩)
        (first | with_reducible exact held_step (by assumption) hb | with_reducible exact held_alloc (by assumption) _ | exact held_of (by repeat (first | with_reducible exact Below.refl _ _ | with_reducible assumption | with_reducible refine Below.drew ?_ | with_reducible refine Below.alloc ?_ (by first | exact Nat.le_refl _ | (simp; done) | (simp; omega) | omega) _ | with_reducible refine Below.setCell ?_ (by first | exact Nat.le_refl _ | (simp; done) | (simp; omega) | omega) _ | with_reducible refine Below.trans ?_ (Below.mono (by with_reducible assumption) (by first | exact Nat.le_refl _ | (simp; done) | (simp; omega) | omega)))))
        (first | fail)
      all_goals (go_wp2_with fail; go_meet; exact ⟨_, _, rfl, rfl, (by go_light; go_simp), (by go_light; go_simp), (by go_light; go_simp), (by go_light; go_simp), (by go_light; go_simp), (by go_light; go_simp), (by go_light; first | (simp; done) | (simp; omega) | omega), (by go_light; first | (simp; done) | (simp; omega) | omega), (held_of (by with_reducible exact And.left (by with_reducible assumption))).1⟩)
    case rest =>
      obtain ⟨C3, C4, rfl, rfl, k30, k31, k32, k40, k41, k42, K3, K4, hb⟩ := hcut
      obtain ⟨U5, rfl⟩ : ∃ x : World, x = wc := ⟨_, rfl⟩
      replace HD := HD.trans (hb.mono HD.size)
      obtain ⟨hc, hf⟩ := bcell hb
      have hz := hb.size
      replace b00 := (hc _ 0 L0).trans b00
      replace k10 := (hc _ 0 K1).trans k10
      replace k11 := (hc _ 1 K1).trans k11
      replace k20 := (hc _ 0 K2).trans k20
      replace k21 := (hc _ 1 K2).trans k21
      replace FV := Lib.hid (FixAt.below FV.out hb)
      replace L0 := Nat.lt_of_lt_of_le L0 hz
      replace K1 := Nat.lt_of_lt_of_le K1 hz
      replace K2 := Nat.lt_of_lt_of_le K2 hz
      clear hc hf hz hb
      go_wp2_with fail
      clear c0 c1 c2 d0 d1 d2 LR i1 i2 i3 i4
      refine (C5.out _ FV.out).mono ?_
      rintro e U6 ⟨rfl, hb⟩
      replace HD := HD.trans (hb.mono HD.size)
      obtain ⟨hc, hf⟩ := bcell hb
      have hz := hb.size
      replace b00 := (hc _ 0 L0).trans b00
      replace k10 := (hc _ 0 K1).trans k10
      replace k11 := (hc _ 1 K1).trans k11
      replace k20 := (hc _ 0 K2).trans k20
      replace k21 := (hc _ 1 K2).trans k21
      replace k30 := (hc _ 0 K3).trans k30
      replace k31 := (hc _ 1 K3).trans k31
      replace k32 := (hc _ 2 K3).trans k32
      replace k40 := (hc _ 0 K4).trans k40
      replace k41 := (hc _ 1 K4).trans k41
      replace k42 := (hc _ 2 K4).trans k42
      replace FV := Lib.hid (FixAt.below FV.out hb)
      replace L0 := Nat.lt_of_lt_of_le L0 hz
      replace K1 := Nat.lt_of_lt_of_le K1 hz
      replace K2 := Nat.lt_of_lt_of_le K2 hz
      replace K3 := Nat.lt_of_lt_of_le K3 hz
      replace K4 := Nat.lt_of_lt_of_le K4 hz
      clear hc hf hz hb
      go_wp2_with fail
      obtain ⟨P5, hP5⟩ : ∃ x, x = U6.alloc (.cells #[.int .i64 (fx l k).x, .int .i64 (fx l k).y] 37) := ⟨_, rfl⟩
      have hb : Below U6.heap.size U6 P5 := by subst hP5; exact (Below.refl _ _).alloc (Nat.le_refl _) _
      have k50 : P5.cell? ⟨U6.heap.size, 0, none⟩ = some (.int .i64 (fx l k).x) := by subst hP5; simp [go_sem]
      have k51 : P5.cell? ⟨U6.heap.size, 1, none⟩ = some (.int .i64 (fx l k).y) := by subst hP5; simp [go_sem]
      have K5 : U6.heap.size < P5.heap.size := by subst hP5; simp
      have hS5 := Lib.hid (show P5.heap.size = U6.heap.size + 1 by subst hP5; simp)
      rw [← hP5]
      clear hP5
      replace HD := HD.trans (hb.mono HD.size)
      obtain ⟨hc, hf⟩ := bcell hb
      have hz := hb.size
      replace b00 := (hc _ 0 L0).trans b00
      replace k10 := (hc _ 0 K1).trans k10
      replace k11 := (hc _ 1 K1).trans k11
      replace k20 := (hc _ 0 K2).trans k20
      replace k21 := (hc _ 1 K2).trans k21
      replace k30 := (hc _ 0 K3).trans k30
      replace k31 := (hc _ 1 K3).trans k31
      replace k32 := (hc _ 2 K3).trans k32
      replace k40 := (hc _ 0 K4).trans k40
      replace k41 := (hc _ 1 K4).trans k41
      replace k42 := (hc _ 2 K4).trans k42
      replace FV := Lib.hid (FixAt.below FV.out hb)
      replace L0 := Nat.lt_of_lt_of_le L0 hz
      replace K1 := Nat.lt_of_lt_of_le K1 hz
      replace K2 := Nat.lt_of_lt_of_le K2 hz
      replace K3 := Nat.lt_of_lt_of_le K3 hz
      replace K4 := Nat.lt_of_lt_of_le K4 hz
      clear hc hf hz hb
      obtain ⟨C5, hC5⟩ : ∃ x, x = U6.heap.size := ⟨_, rfl⟩
      rw [← hC5] at k50 k51 K5
      try rw [← hC5]
      replace hC5 := Lib.hid hC5
      refine (C6.out _ FV.out).mono ?_
      rintro e U7 ⟨rfl, hb⟩
      replace HD := HD.trans (hb.mono HD.size)
      obtain ⟨hc, hf⟩ := bcell hb
      have hz := hb.size
      replace b00 := (hc _ 0 L0).trans b00
      replace k10 := (hc _ 0 K1).trans k10
      replace k11 := (hc _ 1 K1).trans k11
      replace k20 := (hc _ 0 K2).trans k20
      replace k21 := (hc _ 1 K2).trans k21
      replace k30 := (hc _ 0 K3).trans k30
      replace k31 := (hc _ 1 K3).trans k31
      replace k32 := (hc _ 2 K3).trans k32
      replace k40 := (hc _ 0 K4).trans k40
      replace k41 := (hc _ 1 K4).trans k41
      replace k42 := (hc _ 2 K4).trans k42
      replace k50 := (hc _ 0 K5).trans k50
      replace k51 := (hc _ 1 K5).trans k51
      replace FV := Lib.hid (FixAt.below FV.out hb)
      replace L0 := Nat.lt_of_lt_of_le L0 hz
      replace K1 := Nat.lt_of_lt_of_le K1 hz
      replace K2 := Nat.lt_of_lt_of_le K2 hz
      replace K3 := Nat.lt_of_lt_of_le K3 hz
      replace K4 := Nat.lt_of_lt_of_le K4 hz
      replace K5 := Nat.lt_of_lt_of_le K5 hz
      clear hc hf hz hb
      go_wp2_with fail
      obtain ⟨P6, hP6⟩ : ∃ x, x = U7.alloc (.cells #[.int .i64 (fx l (k + 1)).x, .int .i64 (fx l (k + 1)).y] 37) := ⟨_, rfl⟩
      have hb : Below U7.heap.size U7 P6 := by subst hP6; exact (Below.refl _ _).alloc (Nat.le_refl _) _
      have k60 : P6.cell? ⟨U7.heap.size, 0, none⟩ = some (.int .i64 (fx l (k + 1)).x) := by subst hP6; simp [go_sem]
      have k61 : P6.cell? ⟨U7.heap.size, 1, none⟩ = some (.int .i64 (fx l (k + 1)).y) := by subst hP6; simp [go_sem]
      have K6 : U7.heap.size < P6.heap.size := by subst hP6; simp
      have hS6 := Lib.hid (show P6.heap.size = U7.heap.size + 1 by subst hP6; simp)
      rw [← hP6]
      clear hP6
      replace HD := HD.trans (hb.mono HD.size)
      obtain ⟨hc, hf⟩ := bcell hb
      have hz := hb.size
      replace b00 := (hc _ 0 L0).trans b00
      replace k10 := (hc _ 0 K1).trans k10
      replace k11 := (hc _ 1 K1).trans k11
      replace k20 := (hc _ 0 K2).trans k20
      replace k21 := (hc _ 1 K2).trans k21
      replace k30 := (hc _ 0 K3).trans k30
      replace k31 := (hc _ 1 K3).trans k31
      replace k32 := (hc _ 2 K3).trans k32
      replace k40 := (hc _ 0 K4).trans k40
      replace k41 := (hc _ 1 K4).trans k41
      replace k42 := (hc _ 2 K4).trans k42
      replace k50 := (hc _ 0 K5).trans k50
      replace k51 := (hc _ 1 K5).trans k51
      replace FV := Lib.hid (FixAt.below FV.out hb)
      replace L0 := Nat.lt_of_lt_of_le L0 hz
      replace K1 := Nat.lt_of_lt_of_le K1 hz
      replace K2 := Nat.lt_of_lt_of_le K2 hz
      replace K3 := Nat.lt_of_lt_of_le K3 hz
      replace K4 := Nat.lt_of_lt_of_le K4 hz
      replace K5 := Nat.lt_of_lt_of_le K5 hz
      clear hc hf hz hb
      obtain ⟨C6, hC6⟩ : ∃ x, x = U7.heap.size := ⟨_, rfl⟩
      rw [← hC6] at k60 k61 K6
      try rw [← hC6]
      replace hC6 := Lib.hid hC6
      go_wp2_with (first | (go_at_call_of 49 (Value.int .i64 X); refine (CB1.out _).mono ?_; rintro e w1 ⟨rfl, rfl⟩) | (go_at_call_of 49 (Value.int .i64 Y); refine (CB2.out _).mono ?_; rintro e w1 ⟨rfl, rfl⟩))
      go_ret
      exact ⟨rfl, HD⟩

theorem own : ownKnob Try.prog.godebug = none := by kernel_rfl
theorem laidOut : laidOutB Try.prog = true := by kernel_rfl
set_option maxRecDepth 100000 in
theorem lifted (os : Os) (started : os.Started) (H : Type) (enc : TypeId × Value → H) :
    ReturnsInHanded {} Try.checked os 14 .any (Rows.fnPositionSpec.pre6 enc Try.prog Try.f14 Rows.fnPositionRow.domain false) (Rows.fnPositionSpec.post enc Try.prog Try.f14 false true false false) := by
  refine returnsInHanded_of_change (C := Try.checked) own started (by kernel_rfl) Try.func14
    (ChangeSpec.witness6 (enc := enc) (C := Try.checked) false ⟨#[], #[.slice none 0 0], []⟩ 8 (by kernel_rfl) (by kernel_rfl) (by kernel_rfl) (by kernel_rfl)) ?_
  intro W base args ds gs before hval0 hW hcnd _
  have hval : ∀ (j : Nat) t v, Try.f14.params[j]? = some t → args[j]? = some v → Value.okWide Try.prog W .any base t v := hval0
  have hW' := hW
  obtain ⟨p, q, hA0, hV, rfl, hfz, hnd⟩ := hW
  have hA : DataW.TrodAll enc Try.prog W 0 (fun _ => true) true Try.f14.params.toList args.toList ds p := hA0
  rw [Try.params14] at hA hval
  obtain ⟨v0, vs0, d0, ds0, p0, q0, hargs, rfl, rfl, h0, r0⟩ := trodAll_cons hA
  obtain ⟨rfl, rfl, rfl⟩ := trodAll_nil r0
  obtain rfl : args = #[v0] := by cases args; simp_all
  obtain ⟨rfl, rfl⟩ := trodVars_none hV
  have k0 := h0
  have lt0 : ∀ x ∈ p0, x.block < W.heap.size := by obtain ⟨m, hm⟩ := k0; exact DataW.trod_lt m _ _ _ hm
  obtain ⟨⟨a0, cap0⟩, n0, rfl, w0⟩ := open_bytes Try.underlying67 Try.underlying5 (by kernel_rfl) (hval 0 67 v0 rfl rfl) h0
  clear hA0 hval0
  refine (walk a0 cap0 n0 W w0).mono fun e W' ⟨he, bel⟩ => ?_
  subst he
  exact ⟨_, rfl, _, _, _, [], _, [], hW', trodAll_mk1 (shut_bool Try.underlying4 _), (trodAll_cons_mk (Below.trod laidOut (by kernel_rfl) (of_decide_eq_true (by kernel_rfl)) k0 bel lt0) trodAll_mk0), rfl, bel.frame _, fun h => by cases h⟩

theorem over : Rows.fnPositionRow.holds Try.pinned (OpenSpec.ofChange Rows.fnPositionSpec) :=
  OpenClaim.holds_of_wide 14 Try.f14 rfl rfl rfl rfl rfl rfl rfl ⟨rfl, rfl, rfl, rfl, rfl⟩ rfl rfl rfl rfl rfl (by kernel_rfl) Try.func14 (by kernel_rfl)
    (of_decide_eq_true (by kernel_rfl)) (by unfold Func.isWrapper; first | (rw [if_pos (by decide +kernel)]; kernel_rfl) | (rw [if_neg (by decide +kernel)]; exact ⟨rfl, rfl⟩))
    (fun os started H enc _ => lifted os started H enc)

/-- The statement. -/
theorem proved : Rows.FnPositionSaid := over
end Go.Proofs.Ytdgmadpkhdfapaa.fnPosition
