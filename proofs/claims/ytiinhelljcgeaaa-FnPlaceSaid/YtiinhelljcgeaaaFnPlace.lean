/-
  FnPlace: for every code the law's function answers true. No condition.
-/
import Derived.Test.YtiinhelljcgeaaaRows
import Derived.Test.YtiinhelljcgeaaaDraw8
import Derived.Test.YtiinhelljcgeaaaL02p
import Derived.Test.YtiinhelljcgeaaaPlain4
namespace Go.Proofs.Ytiinhelljcgeaaa.fnPlace
open Go.ChangeShapes Go.WideShapes Go.ChangeAt Go.RowKit Go.Deep
open Go.ChangeMaps (open_string shut_string)
set_option linter.unusedVariables false

theorem at_lo (a b : Int) : atZ a b 0 1 = a := by simp [atZ]
theorem at_hi (a b : Int) : atZ a b 1 1 = b := by simp [atZ]; omega
theorem at_in {a b n d : Int} (h0 : 0 ≤ n) (h1 : n ≤ d) (hd : 1 ≤ d) : min a b ≤ atZ a b n d ∧ atZ a b n d ≤ max a b := by
  have hp : 0 < d := by omega
  unfold atZ
  rcases Int.le_total a b with g | g
  · have q0 : 0 ≤ (b - a) * n / d := Int.ediv_nonneg (Int.mul_nonneg (by omega) h0) (by omega)
    have q1 : (b - a) * n / d ≤ b - a := Int.ediv_le_of_le_mul hp (Int.mul_le_mul_of_nonneg_left h1 (by omega))
    omega
  · have n0 : (b - a) * n ≤ 0 := Int.mul_nonpos_of_nonpos_of_nonneg (by omega) h0
    have q0 : (b - a) * n / d ≤ 0 := Int.ediv_le_of_le_mul hp (by omega)
    have q1 : b - a ≤ (b - a) * n / d := Int.le_ediv_of_mul_le hp (Int.mul_le_mul_of_nonpos_left (by omega) h1)
    omega
theorem low_in {n d : Int} (h0 : 0 ≤ n) (h1 : n ≤ d) (hd : 0 < d) : 1 ≤ lowD n d ∧ 0 ≤ lowN n d ∧ lowN n d ≤ lowD n d := by
  unfold lowD lowN
  have hg : 0 < (Int.gcd n d : Int) := by
    have := Int.gcd_pos_of_ne_zero_right n (show d ≠ 0 by omega)
    omega
  have hgd : (Int.gcd n d : Int) ≤ d := Int.le_of_dvd hd (Int.gcd_dvd_right _ _)
  refine ⟨?_, Int.ediv_nonneg h0 (by omega), Int.ediv_le_ediv hg h1⟩
  exact Int.le_ediv_of_mul_le hg (by omega)
theorem between_c (x a b : Int) (w : World) : Calls Try.prog 45 #[.int .i64 x, .int .i64 a, .int .i64 b] w fun e w' => e = .returned (.bool (decide (min a b ≤ x ∧ x ≤ max a b))) ∧ w = w' := by
  rcases Int.lt_or_le b a with g | g
  · rw [Int.min_eq_right (Int.le_of_lt g), Int.max_eq_left (Int.le_of_lt g)]
    by_cases h1 : b ≤ x
    all_goals by_cases h2 : x ≤ a
    all_goals
      go_enter Try.func45, Try.ntmps45
      go_wp2
      all_goals go_ret
      all_goals exact ⟨ret_bool (by first | (simp [*]; done) | (simp [*]; omega)), rfl⟩
  · rw [Int.min_eq_left g, Int.max_eq_right g]
    by_cases h1 : a ≤ x
    all_goals by_cases h2 : x ≤ b
    all_goals
      go_enter Try.func45, Try.ntmps45
      go_wp2
      all_goals go_ret
      all_goals exact ⟨ret_bool (by first | (simp [*]; done) | (simp [*]; omega)), rfl⟩
theorem place_cases (ax ay bx cy n d : Int) : (pointR ax ay bx cy n d).2.2 ≠ 0 ∨ (isSeg ax ay bx cy = true ∧ pointR ax ay bx cy n d = (atZ ax bx n d, atZ ay cy n d, 0) ∧ 0 ≤ n ∧ n ≤ d ∧ 1 ≤ d) := by
  unfold pointR
  by_cases h : isSeg ax ay bx cy = true
  · rw [if_pos h]
    by_cases h2 : placeOK n d = true
    · rw [if_pos h2]
      refine .inr ⟨h, rfl, ?_⟩
      simp [placeOK] at h2
      have h3 := inR_true h2.1
      have h4 := inR_true h2.2
      omega
    · rw [if_neg h2]; exact .inl (by simp)
  · rw [if_neg h]; exact .inl (by simp)
theorem near_law {ax ay bx cy px py : Int} (h : isSeg ax ay bx cy = true) (hx : min ax bx ≤ px ∧ px ≤ max ax bx) (hy : min ay cy ≤ py ∧ py ≤ max ay cy) : ∃ n d : Int, nearR ax ay bx cy px py = (n, d, 0) ∧ 1 ≤ d ∧ 0 ≤ n ∧ n ≤ d := by
  have hs := isSeg_true h
  obtain ⟨p1, p2, p3, p4⟩ := isPt_true hs.1
  obtain ⟨q1, q2, q3, q4⟩ := isPt_true hs.2.1
  have hp : isPt px py = true := by simp [isPt, inR]; omega
  have hd : 0 < sqZ ax ay bx cy := sq_pos hs.2.2
  have hl := low_in (n := nearN ax ay bx cy px py) (d := sqZ ax ay bx cy) (by unfold nearN; omega) (by unfold nearN; omega) hd
  exact ⟨_, _, by simp only [nearR, nearOK, h, hp, Bool.and_self, if_true], hl⟩

set_option maxRecDepth 100000 in
set_option maxHeartbeats 2000000 in
theorem walk (a : Option Addr) (cap n : Nat) (w : World) (w0 : n ≤ 9223372036854775807 ∧ BytesB w.heap.size w a n) :
    Calls Try.prog 10 #[.slice a n cap] w fun e w' => e = .returned (.bool true) ∧ Below w.heap.size w w' := by
  obtain ⟨hn, hb⟩ := w0
  have HB := Lib.hid hb
  clear hb
  by_cases h : (4096 : Int) < (n : Int)
  · have CB := Lib.hid (fun w => big_t a n cap w hn h)
    go_enter Try.func10, Try.ntmps10
    go_wp2_with (go_at_call 15; refine (CB.out _).mono ?_; rintro e w' ⟨rfl, rfl⟩)
    go_ret
    exact ⟨rfl, (by repeat (first | with_reducible exact Below.refl _ _ | with_reducible assumption | with_reducible refine Below.drew ?_ | with_reducible refine Below.alloc ?_ (by first | exact Nat.le_refl _ | (simp; done) | (simp; omega) | omega) _ | with_reducible refine Below.setCell ?_ (by first | exact Nat.le_refl _ | (simp; done) | (simp; omega) | omega) _ | with_reducible refine Below.trans ?_ (Below.mono (by with_reducible assumption) (by first | exact Nat.le_refl _ | (simp; done) | (simp; omega) | omega))))⟩
  have CB := Lib.hid (fun w => big_f a n cap w hn h)
  clear h
  go_enter Try.func10, Try.ntmps10
  go_wp2_with (go_at_call 15; refine (CB.out _).mono ?_; rintro e w' ⟨rfl, rfl⟩)
  refine (DrawPointAt_c a n cap _ hn (bytes_at HB.out (by repeat (first | with_reducible exact Below.refl _ _ | with_reducible assumption | with_reducible refine Below.drew ?_ | with_reducible refine Below.alloc ?_ (by first | exact Nat.le_refl _ | (simp; done) | (simp; omega) | omega) _ | with_reducible refine Below.setCell ?_ (by first | exact Nat.le_refl _ | (simp; done) | (simp; omega) | omega) _ | with_reducible refine Below.trans ?_ (Below.mono (by with_reducible assumption) (by first | exact Nat.le_refl _ | (simp; done) | (simp; omega) | omega)))))).mono ?_
  rintro e V1 ⟨⟨ax, ay, bx, cy, n1, d1, rfl⟩, hbV⟩
  clear CB HB
  have hzV := hbV.size
  go_wp2_with fail
  obtain ⟨W, hW⟩ : ∃ W, W = ((V1.alloc (.cells #[.int .i64 ax, .int .i64 ay, .int .i64 bx, .int .i64 cy] 46)).alloc (.cells #[.int .i64 n1, .int .i64 d1] 34)) := ⟨_, rfl⟩
  have HD : Below w.heap.size w W := by subst hW; exact (by repeat (first | with_reducible exact Below.refl _ _ | with_reducible assumption | with_reducible refine Below.drew ?_ | with_reducible refine Below.alloc ?_ (by first | exact Nat.le_refl _ | (simp; done) | (simp; omega) | omega) _ | with_reducible refine Below.setCell ?_ (by first | exact Nat.le_refl _ | (simp; done) | (simp; omega) | omega) _ | with_reducible refine Below.trans ?_ (Below.mono (by with_reducible assumption) (by first | exact Nat.le_refl _ | (simp; done) | (simp; omega) | omega))))
  have HV : Below V1.heap.size V1 W := by subst hW; exact (by repeat (first | with_reducible exact Below.refl _ _ | with_reducible assumption | with_reducible refine Below.drew ?_ | with_reducible refine Below.alloc ?_ (by first | exact Nat.le_refl _ | (simp; done) | (simp; omega) | omega) _ | with_reducible refine Below.setCell ?_ (by first | exact Nat.le_refl _ | (simp; done) | (simp; omega) | omega) _ | with_reducible refine Below.trans ?_ (Below.mono (by with_reducible assumption) (by first | exact Nat.le_refl _ | (simp; done) | (simp; omega) | omega))))
  have b00 : W.cell? ⟨V1.heap.size, 0, none⟩ = some (.int .i64 ax) := by subst hW; simp [go_sem]
  have b01 : W.cell? ⟨V1.heap.size, 1, none⟩ = some (.int .i64 ay) := by subst hW; simp [go_sem]
  have b02 : W.cell? ⟨V1.heap.size, 2, none⟩ = some (.int .i64 bx) := by subst hW; simp [go_sem]
  have b03 : W.cell? ⟨V1.heap.size, 3, none⟩ = some (.int .i64 cy) := by subst hW; simp [go_sem]
  have L0 : V1.heap.size < W.heap.size := by subst hW; first | (simp; done) | (simp; omega)
  have b10 : W.cell? ⟨V1.heap.size + 1, 0, none⟩ = some (.int .i64 n1) := by subst hW; simp [go_sem]
  have b11 : W.cell? ⟨V1.heap.size + 1, 1, none⟩ = some (.int .i64 d1) := by subst hW; simp [go_sem]
  have L1 : V1.heap.size + 1 < W.heap.size := by subst hW; first | (simp; done) | (simp; omega)
  rw [← hW]
  clear hW
  generalize V1.heap.size + 1 = B1 at *
  obtain ⟨B0, hB0⟩ : ∃ B, B = V1.heap.size := ⟨_, rfl⟩
  rw [← hB0] at b00 b01 b02 b03 L0
  try rw [← hB0]
  replace hB0 := Lib.hid hB0
  clear HV
  rcases place_cases ax ay bx cy n1 d1 with E | ⟨hS, E, h0, h1, hd⟩
  case inl =>
    have C1 := Lib.hid (fun W => PointAt_c ax ay bx cy n1 d1 W)
    have C2 := Lib.hid (fun W => PointAtS_c ax ay bx cy n1 d1 W)
    generalize pointR ax ay bx cy n1 d1 = R at *
    obtain ⟨X, Y, M⟩ := R
    simp only at E C1 C2
    refine (C1.out _).mono ?_
    rintro e U1 ⟨rfl, hb⟩
    replace HD := HD.trans (hb.mono HD.size)
    obtain ⟨hc, hf⟩ := bcell hb
    have hz := hb.size
    replace b00 := (hc _ 0 L0).trans b00
    replace b01 := (hc _ 1 L0).trans b01
    replace b02 := (hc _ 2 L0).trans b02
    replace b03 := (hc _ 3 L0).trans b03
    replace b10 := (hc _ 0 L1).trans b10
    replace b11 := (hc _ 1 L1).trans b11
    replace L0 := Nat.lt_of_lt_of_le L0 hz
    replace L1 := Nat.lt_of_lt_of_le L1 hz
    clear hc hf hz hb
    go_wp2_with fail
    obtain ⟨P1, hP1⟩ : ∃ x, x = U1.alloc (.cells #[.int .i64 X, .int .i64 Y] 28) := ⟨_, rfl⟩
    have hb : Below U1.heap.size U1 P1 := by subst hP1; exact (Below.refl _ _).alloc (Nat.le_refl _) _
    have k10 : P1.cell? ⟨U1.heap.size, 0, none⟩ = some (.int .i64 X) := by subst hP1; simp [go_sem]
    have k11 : P1.cell? ⟨U1.heap.size, 1, none⟩ = some (.int .i64 Y) := by subst hP1; simp [go_sem]
    have K1 : U1.heap.size < P1.heap.size := by subst hP1; simp
    have hS1 := Lib.hid (show P1.heap.size = U1.heap.size + 1 by subst hP1; simp)
    rw [← hP1]
    clear hP1
    replace HD := HD.trans (hb.mono HD.size)
    obtain ⟨hc, hf⟩ := bcell hb
    have hz := hb.size
    replace b00 := (hc _ 0 L0).trans b00
    replace b01 := (hc _ 1 L0).trans b01
    replace b02 := (hc _ 2 L0).trans b02
    replace b03 := (hc _ 3 L0).trans b03
    replace b10 := (hc _ 0 L1).trans b10
    replace b11 := (hc _ 1 L1).trans b11
    replace L0 := Nat.lt_of_lt_of_le L0 hz
    replace L1 := Nat.lt_of_lt_of_le L1 hz
    clear hc hf hz hb
    obtain ⟨C1, hC1⟩ : ∃ x, x = U1.heap.size := ⟨_, rfl⟩
    rw [← hC1] at k10 k11 K1
    try rw [← hC1]
    replace hC1 := Lib.hid hC1
    refine (C2.out _).mono ?_
    rintro e U2 ⟨rfl, hb⟩
    replace HD := HD.trans (hb.mono HD.size)
    obtain ⟨hc, hf⟩ := bcell hb
    have hz := hb.size
    replace b00 := (hc _ 0 L0).trans b00
    replace b01 := (hc _ 1 L0).trans b01
    replace b02 := (hc _ 2 L0).trans b02
    replace b03 := (hc _ 3 L0).trans b03
    replace b10 := (hc _ 0 L1).trans b10
    replace b11 := (hc _ 1 L1).trans b11
    replace k10 := (hc _ 0 K1).trans k10
    replace k11 := (hc _ 1 K1).trans k11
    replace L0 := Nat.lt_of_lt_of_le L0 hz
    replace L1 := Nat.lt_of_lt_of_le L1 hz
    replace K1 := Nat.lt_of_lt_of_le K1 hz
    clear hc hf hz hb
    go_wp2_with fail
    go_ret
    exact ⟨rfl, HD.alloc HD.size _⟩
  case inr =>
    have hx := at_in (a := ax) (b := bx) h0 h1 hd
    have hy := at_in (a := ay) (b := cy) h0 h1 hd
    obtain ⟨nn, dd, hn2, hn3, hn4, hn5⟩ := near_law hS hx hy
    have E0 : pointR ax ay bx cy 0 1 = (ax, ay, 0) := by simp [pointR, hS, placeOK, inR, at_lo]
    have E1 : pointR ax ay bx cy 1 1 = (bx, cy, 0) := by simp [pointR, hS, placeOK, inR, at_hi]
    have C1 := Lib.hid (fun W => E ▸ PointAt_c ax ay bx cy n1 d1 W)
    have C2 := Lib.hid (fun W => E ▸ PointAtS_c ax ay bx cy n1 d1 W)
    have C3 := Lib.hid (fun W => E0 ▸ PointAt_c ax ay bx cy 0 1 W)
    have C4 := Lib.hid (fun W => E1 ▸ PointAt_c ax ay bx cy 1 1 W)
    have C5 := Lib.hid (fun W => hn2 ▸ NearestPlace_c ax ay bx cy (atZ ax bx n1 d1) (atZ ay cy n1 d1) W)
    have CB1 := Lib.hid (fun W => (decide_eq_true hx) ▸ between_c (atZ ax bx n1 d1) ax bx W)
    have CB2 := Lib.hid (fun W => (decide_eq_true hy) ▸ between_c (atZ ay cy n1 d1) ay cy W)
    clear E E0 E1 hn2 hx hy
    generalize atZ ax bx n1 d1 = X at *
    generalize atZ ay cy n1 d1 = Y at *
    refine (C1.out _).mono ?_
    rintro e U1 ⟨rfl, hb⟩
    replace HD := HD.trans (hb.mono HD.size)
    obtain ⟨hc, hf⟩ := bcell hb
    have hz := hb.size
    replace b00 := (hc _ 0 L0).trans b00
    replace b01 := (hc _ 1 L0).trans b01
    replace b02 := (hc _ 2 L0).trans b02
    replace b03 := (hc _ 3 L0).trans b03
    replace b10 := (hc _ 0 L1).trans b10
    replace b11 := (hc _ 1 L1).trans b11
    replace L0 := Nat.lt_of_lt_of_le L0 hz
    replace L1 := Nat.lt_of_lt_of_le L1 hz
    clear hc hf hz hb
    go_wp2_with fail
    obtain ⟨P1, hP1⟩ : ∃ x, x = U1.alloc (.cells #[.int .i64 X, .int .i64 Y] 28) := ⟨_, rfl⟩
    have hb : Below U1.heap.size U1 P1 := by subst hP1; exact (Below.refl _ _).alloc (Nat.le_refl _) _
    have k110 : P1.cell? ⟨U1.heap.size, 0, none⟩ = some (.int .i64 X) := by subst hP1; simp [go_sem]
    have k111 : P1.cell? ⟨U1.heap.size, 1, none⟩ = some (.int .i64 Y) := by subst hP1; simp [go_sem]
    have K11 : U1.heap.size < P1.heap.size := by subst hP1; simp
    have hS11 := Lib.hid (show P1.heap.size = U1.heap.size + 1 by subst hP1; simp)
    rw [← hP1]
    clear hP1
    replace HD := HD.trans (hb.mono HD.size)
    obtain ⟨hc, hf⟩ := bcell hb
    have hz := hb.size
    replace b00 := (hc _ 0 L0).trans b00
    replace b01 := (hc _ 1 L0).trans b01
    replace b02 := (hc _ 2 L0).trans b02
    replace b03 := (hc _ 3 L0).trans b03
    replace b10 := (hc _ 0 L1).trans b10
    replace b11 := (hc _ 1 L1).trans b11
    replace L0 := Nat.lt_of_lt_of_le L0 hz
    replace L1 := Nat.lt_of_lt_of_le L1 hz
    clear hc hf hz hb
    obtain ⟨C11, hC11⟩ : ∃ x, x = U1.heap.size := ⟨_, rfl⟩
    rw [← hC11] at k110 k111 K11
    try rw [← hC11]
    replace hC11 := Lib.hid hC11
    refine (C2.out _).mono ?_
    rintro e U2 ⟨rfl, hb⟩
    replace HD := HD.trans (hb.mono HD.size)
    obtain ⟨hc, hf⟩ := bcell hb
    have hz := hb.size
    replace b00 := (hc _ 0 L0).trans b00
    replace b01 := (hc _ 1 L0).trans b01
    replace b02 := (hc _ 2 L0).trans b02
    replace b03 := (hc _ 3 L0).trans b03
    replace b10 := (hc _ 0 L1).trans b10
    replace b11 := (hc _ 1 L1).trans b11
    replace k110 := (hc _ 0 K11).trans k110
    replace k111 := (hc _ 1 K11).trans k111
    replace L0 := Nat.lt_of_lt_of_le L0 hz
    replace L1 := Nat.lt_of_lt_of_le L1 hz
    replace K11 := Nat.lt_of_lt_of_le K11 hz
    clear hc hf hz hb
    go_wp2_with fail
    obtain ⟨P2, hP2⟩ : ∃ x, x = U2.alloc (.cells #[.int .i64 X, .int .i64 Y] 28) := ⟨_, rfl⟩
    have hb : Below U2.heap.size U2 P2 := by subst hP2; exact (Below.refl _ _).alloc (Nat.le_refl _) _
    have k120 : P2.cell? ⟨U2.heap.size, 0, none⟩ = some (.int .i64 X) := by subst hP2; simp [go_sem]
    have k121 : P2.cell? ⟨U2.heap.size, 1, none⟩ = some (.int .i64 Y) := by subst hP2; simp [go_sem]
    have K12 : U2.heap.size < P2.heap.size := by subst hP2; simp
    have hS12 := Lib.hid (show P2.heap.size = U2.heap.size + 1 by subst hP2; simp)
    rw [← hP2]
    clear hP2
    replace HD := HD.trans (hb.mono HD.size)
    obtain ⟨hc, hf⟩ := bcell hb
    have hz := hb.size
    replace b00 := (hc _ 0 L0).trans b00
    replace b01 := (hc _ 1 L0).trans b01
    replace b02 := (hc _ 2 L0).trans b02
    replace b03 := (hc _ 3 L0).trans b03
    replace b10 := (hc _ 0 L1).trans b10
    replace b11 := (hc _ 1 L1).trans b11
    replace k110 := (hc _ 0 K11).trans k110
    replace k111 := (hc _ 1 K11).trans k111
    replace L0 := Nat.lt_of_lt_of_le L0 hz
    replace L1 := Nat.lt_of_lt_of_le L1 hz
    replace K11 := Nat.lt_of_lt_of_le K11 hz
    clear hc hf hz hb
    obtain ⟨C12, hC12⟩ : ∃ x, x = U2.heap.size := ⟨_, rfl⟩
    rw [← hC12] at k120 k121 K12
    try rw [← hC12]
    replace hC12 := Lib.hid hC12
    refine (C3.out _).mono ?_
    rintro e U3 ⟨rfl, hb⟩
    replace HD := HD.trans (hb.mono HD.size)
    obtain ⟨hc, hf⟩ := bcell hb
    have hz := hb.size
    replace b00 := (hc _ 0 L0).trans b00
    replace b01 := (hc _ 1 L0).trans b01
    replace b02 := (hc _ 2 L0).trans b02
    replace b03 := (hc _ 3 L0).trans b03
    replace b10 := (hc _ 0 L1).trans b10
    replace b11 := (hc _ 1 L1).trans b11
    replace k110 := (hc _ 0 K11).trans k110
    replace k111 := (hc _ 1 K11).trans k111
    replace k120 := (hc _ 0 K12).trans k120
    replace k121 := (hc _ 1 K12).trans k121
    replace L0 := Nat.lt_of_lt_of_le L0 hz
    replace L1 := Nat.lt_of_lt_of_le L1 hz
    replace K11 := Nat.lt_of_lt_of_le K11 hz
    replace K12 := Nat.lt_of_lt_of_le K12 hz
    clear hc hf hz hb
    go_wp2_with fail
    obtain ⟨P3, hP3⟩ : ∃ x, x = U3.alloc (.cells #[.int .i64 ax, .int .i64 ay] 28) := ⟨_, rfl⟩
    have hb : Below U3.heap.size U3 P3 := by subst hP3; exact (Below.refl _ _).alloc (Nat.le_refl _) _
    have k130 : P3.cell? ⟨U3.heap.size, 0, none⟩ = some (.int .i64 ax) := by subst hP3; simp [go_sem]
    have k131 : P3.cell? ⟨U3.heap.size, 1, none⟩ = some (.int .i64 ay) := by subst hP3; simp [go_sem]
    have K13 : U3.heap.size < P3.heap.size := by subst hP3; simp
    have hS13 := Lib.hid (show P3.heap.size = U3.heap.size + 1 by subst hP3; simp)
    rw [← hP3]
    clear hP3
    replace HD := HD.trans (hb.mono HD.size)
    obtain ⟨hc, hf⟩ := bcell hb
    have hz := hb.size
    replace b00 := (hc _ 0 L0).trans b00
    replace b01 := (hc _ 1 L0).trans b01
    replace b02 := (hc _ 2 L0).trans b02
    replace b03 := (hc _ 3 L0).trans b03
    replace b10 := (hc _ 0 L1).trans b10
    replace b11 := (hc _ 1 L1).trans b11
    replace k110 := (hc _ 0 K11).trans k110
    replace k111 := (hc _ 1 K11).trans k111
    replace k120 := (hc _ 0 K12).trans k120
    replace k121 := (hc _ 1 K12).trans k121
    replace L0 := Nat.lt_of_lt_of_le L0 hz
    replace L1 := Nat.lt_of_lt_of_le L1 hz
    replace K11 := Nat.lt_of_lt_of_le K11 hz
    replace K12 := Nat.lt_of_lt_of_le K12 hz
    clear hc hf hz hb
    obtain ⟨C13, hC13⟩ : ∃ x, x = U3.heap.size := ⟨_, rfl⟩
    rw [← hC13] at k130 k131 K13
    try rw [← hC13]
    replace hC13 := Lib.hid hC13
    refine (C4.out _).mono ?_
    rintro e U4 ⟨rfl, hb⟩
    replace HD := HD.trans (hb.mono HD.size)
    obtain ⟨hc, hf⟩ := bcell hb
    have hz := hb.size
    replace b00 := (hc _ 0 L0).trans b00
    replace b01 := (hc _ 1 L0).trans b01
    replace b02 := (hc _ 2 L0).trans b02
    replace b03 := (hc _ 3 L0).trans b03
    replace b10 := (hc _ 0 L1).trans b10
    replace b11 := (hc _ 1 L1).trans b11
    replace k110 := (hc _ 0 K11).trans k110
    replace k111 := (hc _ 1 K11).trans k111
    replace k120 := (hc _ 0 K12).trans k120
    replace k121 := (hc _ 1 K12).trans k121
    replace k130 := (hc _ 0 K13).trans k130
    replace k131 := (hc _ 1 K13).trans k131
    replace L0 := Nat.lt_of_lt_of_le L0 hz
    replace L1 := Nat.lt_of_lt_of_le L1 hz
    replace K11 := Nat.lt_of_lt_of_le K11 hz
    replace K12 := Nat.lt_of_lt_of_le K12 hz
    replace K13 := Nat.lt_of_lt_of_le K13 hz
    clear hc hf hz hb
    go_wp2_with fail
    obtain ⟨P4, hP4⟩ : ∃ x, x = U4.alloc (.cells #[.int .i64 bx, .int .i64 cy] 28) := ⟨_, rfl⟩
    have hb : Below U4.heap.size U4 P4 := by subst hP4; exact (Below.refl _ _).alloc (Nat.le_refl _) _
    have k140 : P4.cell? ⟨U4.heap.size, 0, none⟩ = some (.int .i64 bx) := by subst hP4; simp [go_sem]
    have k141 : P4.cell? ⟨U4.heap.size, 1, none⟩ = some (.int .i64 cy) := by subst hP4; simp [go_sem]
    have K14 : U4.heap.size < P4.heap.size := by subst hP4; simp
    have hS14 := Lib.hid (show P4.heap.size = U4.heap.size + 1 by subst hP4; simp)
    rw [← hP4]
    clear hP4
    replace HD := HD.trans (hb.mono HD.size)
    obtain ⟨hc, hf⟩ := bcell hb
    have hz := hb.size
    replace b00 := (hc _ 0 L0).trans b00
    replace b01 := (hc _ 1 L0).trans b01
    replace b02 := (hc _ 2 L0).trans b02
    replace b03 := (hc _ 3 L0).trans b03
    replace b10 := (hc _ 0 L1).trans b10
    replace b11 := (hc _ 1 L1).trans b11
    replace k110 := (hc _ 0 K11).trans k110
    replace k111 := (hc _ 1 K11).trans k111
    replace k120 := (hc _ 0 K12).trans k120
    replace k121 := (hc _ 1 K12).trans k121
    replace k130 := (hc _ 0 K13).trans k130
    replace k131 := (hc _ 1 K13).trans k131
    replace L0 := Nat.lt_of_lt_of_le L0 hz
    replace L1 := Nat.lt_of_lt_of_le L1 hz
    replace K11 := Nat.lt_of_lt_of_le K11 hz
    replace K12 := Nat.lt_of_lt_of_le K12 hz
    replace K13 := Nat.lt_of_lt_of_le K13 hz
    clear hc hf hz hb
    obtain ⟨C14, hC14⟩ : ∃ x, x = U4.heap.size := ⟨_, rfl⟩
    rw [← hC14] at k140 k141 K14
    try rw [← hC14]
    replace hC14 := Lib.hid hC14
    refine (C5.out _).mono ?_
    rintro e U5 ⟨rfl, hb⟩
    replace HD := HD.trans (hb.mono HD.size)
    obtain ⟨hc, hf⟩ := bcell hb
    have hz := hb.size
    replace b00 := (hc _ 0 L0).trans b00
    replace b01 := (hc _ 1 L0).trans b01
    replace b02 := (hc _ 2 L0).trans b02
    replace b03 := (hc _ 3 L0).trans b03
    replace b10 := (hc _ 0 L1).trans b10
    replace b11 := (hc _ 1 L1).trans b11
    replace k110 := (hc _ 0 K11).trans k110
    replace k111 := (hc _ 1 K11).trans k111
    replace k120 := (hc _ 0 K12).trans k120
    replace k121 := (hc _ 1 K12).trans k121
    replace k130 := (hc _ 0 K13).trans k130
    replace k131 := (hc _ 1 K13).trans k131
    replace k140 := (hc _ 0 K14).trans k140
    replace k141 := (hc _ 1 K14).trans k141
    replace L0 := Nat.lt_of_lt_of_le L0 hz
    replace L1 := Nat.lt_of_lt_of_le L1 hz
    replace K11 := Nat.lt_of_lt_of_le K11 hz
    replace K12 := Nat.lt_of_lt_of_le K12 hz
    replace K13 := Nat.lt_of_lt_of_le K13 hz
    replace K14 := Nat.lt_of_lt_of_le K14 hz
    clear hc hf hz hb
    go_wp2_with fail
    obtain ⟨P5, hP5⟩ : ∃ x, x = U5.alloc (.cells #[.int .i64 nn, .int .i64 dd] 34) := ⟨_, rfl⟩
    have hb : Below U5.heap.size U5 P5 := by subst hP5; exact (Below.refl _ _).alloc (Nat.le_refl _) _
    have k150 : P5.cell? ⟨U5.heap.size, 0, none⟩ = some (.int .i64 nn) := by subst hP5; simp [go_sem]
    have k151 : P5.cell? ⟨U5.heap.size, 1, none⟩ = some (.int .i64 dd) := by subst hP5; simp [go_sem]
    have K15 : U5.heap.size < P5.heap.size := by subst hP5; simp
    have hS15 := Lib.hid (show P5.heap.size = U5.heap.size + 1 by subst hP5; simp)
    rw [← hP5]
    clear hP5
    replace HD := HD.trans (hb.mono HD.size)
    obtain ⟨hc, hf⟩ := bcell hb
    have hz := hb.size
    replace b00 := (hc _ 0 L0).trans b00
    replace b01 := (hc _ 1 L0).trans b01
    replace b02 := (hc _ 2 L0).trans b02
    replace b03 := (hc _ 3 L0).trans b03
    replace b10 := (hc _ 0 L1).trans b10
    replace b11 := (hc _ 1 L1).trans b11
    replace k110 := (hc _ 0 K11).trans k110
    replace k111 := (hc _ 1 K11).trans k111
    replace k120 := (hc _ 0 K12).trans k120
    replace k121 := (hc _ 1 K12).trans k121
    replace k130 := (hc _ 0 K13).trans k130
    replace k131 := (hc _ 1 K13).trans k131
    replace k140 := (hc _ 0 K14).trans k140
    replace k141 := (hc _ 1 K14).trans k141
    replace L0 := Nat.lt_of_lt_of_le L0 hz
    replace L1 := Nat.lt_of_lt_of_le L1 hz
    replace K11 := Nat.lt_of_lt_of_le K11 hz
    replace K12 := Nat.lt_of_lt_of_le K12 hz
    replace K13 := Nat.lt_of_lt_of_le K13 hz
    replace K14 := Nat.lt_of_lt_of_le K14 hz
    clear hc hf hz hb
    obtain ⟨C15, hC15⟩ : ∃ x, x = U5.heap.size := ⟨_, rfl⟩
    rw [← hC15] at k150 k151 K15
    try rw [← hC15]
    replace hC15 := Lib.hid hC15
    go_wp2_with (first | (go_at_call_of 45 (Value.int .i64 X); refine (CB1.out _).mono ?_; rintro e w1 ⟨rfl, rfl⟩) | (go_at_call_of 45 (Value.int .i64 Y); refine (CB2.out _).mono ?_; rintro e w1 ⟨rfl, rfl⟩))
    go_ret
    exact ⟨rfl, HD⟩

theorem own : ownKnob Try.prog.godebug = none := by kernel_rfl
theorem laidOut : laidOutB Try.prog = true := by kernel_rfl
set_option maxRecDepth 100000 in
theorem lifted (os : Os) (started : os.Started) (H : Type) (enc : TypeId × Value → H) :
    ReturnsInHanded {} Try.checked os 10 .any (Rows.fnPlaceSpec.pre6 enc Try.prog Try.f10 Rows.fnPlaceRow.domain false) (Rows.fnPlaceSpec.post enc Try.prog Try.f10 false true false false) := by
  refine returnsInHanded_of_change (C := Try.checked) own started (by kernel_rfl) Try.func10
    (ChangeSpec.witness6 (enc := enc) (C := Try.checked) false ⟨#[], #[.slice none 0 0], []⟩ 8 (by kernel_rfl) (by kernel_rfl) (by kernel_rfl) (by kernel_rfl)) ?_
  intro W base args ds gs before hval0 hW hcnd _
  have hval : ∀ (j : Nat) t v, Try.f10.params[j]? = some t → args[j]? = some v → Value.okWide Try.prog W .any base t v := hval0
  have hW' := hW
  obtain ⟨p, q, hA0, hV, rfl, hfz, hnd⟩ := hW
  have hA : DataW.TrodAll enc Try.prog W 0 (fun _ => true) true Try.f10.params.toList args.toList ds p := hA0
  rw [Try.params10] at hA hval
  obtain ⟨v0, vs0, d0, ds0, p0, q0, hargs, rfl, rfl, h0, r0⟩ := trodAll_cons hA
  obtain ⟨rfl, rfl, rfl⟩ := trodAll_nil r0
  obtain rfl : args = #[v0] := by cases args; simp_all
  obtain ⟨rfl, rfl⟩ := trodVars_none hV
  have k0 := h0
  have lt0 : ∀ x ∈ p0, x.block < W.heap.size := by obtain ⟨m, hm⟩ := k0; exact DataW.trod_lt m _ _ _ hm
  obtain ⟨⟨a0, cap0⟩, n0, rfl, w0⟩ := open_bytes Try.underlying22 Try.underlying5 (by kernel_rfl) (hval 0 22 v0 rfl rfl) h0
  clear hA0 hval0
  refine (walk a0 cap0 n0 W w0).mono fun e W' ⟨he, bel⟩ => ?_
  subst he
  exact ⟨_, rfl, _, _, _, [], _, [], hW', trodAll_mk1 (shut_bool Try.underlying4 _), (trodAll_cons_mk (Below.trod laidOut (by kernel_rfl) (of_decide_eq_true (by kernel_rfl)) k0 bel lt0) trodAll_mk0), rfl, bel.frame _, fun h => by cases h⟩

theorem over : Rows.fnPlaceRow.holds Try.pinned (OpenSpec.ofChange Rows.fnPlaceSpec) :=
  OpenClaim.holds_of_wide 10 Try.f10 rfl rfl rfl rfl rfl rfl rfl ⟨rfl, rfl, rfl, rfl, rfl⟩ rfl rfl rfl rfl rfl (by kernel_rfl) Try.func10 (by kernel_rfl)
    (of_decide_eq_true (by kernel_rfl)) (by unfold Func.isWrapper; first | (rw [if_pos (by decide +kernel)]; kernel_rfl) | (rw [if_neg (by decide +kernel)]; exact ⟨rfl, rfl⟩))
    (fun os started H enc _ => lifted os started H enc)

/-- The statement. -/
theorem proved : Rows.FnPlaceSaid := over
end Go.Proofs.Ytiinhelljcgeaaa.fnPlace
