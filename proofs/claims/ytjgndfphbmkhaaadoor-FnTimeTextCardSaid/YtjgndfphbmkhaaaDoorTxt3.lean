/-
  The text of a time, both sides. Conditions: the library's table is laid in the world.
-/
import Derived.Test.YtjgndfphbmkhaaaDoorTxt2
namespace Go.Proofs.YtjgndfphbmkhaaaDoor
set_option linter.unusedVariables false
open Go.RowKit Go.Deep

/-- minutes, seconds, thousandths -/
def ttB (n : Nat) : ByteArray := dgB (n / 60000) ++ ⟨#[58]⟩ ++ lastB (n / 1000 % 60) 2 ++ ⟨#[46]⟩ ++ lastB (n % 1000) 3
def ttR (t : Int) : ByteArray := if inR t 0 1000000000 = true then ttB t.toNat else ⟨#[]⟩
theorem ba_size1 (x : UInt8) : (⟨#[x]⟩ : ByteArray).size = 1 := rfl
theorem isTimeX_c (t : Int) (w : World) : Calls Tryd.prog 22 #[.int .i64 t] w fun e w' => e = .returned (.bool (inR t 0 1000000000)) ∧ w = w' := by
  go_enter Tryd.func22, Tryd.ntmps22
  go_wp2_with (go_at_call 28; refine (within_c _ _ _ _).mono ?_; rintro e w' ⟨rfl, rfl⟩)
  go_ret
  exact ⟨rfl, rfl⟩
set_option maxRecDepth 100000 in
set_option maxHeartbeats 2000000 in
theorem TimeText_c (t : Int) (w : World) (ht : Tab w) : Calls Tryd.prog 8 #[.int .i64 t] w fun e w' => e = .returned (.string (ttR t)) ∧ Below w.heap.size w w' := by
  cases h : inR t 0 1000000000
  · have HE := Lib.hid (show ttR t = ⟨#[]⟩ by unfold ttR; rw [if_neg (by rw [h]; decide)])
    have CI := Lib.hid (isTimeX_c t w)
    rw [h] at CI
    go_enter Tryd.func8, Tryd.ntmps8
    go_wp2_with (go_at_call 22; refine CI.out.mono ?_; rintro e w' ⟨rfl, rfl⟩)
    go_ret
    exact ⟨by rw [HE.out]; rfl, Below.refl _ _⟩
  · obtain ⟨j0, j1⟩ := inR_true h
    have HE := Lib.hid (show ttR t = ttB t.toNat by unfold ttR; rw [if_pos h])
    have CI := Lib.hid (isTimeX_c t w)
    rw [h] at CI
    clear h
    obtain ⟨n, rfl⟩ := Int.eq_ofNat_of_zero_le j0
    rw [show Int.toNat ((n : Nat) : Int) = n from rfl] at HE
    unfold ttB at HE
    have q1 : (n : Int).tdiv 60000 = ((n / 60000 : Nat) : Int) := by rw [Int.tdiv_eq_ediv_of_nonneg (by omega)]; omega
    have q2 : (n : Int).tdiv 1000 = ((n / 1000 : Nat) : Int) := by rw [Int.tdiv_eq_ediv_of_nonneg (by omega)]; omega
    have q3 : ((n / 1000 : Nat) : Int).tmod 60 = ((n / 1000 % 60 : Nat) : Int) := by rw [Int.tmod_eq_emod_of_nonneg (by omega)]; omega
    have q4 : (n : Int).tmod 1000 = ((n % 1000 : Nat) : Int) := by rw [Int.tmod_eq_emod_of_nonneg (by omega)]; omega
    have b1 : n / 60000 ≤ 16667 := by omega
    have b2 : n / 1000 ≤ 1000000 := by omega
    have b3 : n / 1000 % 60 < 60 := by omega
    have b4 : n % 1000 < 1000 := by omega
    generalize n / 1000 % 60 = s at *
    generalize n % 1000 = m at *
    generalize n / 60000 = q at *
    generalize n / 1000 = u at *
    have w1 : IntKind.i64.wrap (q : Int) = (q : Int) := by rw [IntKind.wrap_i64]; omega
    have w2 : IntKind.i64.wrap (u : Int) = (u : Int) := by rw [IntKind.wrap_i64]; omega
    have w3 : IntKind.i64.wrap (s : Int) = (s : Int) := by rw [IntKind.wrap_i64]; omega
    have w4 : IntKind.i64.wrap (m : Int) = (m : Int) := by rw [IntKind.wrap_i64]; omega
    have z1 := dgB_size (n := q) (by omega)
    have z2 := lastB_size s 2
    have z3 := lastB_size m 3
    have C1 := Lib.hid (fun w ht => text_c q w (by omega) ht)
    have C2 := Lib.hid (fun w ht => digits_c s 1 w (by omega) (by omega) (by omega) ht)
    have C3 := Lib.hid (fun w ht => digits_c m 2 w (by omega) (by omega) (by omega) ht)
    rw [show (((1 + 1 : Nat)) : Int) = 2 from rfl, show 1 + 1 = 2 from rfl] at C2
    rw [show (((2 + 1 : Nat)) : Int) = 3 from rfl, show 2 + 1 = 3 from rfl] at C3
    clear b1 b2 b3 b4
    have HT := Lib.hid ht
    clear ht
    generalize dgB q = D at *
    generalize lastB s 2 = S at *
    generalize lastB m 3 = M at *
    have zc := ba_size1 58
    have zd := ba_size1 46
    go_enter Tryd.func8, Tryd.ntmps8
    go_wp2_with (go_at_call 22; refine CI.out.mono ?_; rintro e w' ⟨rfl, rfl⟩)
    refine (C1.out _ HT.out).mono ?_
    rintro e V1 ⟨rfl, hb1⟩
    have HT1 := Lib.hid (HT.out.below hb1)
    go_wp2_with fail
    refine (C2.out _ HT1.out).mono ?_
    rintro e V2 ⟨rfl, hb2⟩
    have HT2 := Lib.hid (HT1.out.below hb2)
    go_wp2_with fail
    refine (C3.out _ HT2.out).mono ?_
    rintro e V3 ⟨rfl, hb3⟩
    go_wp2_with fail
    go_ret
    exact ⟨by rw [HE.out]; rfl, (hb1.trans (hb2.mono hb1.size)).trans (hb3.mono (hb1.trans (hb2.mono hb1.size)).size)⟩
set_option maxRecDepth 100000 in
set_option maxHeartbeats 2000000 in
theorem l01Time_c (n : Nat) (w : World) (hn : n ≤ 1000000000) : Calls Tryd.prog 21 #[.int .i64 (n : Int)] w fun e w' => e = .returned (.string (ttB n)) ∧ Below w.heap.size w w' := by
  have HE := Lib.hid (show ttB n = dgB (n / 60000) ++ ⟨#[58]⟩ ++ lastB (n / 1000 % 60) 2 ++ ⟨#[46]⟩ ++ lastB n 3 by rw [last3 n]; rfl)
  have q1 : (n : Int).tdiv 60000 = ((n / 60000 : Nat) : Int) := by rw [Int.tdiv_eq_ediv_of_nonneg (by omega)]; omega
  have q2 : (n : Int).tdiv 1000 = ((n / 1000 : Nat) : Int) := by rw [Int.tdiv_eq_ediv_of_nonneg (by omega)]; omega
  have q3 : ((n / 1000 : Nat) : Int).tmod 60 = ((n / 1000 % 60 : Nat) : Int) := by rw [Int.tmod_eq_emod_of_nonneg (by omega)]; omega
  have b1 : n / 60000 ≤ 16667 := by omega
  have b2 : n / 1000 ≤ 1000000 := by omega
  have b3 : n / 1000 % 60 < 60 := by omega
  generalize n / 1000 % 60 = s at *
  generalize n / 60000 = q at *
  generalize n / 1000 = u at *
  have w1 : IntKind.i64.wrap (q : Int) = (q : Int) := by rw [IntKind.wrap_i64]; omega
  have w2 : IntKind.i64.wrap (u : Int) = (u : Int) := by rw [IntKind.wrap_i64]; omega
  have w3 : IntKind.i64.wrap (s : Int) = (s : Int) := by rw [IntKind.wrap_i64]; omega
  have z1 := dgB_size (n := q) (by omega)
  have z2 := lastB_size s 2
  have z3 := lastB_size n 3
  have C1 := Lib.hid (fun w => l01Number_c q w (by omega))
  have C2 := Lib.hid (fun w => l01Digits_c s 2 w (by omega) (by omega))
  have C3 := Lib.hid (fun w => l01Digits_c n 3 w (by omega) (by omega))
  rw [show (((2 : Nat)) : Int) = 2 from rfl] at C2
  rw [show (((3 : Nat)) : Int) = 3 from rfl] at C3
  clear b1 b2 b3
  generalize dgB q = D at *
  generalize lastB s 2 = S at *
  generalize lastB n 3 = M at *
  have zc := ba_size1 58
  have zd := ba_size1 46
  go_enter Tryd.func21, Tryd.ntmps21
  go_wp2_with fail
  refine (C1.out _).mono ?_
  rintro e V1 ⟨rfl, hb1⟩
  go_wp2_with fail
  refine (C2.out _).mono ?_
  rintro e V2 ⟨rfl, hb2⟩
  go_wp2_with fail
  refine (C3.out _).mono ?_
  rintro e V3 ⟨rfl, hb3⟩
  go_wp2_with fail
  go_ret
  exact ⟨by rw [HE.out]; rfl, (hb1.trans (hb2.mono hb1.size)).trans (hb3.mono (hb1.trans (hb2.mono hb1.size)).size)⟩
set_option maxRecDepth 100000 in
set_option maxHeartbeats 2000000 in
theorem TimeTextS_c (t : Int) (w : World) : Calls Tryd.prog 7 #[.int .i64 t] w fun e w' => e = .returned (.string (ttR t)) ∧ Below w.heap.size w w' := by
  cases h : inR t 0 1000000000
  · have HE := Lib.hid (show ttR t = ⟨#[]⟩ by unfold ttR; rw [if_neg (by rw [h]; decide)])
    have CI := Lib.hid (l01In_c t 0 1000000000 w)
    rw [h] at CI
    go_enter Tryd.func7, Tryd.ntmps7
    go_wp2_with (go_at_call 20; refine CI.out.mono ?_; rintro e w' ⟨rfl, rfl⟩)
    go_ret
    exact ⟨by rw [HE.out]; rfl, Below.refl _ _⟩
  · obtain ⟨j0, j1⟩ := inR_true h
    have HE := Lib.hid (show ttR t = ttB t.toNat by unfold ttR; rw [if_pos h])
    have CI := Lib.hid (l01In_c t 0 1000000000 w)
    rw [h] at CI
    clear h
    obtain ⟨n, rfl⟩ := Int.eq_ofNat_of_zero_le j0
    rw [show Int.toNat ((n : Nat) : Int) = n from rfl] at HE
    have CT := Lib.hid (l01Time_c n w (by omega))
    generalize ttB n = R at *
    go_enter Tryd.func7, Tryd.ntmps7
    go_wp2_with (first | (go_at_call 20; refine CI.out.mono ?_; rintro e w' ⟨rfl, rfl⟩) | (go_at_call 21; refine CT.out.mono ?_; rintro e w1 ⟨rfl, hb⟩))
    go_ret
    exact ⟨by rw [HE.out]; rfl, hb⟩
end Go.Proofs.YtjgndfphbmkhaaaDoor
