/-
  FnFirstCrossing: for every code the law's function answers true. No condition.
-/
import Derived.Test.YtdepdkpehbkcjaaRows
import Derived.Test.YtdepdkpehbkcjaaTdraw7
import Derived.Test.YtdepdkpehbkcjaaL05i
import Derived.Test.YtdepdkpehbkcjaaL05k
namespace Go.Proofs.Ytdepdkpehbkcjaa.fnFirstCrossing
open Go.ChangeShapes Go.WideShapes Go.ChangeAt Go.RowKit Go.Deep
open Go.ChangeMaps (open_string shut_string)
set_option linter.unusedVariables false

theorem first_cases (l : List Fx) (ax ay bx cy y f : Int) : ((firstR l ax ay bx cy y f).2 = 1 ∨ (firstR l ax ay bx cy y f).2 = 2) ∨ (crsR l ax ay bx cy = (crL l ax ay bx cy, 0) ∧ ((firstR l ax ay bx cy y f).2 = 0 ∧ firstT (crL l ax ay bx cy) y f = ((firstR l ax ay bx cy y f).1, true) ∨ (firstR l ax ay bx cy y f).2 = 4 ∧ firstT (crL l ax ay bx cy) y f = (zeroCr, false))) := by
  unfold firstR crsR
  by_cases h : isTrk l = true ∧ isSeg ax ay bx cy = true
  · simp only [if_pos h]
    by_cases hy : y = 1 ∨ y = -1
    · simp only [if_pos hy]
      unfold firstT
      cases firstCr y f (crL l ax ay bx cy) with
      | none => simp
      | some c => simp
    · simp only [if_neg hy]; simp
  · simp only [if_neg h]; simp

set_option maxRecDepth 100000 in
set_option maxHeartbeats 2000000 in
theorem walk (a : Option Addr) (cap n : Nat) (w : World) (w0 : n ≤ 9223372036854775807 ∧ BytesB w.heap.size w a n) :
    Calls Try.prog 10 #[.slice a n cap] w fun e w' => e = .returned (.bool true) ∧ Below w.heap.size w w' := by
  obtain ⟨hn, hb⟩ := w0
  have HB := Lib.hid hb
  clear hb
  by_cases h : (4096 : Int) < (n : Int)
  · have CB := Lib.hid (fun w => big_t a n cap w hn h)
    go_enter Try.func10, Try.ntmps10
    go_wp2_with (go_at_call 13; refine (CB.out _).mono ?_; rintro e w' ⟨rfl, rfl⟩)
    go_ret
    exact ⟨rfl, (by repeat (first | with_reducible exact Below.refl _ _ | with_reducible assumption | with_reducible refine Below.drew ?_ | with_reducible refine Below.alloc ?_ (by first | exact Nat.le_refl _ | (simp; done) | (simp; omega) | omega) _ | with_reducible refine Below.setCell ?_ (by first | exact Nat.le_refl _ | (simp; done) | (simp; omega) | omega) _ | with_reducible refine Below.trans ?_ (Below.mono (by with_reducible assumption) (by first | exact Nat.le_refl _ | (simp; done) | (simp; omega) | omega))))⟩
  have CB := Lib.hid (fun w => big_f a n cap w hn h)
  clear h
  go_enter Try.func10, Try.ntmps10
  go_wp2_with (go_at_call 13; refine (CB.out _).mono ?_; rintro e w' ⟨rfl, rfl⟩)
  refine (DrawFirstCrossing_c a n cap _ hn (bytes_at HB.out (by repeat (first | with_reducible exact Below.refl _ _ | with_reducible assumption | with_reducible refine Below.drew ?_ | with_reducible refine Below.alloc ?_ (by first | exact Nat.le_refl _ | (simp; done) | (simp; omega) | omega) _ | with_reducible refine Below.setCell ?_ (by first | exact Nat.le_refl _ | (simp; done) | (simp; omega) | omega) _ | with_reducible refine Below.trans ?_ (Below.mono (by with_reducible assumption) (by first | exact Nat.le_refl _ | (simp; done) | (simp; omega) | omega)))))).mono ?_
  rintro e V1 ⟨⟨r, cp, l, ax, ay, bx, cy, y, f, rfl, hl0, hl1, ho⟩, hbV⟩
  clear CB HB
  have hzV := hbV.size
  go_wp2_with fail
  obtain ⟨W, hW⟩ : ∃ W, W = ((V1.alloc (.cells #[.slice (some ⟨r, 0, none⟩) l.length cp] 26)).alloc (.cells #[.int .i64 ax, .int .i64 ay, .int .i64 bx, .int .i64 cy] 66)) := ⟨_, rfl⟩
  have HD : Below w.heap.size w W := by subst hW; exact (by repeat (first | with_reducible exact Below.refl _ _ | with_reducible assumption | with_reducible refine Below.drew ?_ | with_reducible refine Below.alloc ?_ (by first | exact Nat.le_refl _ | (simp; done) | (simp; omega) | omega) _ | with_reducible refine Below.setCell ?_ (by first | exact Nat.le_refl _ | (simp; done) | (simp; omega) | omega) _ | with_reducible refine Below.trans ?_ (Below.mono (by with_reducible assumption) (by first | exact Nat.le_refl _ | (simp; done) | (simp; omega) | omega))))
  have HV : Below V1.heap.size V1 W := by subst hW; exact (by repeat (first | with_reducible exact Below.refl _ _ | with_reducible assumption | with_reducible refine Below.drew ?_ | with_reducible refine Below.alloc ?_ (by first | exact Nat.le_refl _ | (simp; done) | (simp; omega) | omega) _ | with_reducible refine Below.setCell ?_ (by first | exact Nat.le_refl _ | (simp; done) | (simp; omega) | omega) _ | with_reducible refine Below.trans ?_ (Below.mono (by with_reducible assumption) (by first | exact Nat.le_refl _ | (simp; done) | (simp; omega) | omega))))
  have b00 : W.cell? ⟨V1.heap.size, 0, none⟩ = some (.slice (some ⟨r, 0, none⟩) l.length cp) := by subst hW; simp [go_sem]
  have L0 : V1.heap.size < W.heap.size := by subst hW; first | (simp; done) | (simp; omega)
  have b10 : W.cell? ⟨V1.heap.size + 1, 0, none⟩ = some (.int .i64 ax) := by subst hW; simp [go_sem]
  have b11 : W.cell? ⟨V1.heap.size + 1, 1, none⟩ = some (.int .i64 ay) := by subst hW; simp [go_sem]
  have b12 : W.cell? ⟨V1.heap.size + 1, 2, none⟩ = some (.int .i64 bx) := by subst hW; simp [go_sem]
  have b13 : W.cell? ⟨V1.heap.size + 1, 3, none⟩ = some (.int .i64 cy) := by subst hW; simp [go_sem]
  have L1 : V1.heap.size + 1 < W.heap.size := by subst hW; first | (simp; done) | (simp; omega)
  rw [← hW]
  clear hW
  generalize V1.heap.size + 1 = B1 at *
  obtain ⟨B0, hB0⟩ : ∃ B, B = V1.heap.size := ⟨_, rfl⟩
  rw [← hB0] at b00 L0
  try rw [← hB0]
  replace hB0 := Lib.hid hB0
  have hn2 : l.length ≤ 4611686018427387904 := by omega
  have FV := Lib.hid (FixAt.below (fixAt_own ho) HV)
  clear ho HV
  have hLl : (crL l ax ay bx cy).length ≤ 41 := by have := crs_len l ax ay bx cy (l.length - 1); unfold crL; omega
  have C1 := Lib.hid (fun W h => FirstCrossing_c (some ⟨r, 0, none⟩) cp l ax ay bx cy y f W hn2 h)
  have C2 := Lib.hid (fun W h => FirstCrossingS_c (some ⟨r, 0, none⟩) cp l ax ay bx cy y f W hn2 h)
  have C3 := Lib.hid (fun W h => CrossingsOf_c (some ⟨r, 0, none⟩) cp l ax ay bx cy W hn2 h)
  have HC := first_cases l ax ay bx cy y f
  generalize firstR l ax ay bx cy y f = R at *
  obtain ⟨⟨ct, cg, cw, cn, cd⟩, M⟩ := R
  simp only at HC C1 C2
  rcases HC with HC | ⟨HS, HC⟩
  case inl =>
    have hM : M = 1 ∨ M = 2 := HC
    clear HC hLl C3
    rcases hM with rfl | rfl
    all_goals
      refine (C1.out _ FV.out).mono ?_
      rintro e U1 ⟨rfl, hb⟩
      replace HD := HD.trans (hb.mono HD.size)
      obtain ⟨hc, hf⟩ := bcell hb
      have hz := hb.size
      replace b00 := (hc _ 0 L0).trans b00
      replace b10 := (hc _ 0 L1).trans b10
      replace b11 := (hc _ 1 L1).trans b11
      replace b12 := (hc _ 2 L1).trans b12
      replace b13 := (hc _ 3 L1).trans b13
      replace FV := Lib.hid (FixAt.below FV.out hb)
      replace L0 := Nat.lt_of_lt_of_le L0 hz
      replace L1 := Nat.lt_of_lt_of_le L1 hz
      clear hc hf hz hb
      go_wp2_with fail
      obtain ⟨P1, hP1⟩ : ∃ x, x = U1.alloc (.cells #[.int .i64 ct, .int .i64 cg, .int .i64 cw, .int .i64 cn, .int .i64 cd] 57) := ⟨_, rfl⟩
      have hb : Below U1.heap.size U1 P1 := by subst hP1; exact (Below.refl _ _).alloc (Nat.le_refl _) _
      have k70 : P1.cell? ⟨U1.heap.size, 0, none⟩ = some (.int .i64 ct) := by subst hP1; simp [go_sem]
      have k71 : P1.cell? ⟨U1.heap.size, 1, none⟩ = some (.int .i64 cg) := by subst hP1; simp [go_sem]
      have k72 : P1.cell? ⟨U1.heap.size, 2, none⟩ = some (.int .i64 cw) := by subst hP1; simp [go_sem]
      have k73 : P1.cell? ⟨U1.heap.size, 3, none⟩ = some (.int .i64 cn) := by subst hP1; simp [go_sem]
      have k74 : P1.cell? ⟨U1.heap.size, 4, none⟩ = some (.int .i64 cd) := by subst hP1; simp [go_sem]
      have K7 : U1.heap.size < P1.heap.size := by subst hP1; simp
      have hS7 := Lib.hid (show P1.heap.size = U1.heap.size + 1 by subst hP1; simp)
      rw [← hP1]
      clear hP1
      replace HD := HD.trans (hb.mono HD.size)
      obtain ⟨hc, hf⟩ := bcell hb
      have hz := hb.size
      replace b00 := (hc _ 0 L0).trans b00
      replace b10 := (hc _ 0 L1).trans b10
      replace b11 := (hc _ 1 L1).trans b11
      replace b12 := (hc _ 2 L1).trans b12
      replace b13 := (hc _ 3 L1).trans b13
      replace FV := Lib.hid (FixAt.below FV.out hb)
      replace L0 := Nat.lt_of_lt_of_le L0 hz
      replace L1 := Nat.lt_of_lt_of_le L1 hz
      clear hc hf hz hb
      obtain ⟨C7, hC7⟩ : ∃ x, x = U1.heap.size := ⟨_, rfl⟩
      rw [← hC7] at k70 k71 k72 k73 k74 K7
      try rw [← hC7]
      replace hC7 := Lib.hid hC7
      refine (C2.out _ FV.out).mono ?_
      rintro e U2 ⟨rfl, hb⟩
      replace HD := HD.trans (hb.mono HD.size)
      obtain ⟨hc, hf⟩ := bcell hb
      have hz := hb.size
      replace b00 := (hc _ 0 L0).trans b00
      replace b10 := (hc _ 0 L1).trans b10
      replace b11 := (hc _ 1 L1).trans b11
      replace b12 := (hc _ 2 L1).trans b12
      replace b13 := (hc _ 3 L1).trans b13
      replace k70 := (hc _ 0 K7).trans k70
      replace k71 := (hc _ 1 K7).trans k71
      replace k72 := (hc _ 2 K7).trans k72
      replace k73 := (hc _ 3 K7).trans k73
      replace k74 := (hc _ 4 K7).trans k74
      replace FV := Lib.hid (FixAt.below FV.out hb)
      replace L0 := Nat.lt_of_lt_of_le L0 hz
      replace L1 := Nat.lt_of_lt_of_le L1 hz
      replace K7 := Nat.lt_of_lt_of_le K7 hz
      clear hc hf hz hb
      go_wp2_with fail
      go_ret
      exact ⟨rfl, HD.alloc HD.size _⟩
  case inr =>
    rw [HS] at C3
    simp only at C3
    clear HS
    generalize crL l ax ay bx cy = L at *
    rcases HC with ⟨hM, hF⟩ | ⟨hM, hF⟩
    case inl =>
      replace hM : M = 0 := hM
      subst hM
      replace hF := Lib.hid hF
      refine (C1.out _ FV.out).mono ?_
      rintro e U1 ⟨rfl, hb⟩
      replace HD := HD.trans (hb.mono HD.size)
      obtain ⟨hc, hf⟩ := bcell hb
      have hz := hb.size
      replace b00 := (hc _ 0 L0).trans b00
      replace b10 := (hc _ 0 L1).trans b10
      replace b11 := (hc _ 1 L1).trans b11
      replace b12 := (hc _ 2 L1).trans b12
      replace b13 := (hc _ 3 L1).trans b13
      replace FV := Lib.hid (FixAt.below FV.out hb)
      replace L0 := Nat.lt_of_lt_of_le L0 hz
      replace L1 := Nat.lt_of_lt_of_le L1 hz
      clear hc hf hz hb
      go_wp2_with fail
      obtain ⟨P1, hP1⟩ : ∃ x, x = U1.alloc (.cells #[.int .i64 ct, .int .i64 cg, .int .i64 cw, .int .i64 cn, .int .i64 cd] 57) := ⟨_, rfl⟩
      have hb : Below U1.heap.size U1 P1 := by subst hP1; exact (Below.refl _ _).alloc (Nat.le_refl _) _
      have k70 : P1.cell? ⟨U1.heap.size, 0, none⟩ = some (.int .i64 ct) := by subst hP1; simp [go_sem]
      have k71 : P1.cell? ⟨U1.heap.size, 1, none⟩ = some (.int .i64 cg) := by subst hP1; simp [go_sem]
      have k72 : P1.cell? ⟨U1.heap.size, 2, none⟩ = some (.int .i64 cw) := by subst hP1; simp [go_sem]
      have k73 : P1.cell? ⟨U1.heap.size, 3, none⟩ = some (.int .i64 cn) := by subst hP1; simp [go_sem]
      have k74 : P1.cell? ⟨U1.heap.size, 4, none⟩ = some (.int .i64 cd) := by subst hP1; simp [go_sem]
      have K7 : U1.heap.size < P1.heap.size := by subst hP1; simp
      have hS7 := Lib.hid (show P1.heap.size = U1.heap.size + 1 by subst hP1; simp)
      rw [← hP1]
      clear hP1
      replace HD := HD.trans (hb.mono HD.size)
      obtain ⟨hc, hf⟩ := bcell hb
      have hz := hb.size
      replace b00 := (hc _ 0 L0).trans b00
      replace b10 := (hc _ 0 L1).trans b10
      replace b11 := (hc _ 1 L1).trans b11
      replace b12 := (hc _ 2 L1).trans b12
      replace b13 := (hc _ 3 L1).trans b13
      replace FV := Lib.hid (FixAt.below FV.out hb)
      replace L0 := Nat.lt_of_lt_of_le L0 hz
      replace L1 := Nat.lt_of_lt_of_le L1 hz
      clear hc hf hz hb
      obtain ⟨C7, hC7⟩ : ∃ x, x = U1.heap.size := ⟨_, rfl⟩
      rw [← hC7] at k70 k71 k72 k73 k74 K7
      try rw [← hC7]
      replace hC7 := Lib.hid hC7
      refine (C2.out _ FV.out).mono ?_
      rintro e U2 ⟨rfl, hb⟩
      replace HD := HD.trans (hb.mono HD.size)
      obtain ⟨hc, hf⟩ := bcell hb
      have hz := hb.size
      replace b00 := (hc _ 0 L0).trans b00
      replace b10 := (hc _ 0 L1).trans b10
      replace b11 := (hc _ 1 L1).trans b11
      replace b12 := (hc _ 2 L1).trans b12
      replace b13 := (hc _ 3 L1).trans b13
      replace k70 := (hc _ 0 K7).trans k70
      replace k71 := (hc _ 1 K7).trans k71
      replace k72 := (hc _ 2 K7).trans k72
      replace k73 := (hc _ 3 K7).trans k73
      replace k74 := (hc _ 4 K7).trans k74
      replace FV := Lib.hid (FixAt.below FV.out hb)
      replace L0 := Nat.lt_of_lt_of_le L0 hz
      replace L1 := Nat.lt_of_lt_of_le L1 hz
      replace K7 := Nat.lt_of_lt_of_le K7 hz
      clear hc hf hz hb
      go_wp2_with fail
      obtain ⟨P2, hP2⟩ : ∃ x, x = U2.alloc (.cells #[.int .i64 ct, .int .i64 cg, .int .i64 cw, .int .i64 cn, .int .i64 cd] 57) := ⟨_, rfl⟩
      have hb : Below U2.heap.size U2 P2 := by subst hP2; exact (Below.refl _ _).alloc (Nat.le_refl _) _
      have k80 : P2.cell? ⟨U2.heap.size, 0, none⟩ = some (.int .i64 ct) := by subst hP2; simp [go_sem]
      have k81 : P2.cell? ⟨U2.heap.size, 1, none⟩ = some (.int .i64 cg) := by subst hP2; simp [go_sem]
      have k82 : P2.cell? ⟨U2.heap.size, 2, none⟩ = some (.int .i64 cw) := by subst hP2; simp [go_sem]
      have k83 : P2.cell? ⟨U2.heap.size, 3, none⟩ = some (.int .i64 cn) := by subst hP2; simp [go_sem]
      have k84 : P2.cell? ⟨U2.heap.size, 4, none⟩ = some (.int .i64 cd) := by subst hP2; simp [go_sem]
      have K8 : U2.heap.size < P2.heap.size := by subst hP2; simp
      have hS8 := Lib.hid (show P2.heap.size = U2.heap.size + 1 by subst hP2; simp)
      rw [← hP2]
      clear hP2
      replace HD := HD.trans (hb.mono HD.size)
      obtain ⟨hc, hf⟩ := bcell hb
      have hz := hb.size
      replace b00 := (hc _ 0 L0).trans b00
      replace b10 := (hc _ 0 L1).trans b10
      replace b11 := (hc _ 1 L1).trans b11
      replace b12 := (hc _ 2 L1).trans b12
      replace b13 := (hc _ 3 L1).trans b13
      replace k70 := (hc _ 0 K7).trans k70
      replace k71 := (hc _ 1 K7).trans k71
      replace k72 := (hc _ 2 K7).trans k72
      replace k73 := (hc _ 3 K7).trans k73
      replace k74 := (hc _ 4 K7).trans k74
      replace FV := Lib.hid (FixAt.below FV.out hb)
      replace L0 := Nat.lt_of_lt_of_le L0 hz
      replace L1 := Nat.lt_of_lt_of_le L1 hz
      replace K7 := Nat.lt_of_lt_of_le K7 hz
      clear hc hf hz hb
      obtain ⟨C8, hC8⟩ : ∃ x, x = U2.heap.size := ⟨_, rfl⟩
      rw [← hC8] at k80 k81 k82 k83 k84 K8
      try rw [← hC8]
      replace hC8 := Lib.hid hC8
      refine (C3.out _ FV.out).mono ?_
      rintro e U3 ⟨⟨a3, cap3, rfl, hrow⟩, hb⟩
      have R3 := Lib.hid (row_own hrow (crFlat_length L))
      clear hrow
      replace HD := HD.trans (hb.mono HD.size)
      obtain ⟨hc, hf⟩ := bcell hb
      have hz := hb.size
      replace b00 := (hc _ 0 L0).trans b00
      replace b10 := (hc _ 0 L1).trans b10
      replace b11 := (hc _ 1 L1).trans b11
      replace b12 := (hc _ 2 L1).trans b12
      replace b13 := (hc _ 3 L1).trans b13
      replace k70 := (hc _ 0 K7).trans k70
      replace k71 := (hc _ 1 K7).trans k71
      replace k72 := (hc _ 2 K7).trans k72
      replace k73 := (hc _ 3 K7).trans k73
      replace k74 := (hc _ 4 K7).trans k74
      replace k80 := (hc _ 0 K8).trans k80
      replace k81 := (hc _ 1 K8).trans k81
      replace k82 := (hc _ 2 K8).trans k82
      replace k83 := (hc _ 3 K8).trans k83
      replace k84 := (hc _ 4 K8).trans k84
      replace FV := Lib.hid (FixAt.below FV.out hb)
      replace L0 := Nat.lt_of_lt_of_le L0 hz
      replace L1 := Nat.lt_of_lt_of_le L1 hz
      replace K7 := Nat.lt_of_lt_of_le K7 hz
      replace K8 := Nat.lt_of_lt_of_le K8 hz
      clear hc hf hz hb
      clear C1 C2 C3
      go_wp2_with fail
      clear k80 k81 k82 k83 k84 K8
      go_loopw [13, 14] (fun x v wr => ∃ (k : Nat) (fb : Bool), x = .bool fb ∧ v = .int .i64 k ∧ Hid ((fb = false ∧ firstCr y f (L.drop k) = firstCr y f L) ∨ fb = true) ∧ k ≤ L.length ∧ wr.cell? ⟨B0, 0, none⟩ = some (.slice (some ⟨r, 0, none⟩) l.length cp) ∧ wr.cell? ⟨B1, 0, none⟩ = some (.int .i64 ax) ∧ wr.cell? ⟨B1, 1, none⟩ = some (.int .i64 ay) ∧ wr.cell? ⟨B1, 2, none⟩ = some (.int .i64 bx) ∧ wr.cell? ⟨B1, 3, none⟩ = some (.int .i64 cy) ∧ wr.cell? ⟨C7, 0, none⟩ = some (.int .i64 ct) ∧ wr.cell? ⟨C7, 1, none⟩ = some (.int .i64 cg) ∧ wr.cell? ⟨C7, 2, none⟩ = some (.int .i64 cw) ∧ wr.cell? ⟨C7, 3, none⟩ = some (.int .i64 cn) ∧ wr.cell? ⟨C7, 4, none⟩ = some (.int .i64 cd) ∧ B0 < wr.heap.size ∧ B1 < wr.heap.size ∧ C7 < wr.heap.size ∧ Hid (FixAt wr (some ⟨r, 0, none⟩) l) ∧ Hid (RowAt wr a3 (crFlat L)) ∧ Below w.heap.size w wr) (fun _ v _ => L.length - (intOf v).toNat)
      case atStart => exact ⟨0, false, rfl, rfl, Lib.hid (.inl ⟨rfl, by rw [List.drop_zero]⟩), Nat.zero_le _, b00, b10, b11, b12, b13, k70, k71, k72, k73, k74, L0, L1, K7, FV, R3, HD⟩
      case round =>
        clear b00 b10 b11 b12 b13 k70 k71 k72 k73 k74 L0 L1 K7 FV R3 HD
        obtain ⟨k, fb, rfl, rfl, hr, hle, b00, b10, b11, b12, b13, k70, k71, k72, k73, k74, L0, L1, K7, FV, R3, HD⟩ := hrel
        replace hr := hr.out
        by_cases hk : k < L.length
        case neg =>
          have hk1 : ¬ (k : Int) < (L.length : Int) := by omega
          obtain rfl : fb = true := by
            rcases hr with ⟨_, hd⟩ | h
            · have e := firstT_none (show L.length ≤ k by omega) hd
              rw [hF.out] at e
              simp at e
            · exact h
          clear hr
          go_wp2_with fail
          go_ret
          exact ⟨rfl, HD⟩
        case pos =>
          have hk1 : (k : Int) < (L.length : Int) := by omega
          obtain ⟨b3, off3, rfl, hlt3, d0, d1, d2, d3, d4⟩ := row_cell' R3.out hk
          rcases hr with ⟨rfl, hd⟩ | rfl
          case inl =>
            by_cases h1 : (cr L k).way = y
            case neg =>
              have hn := first_next hk hd (fun h => h1 h.1)
              clear hd
              generalize cr L k = x at *
              obtain ⟨xt, xl, xw, xn, xd⟩ := x
              simp only at d0 d1 d2 d3 d4 h1 
              go_wp2_with fail
              all_goals
                refine wp_region_later (by kernel_rfl) (by kernel_rfl) ?_
                repeat (first | go_big_quiet_step (fail) | quiet_step (fail))
                refine wpQuiet_nil ?_
                intro _ hw'
                obtain ⟨s9, hw''⟩ := hw'
                subst hw''
                have hb := s9.below
                generalize s9.w = wq at hb ⊢
                clear s9
                replace HD := HD.trans (hb.mono HD.size)
                obtain ⟨hc, hf⟩ := bcell hb
                have hz := hb.size
                replace b00 := (hc _ 0 L0).trans b00
                replace b10 := (hc _ 0 L1).trans b10
                replace b11 := (hc _ 1 L1).trans b11
                replace b12 := (hc _ 2 L1).trans b12
                replace b13 := (hc _ 3 L1).trans b13
                replace k70 := (hc _ 0 K7).trans k70
                replace k71 := (hc _ 1 K7).trans k71
                replace k72 := (hc _ 2 K7).trans k72
                replace k73 := (hc _ 3 K7).trans k73
                replace k74 := (hc _ 4 K7).trans k74
                replace FV := Lib.hid (FixAt.below FV.out hb)
                replace R3 := Lib.hid (RowAt.below R3.out hb)
                replace L0 := Nat.lt_of_lt_of_le L0 hz
                replace L1 := Nat.lt_of_lt_of_le L1 hz
                replace K7 := Nat.lt_of_lt_of_le K7 hz
                clear hc hf hz hb
                go_wp2_with fail
              all_goals exact ⟨⟨k + 1, false, by simp, by simp, Lib.hid (.inl ⟨rfl, hn⟩), by omega, b00, b10, b11, b12, b13, k70, k71, k72, k73, k74, L0, L1, K7, FV, R3, HD⟩, by simp [intOf]; omega⟩
            case pos =>
              by_cases h2 : f ≤ (cr L k).t
              case neg =>
                have hn := first_next hk hd (fun h => h2 h.2)
                clear hd
                generalize cr L k = x at *
                obtain ⟨xt, xl, xw, xn, xd⟩ := x
                simp only at d0 d1 d2 d3 d4 h1 h2
                go_wp2_with fail
                all_goals
                  refine wp_region_later (by kernel_rfl) (by kernel_rfl) ?_
                  repeat (first | go_big_quiet_step (fail) | quiet_step (fail))
                  refine wpQuiet_nil ?_
                  intro _ hw'
                  obtain ⟨s9, hw''⟩ := hw'
                  subst hw''
                  have hb := s9.below
                  generalize s9.w = wq at hb ⊢
                  clear s9
                  replace HD := HD.trans (hb.mono HD.size)
                  obtain ⟨hc, hf⟩ := bcell hb
                  have hz := hb.size
                  replace b00 := (hc _ 0 L0).trans b00
                  replace b10 := (hc _ 0 L1).trans b10
                  replace b11 := (hc _ 1 L1).trans b11
                  replace b12 := (hc _ 2 L1).trans b12
                  replace b13 := (hc _ 3 L1).trans b13
                  replace k70 := (hc _ 0 K7).trans k70
                  replace k71 := (hc _ 1 K7).trans k71
                  replace k72 := (hc _ 2 K7).trans k72
                  replace k73 := (hc _ 3 K7).trans k73
                  replace k74 := (hc _ 4 K7).trans k74
                  replace FV := Lib.hid (FixAt.below FV.out hb)
                  replace R3 := Lib.hid (RowAt.below R3.out hb)
                  replace L0 := Nat.lt_of_lt_of_le L0 hz
                  replace L1 := Nat.lt_of_lt_of_le L1 hz
                  replace K7 := Nat.lt_of_lt_of_le K7 hz
                  clear hc hf hz hb
                  go_wp2_with fail
                all_goals exact ⟨⟨k + 1, false, by simp, by simp, Lib.hid (.inl ⟨rfl, hn⟩), by omega, b00, b10, b11, b12, b13, k70, k71, k72, k73, k74, L0, L1, K7, FV, R3, HD⟩, by simp [intOf]; omega⟩
              case pos =>
                have e := firstT_hit hk hd h1 h2
                rw [hF.out] at e
                have e2 : cr L k = ⟨ct, cg, cw, cn, cd⟩ := (Prod.mk.inj e).1.symm
                rw [e2] at d0 d1 d2 d3 d4 h1 h2
                simp only at d0 d1 d2 d3 d4 h1 h2
                clear e e2 hd
                go_wp2_with fail
                all_goals
                  refine wp_region_later (by kernel_rfl) (by kernel_rfl) ?_
                  repeat (first | go_big_quiet_step (fail) | quiet_step (fail))
                  refine wpQuiet_nil ?_
                  intro _ hw'
                  obtain ⟨s9, hw''⟩ := hw'
                  subst hw''
                  have hb := s9.below
                  generalize s9.w = wq at hb ⊢
                  clear s9
                  replace HD := HD.trans (hb.mono HD.size)
                  obtain ⟨hc, hf⟩ := bcell hb
                  have hz := hb.size
                  replace b00 := (hc _ 0 L0).trans b00
                  replace b10 := (hc _ 0 L1).trans b10
                  replace b11 := (hc _ 1 L1).trans b11
                  replace b12 := (hc _ 2 L1).trans b12
                  replace b13 := (hc _ 3 L1).trans b13
                  replace k70 := (hc _ 0 K7).trans k70
                  replace k71 := (hc _ 1 K7).trans k71
                  replace k72 := (hc _ 2 K7).trans k72
                  replace k73 := (hc _ 3 K7).trans k73
                  replace k74 := (hc _ 4 K7).trans k74
                  replace FV := Lib.hid (FixAt.below FV.out hb)
                  replace R3 := Lib.hid (RowAt.below R3.out hb)
                  replace L0 := Nat.lt_of_lt_of_le L0 hz
                  replace L1 := Nat.lt_of_lt_of_le L1 hz
                  replace K7 := Nat.lt_of_lt_of_le K7 hz
                  clear hc hf hz hb
                  go_wp2_with fail
                all_goals exact ⟨⟨k + 1, true, by simp, by simp, Lib.hid (.inr rfl), by omega, b00, b10, b11, b12, b13, k70, k71, k72, k73, k74, L0, L1, K7, FV, R3, HD⟩, by simp [intOf]; omega⟩
          case inr =>
            by_cases h1 : (cr L k).way = y
            case neg =>
              generalize cr L k = x at *
              obtain ⟨xt, xl, xw, xn, xd⟩ := x
              simp only at d0 d1 d2 d3 d4 h1 
              go_wp2_with fail
              all_goals
                refine wp_region_later (by kernel_rfl) (by kernel_rfl) ?_
                repeat (first | go_big_quiet_step (fail) | quiet_step (fail))
                refine wpQuiet_nil ?_
                intro _ hw'
                obtain ⟨s9, hw''⟩ := hw'
                subst hw''
                have hb := s9.below
                generalize s9.w = wq at hb ⊢
                clear s9
                replace HD := HD.trans (hb.mono HD.size)
                obtain ⟨hc, hf⟩ := bcell hb
                have hz := hb.size
                replace b00 := (hc _ 0 L0).trans b00
                replace b10 := (hc _ 0 L1).trans b10
                replace b11 := (hc _ 1 L1).trans b11
                replace b12 := (hc _ 2 L1).trans b12
                replace b13 := (hc _ 3 L1).trans b13
                replace k70 := (hc _ 0 K7).trans k70
                replace k71 := (hc _ 1 K7).trans k71
                replace k72 := (hc _ 2 K7).trans k72
                replace k73 := (hc _ 3 K7).trans k73
                replace k74 := (hc _ 4 K7).trans k74
                replace FV := Lib.hid (FixAt.below FV.out hb)
                replace R3 := Lib.hid (RowAt.below R3.out hb)
                replace L0 := Nat.lt_of_lt_of_le L0 hz
                replace L1 := Nat.lt_of_lt_of_le L1 hz
                replace K7 := Nat.lt_of_lt_of_le K7 hz
                clear hc hf hz hb
                go_wp2_with fail
              all_goals exact ⟨⟨k + 1, true, by simp, by simp, Lib.hid (.inr rfl), by omega, b00, b10, b11, b12, b13, k70, k71, k72, k73, k74, L0, L1, K7, FV, R3, HD⟩, by simp [intOf]; omega⟩
            case pos =>
              by_cases h2 : f ≤ (cr L k).t
              all_goals
                generalize cr L k = x at *
                obtain ⟨xt, xl, xw, xn, xd⟩ := x
                simp only at d0 d1 d2 d3 d4 h1 h2
                go_wp2_with fail
              all_goals
                refine wp_region_later (by kernel_rfl) (by kernel_rfl) ?_
                repeat (first | go_big_quiet_step (fail) | quiet_step (fail))
                refine wpQuiet_nil ?_
                intro _ hw'
                obtain ⟨s9, hw''⟩ := hw'
                subst hw''
                have hb := s9.below
                generalize s9.w = wq at hb ⊢
                clear s9
                replace HD := HD.trans (hb.mono HD.size)
                obtain ⟨hc, hf⟩ := bcell hb
                have hz := hb.size
                replace b00 := (hc _ 0 L0).trans b00
                replace b10 := (hc _ 0 L1).trans b10
                replace b11 := (hc _ 1 L1).trans b11
                replace b12 := (hc _ 2 L1).trans b12
                replace b13 := (hc _ 3 L1).trans b13
                replace k70 := (hc _ 0 K7).trans k70
                replace k71 := (hc _ 1 K7).trans k71
                replace k72 := (hc _ 2 K7).trans k72
                replace k73 := (hc _ 3 K7).trans k73
                replace k74 := (hc _ 4 K7).trans k74
                replace FV := Lib.hid (FixAt.below FV.out hb)
                replace R3 := Lib.hid (RowAt.below R3.out hb)
                replace L0 := Nat.lt_of_lt_of_le L0 hz
                replace L1 := Nat.lt_of_lt_of_le L1 hz
                replace K7 := Nat.lt_of_lt_of_le K7 hz
                clear hc hf hz hb
                go_wp2_with fail
              all_goals exact ⟨⟨k + 1, true, by simp, by simp, Lib.hid (.inr rfl), by omega, b00, b10, b11, b12, b13, k70, k71, k72, k73, k74, L0, L1, K7, FV, R3, HD⟩, by simp [intOf]; omega⟩
    case inr =>
      replace hM : M = 4 := hM
      subst hM
      replace hF := Lib.hid hF
      refine (C1.out _ FV.out).mono ?_
      rintro e U1 ⟨rfl, hb⟩
      replace HD := HD.trans (hb.mono HD.size)
      obtain ⟨hc, hf⟩ := bcell hb
      have hz := hb.size
      replace b00 := (hc _ 0 L0).trans b00
      replace b10 := (hc _ 0 L1).trans b10
      replace b11 := (hc _ 1 L1).trans b11
      replace b12 := (hc _ 2 L1).trans b12
      replace b13 := (hc _ 3 L1).trans b13
      replace FV := Lib.hid (FixAt.below FV.out hb)
      replace L0 := Nat.lt_of_lt_of_le L0 hz
      replace L1 := Nat.lt_of_lt_of_le L1 hz
      clear hc hf hz hb
      go_wp2_with fail
      obtain ⟨P1, hP1⟩ : ∃ x, x = U1.alloc (.cells #[.int .i64 ct, .int .i64 cg, .int .i64 cw, .int .i64 cn, .int .i64 cd] 57) := ⟨_, rfl⟩
      have hb : Below U1.heap.size U1 P1 := by subst hP1; exact (Below.refl _ _).alloc (Nat.le_refl _) _
      have k70 : P1.cell? ⟨U1.heap.size, 0, none⟩ = some (.int .i64 ct) := by subst hP1; simp [go_sem]
      have k71 : P1.cell? ⟨U1.heap.size, 1, none⟩ = some (.int .i64 cg) := by subst hP1; simp [go_sem]
      have k72 : P1.cell? ⟨U1.heap.size, 2, none⟩ = some (.int .i64 cw) := by subst hP1; simp [go_sem]
      have k73 : P1.cell? ⟨U1.heap.size, 3, none⟩ = some (.int .i64 cn) := by subst hP1; simp [go_sem]
      have k74 : P1.cell? ⟨U1.heap.size, 4, none⟩ = some (.int .i64 cd) := by subst hP1; simp [go_sem]
      have K7 : U1.heap.size < P1.heap.size := by subst hP1; simp
      have hS7 := Lib.hid (show P1.heap.size = U1.heap.size + 1 by subst hP1; simp)
      rw [← hP1]
      clear hP1
      replace HD := HD.trans (hb.mono HD.size)
      obtain ⟨hc, hf⟩ := bcell hb
      have hz := hb.size
      replace b00 := (hc _ 0 L0).trans b00
      replace b10 := (hc _ 0 L1).trans b10
      replace b11 := (hc _ 1 L1).trans b11
      replace b12 := (hc _ 2 L1).trans b12
      replace b13 := (hc _ 3 L1).trans b13
      replace FV := Lib.hid (FixAt.below FV.out hb)
      replace L0 := Nat.lt_of_lt_of_le L0 hz
      replace L1 := Nat.lt_of_lt_of_le L1 hz
      clear hc hf hz hb
      obtain ⟨C7, hC7⟩ : ∃ x, x = U1.heap.size := ⟨_, rfl⟩
      rw [← hC7] at k70 k71 k72 k73 k74 K7
      try rw [← hC7]
      replace hC7 := Lib.hid hC7
      refine (C2.out _ FV.out).mono ?_
      rintro e U2 ⟨rfl, hb⟩
      replace HD := HD.trans (hb.mono HD.size)
      obtain ⟨hc, hf⟩ := bcell hb
      have hz := hb.size
      replace b00 := (hc _ 0 L0).trans b00
      replace b10 := (hc _ 0 L1).trans b10
      replace b11 := (hc _ 1 L1).trans b11
      replace b12 := (hc _ 2 L1).trans b12
      replace b13 := (hc _ 3 L1).trans b13
      replace k70 := (hc _ 0 K7).trans k70
      replace k71 := (hc _ 1 K7).trans k71
      replace k72 := (hc _ 2 K7).trans k72
      replace k73 := (hc _ 3 K7).trans k73
      replace k74 := (hc _ 4 K7).trans k74
      replace FV := Lib.hid (FixAt.below FV.out hb)
      replace L0 := Nat.lt_of_lt_of_le L0 hz
      replace L1 := Nat.lt_of_lt_of_le L1 hz
      replace K7 := Nat.lt_of_lt_of_le K7 hz
      clear hc hf hz hb
      go_wp2_with fail
      obtain ⟨P2, hP2⟩ : ∃ x, x = U2.alloc (.cells #[.int .i64 ct, .int .i64 cg, .int .i64 cw, .int .i64 cn, .int .i64 cd] 57) := ⟨_, rfl⟩
      have hb : Below U2.heap.size U2 P2 := by subst hP2; exact (Below.refl _ _).alloc (Nat.le_refl _) _
      have k80 : P2.cell? ⟨U2.heap.size, 0, none⟩ = some (.int .i64 ct) := by subst hP2; simp [go_sem]
      have k81 : P2.cell? ⟨U2.heap.size, 1, none⟩ = some (.int .i64 cg) := by subst hP2; simp [go_sem]
      have k82 : P2.cell? ⟨U2.heap.size, 2, none⟩ = some (.int .i64 cw) := by subst hP2; simp [go_sem]
      have k83 : P2.cell? ⟨U2.heap.size, 3, none⟩ = some (.int .i64 cn) := by subst hP2; simp [go_sem]
      have k84 : P2.cell? ⟨U2.heap.size, 4, none⟩ = some (.int .i64 cd) := by subst hP2; simp [go_sem]
      have K8 : U2.heap.size < P2.heap.size := by subst hP2; simp
      have hS8 := Lib.hid (show P2.heap.size = U2.heap.size + 1 by subst hP2; simp)
      rw [← hP2]
      clear hP2
      replace HD := HD.trans (hb.mono HD.size)
      obtain ⟨hc, hf⟩ := bcell hb
      have hz := hb.size
      replace b00 := (hc _ 0 L0).trans b00
      replace b10 := (hc _ 0 L1).trans b10
      replace b11 := (hc _ 1 L1).trans b11
      replace b12 := (hc _ 2 L1).trans b12
      replace b13 := (hc _ 3 L1).trans b13
      replace k70 := (hc _ 0 K7).trans k70
      replace k71 := (hc _ 1 K7).trans k71
      replace k72 := (hc _ 2 K7).trans k72
      replace k73 := (hc _ 3 K7).trans k73
      replace k74 := (hc _ 4 K7).trans k74
      replace FV := Lib.hid (FixAt.below FV.out hb)
      replace L0 := Nat.lt_of_lt_of_le L0 hz
      replace L1 := Nat.lt_of_lt_of_le L1 hz
      replace K7 := Nat.lt_of_lt_of_le K7 hz
      clear hc hf hz hb
      obtain ⟨C8, hC8⟩ : ∃ x, x = U2.heap.size := ⟨_, rfl⟩
      rw [← hC8] at k80 k81 k82 k83 k84 K8
      try rw [← hC8]
      replace hC8 := Lib.hid hC8
      refine (C3.out _ FV.out).mono ?_
      rintro e U3 ⟨⟨a3, cap3, rfl, hrow⟩, hb⟩
      have R3 := Lib.hid (row_own hrow (crFlat_length L))
      clear hrow
      replace HD := HD.trans (hb.mono HD.size)
      obtain ⟨hc, hf⟩ := bcell hb
      have hz := hb.size
      replace b00 := (hc _ 0 L0).trans b00
      replace b10 := (hc _ 0 L1).trans b10
      replace b11 := (hc _ 1 L1).trans b11
      replace b12 := (hc _ 2 L1).trans b12
      replace b13 := (hc _ 3 L1).trans b13
      replace k70 := (hc _ 0 K7).trans k70
      replace k71 := (hc _ 1 K7).trans k71
      replace k72 := (hc _ 2 K7).trans k72
      replace k73 := (hc _ 3 K7).trans k73
      replace k74 := (hc _ 4 K7).trans k74
      replace k80 := (hc _ 0 K8).trans k80
      replace k81 := (hc _ 1 K8).trans k81
      replace k82 := (hc _ 2 K8).trans k82
      replace k83 := (hc _ 3 K8).trans k83
      replace k84 := (hc _ 4 K8).trans k84
      replace FV := Lib.hid (FixAt.below FV.out hb)
      replace L0 := Nat.lt_of_lt_of_le L0 hz
      replace L1 := Nat.lt_of_lt_of_le L1 hz
      replace K7 := Nat.lt_of_lt_of_le K7 hz
      replace K8 := Nat.lt_of_lt_of_le K8 hz
      clear hc hf hz hb
      clear C1 C2 C3
      go_wp2_with fail
      clear k80 k81 k82 k83 k84 K8
      go_loopw [13, 14] (fun x v wr => ∃ (k : Nat) (fb : Bool), x = .bool fb ∧ v = .int .i64 k ∧ Hid ((fb = false ∧ firstCr y f (L.drop k) = firstCr y f L)) ∧ k ≤ L.length ∧ wr.cell? ⟨B0, 0, none⟩ = some (.slice (some ⟨r, 0, none⟩) l.length cp) ∧ wr.cell? ⟨B1, 0, none⟩ = some (.int .i64 ax) ∧ wr.cell? ⟨B1, 1, none⟩ = some (.int .i64 ay) ∧ wr.cell? ⟨B1, 2, none⟩ = some (.int .i64 bx) ∧ wr.cell? ⟨B1, 3, none⟩ = some (.int .i64 cy) ∧ wr.cell? ⟨C7, 0, none⟩ = some (.int .i64 ct) ∧ wr.cell? ⟨C7, 1, none⟩ = some (.int .i64 cg) ∧ wr.cell? ⟨C7, 2, none⟩ = some (.int .i64 cw) ∧ wr.cell? ⟨C7, 3, none⟩ = some (.int .i64 cn) ∧ wr.cell? ⟨C7, 4, none⟩ = some (.int .i64 cd) ∧ B0 < wr.heap.size ∧ B1 < wr.heap.size ∧ C7 < wr.heap.size ∧ Hid (FixAt wr (some ⟨r, 0, none⟩) l) ∧ Hid (RowAt wr a3 (crFlat L)) ∧ Below w.heap.size w wr) (fun _ v _ => L.length - (intOf v).toNat)
      case atStart => exact ⟨0, false, rfl, rfl, Lib.hid ⟨rfl, by rw [List.drop_zero]⟩, Nat.zero_le _, b00, b10, b11, b12, b13, k70, k71, k72, k73, k74, L0, L1, K7, FV, R3, HD⟩
      case round =>
        clear b00 b10 b11 b12 b13 k70 k71 k72 k73 k74 L0 L1 K7 FV R3 HD
        obtain ⟨k, fb, rfl, rfl, hr, hle, b00, b10, b11, b12, b13, k70, k71, k72, k73, k74, L0, L1, K7, FV, R3, HD⟩ := hrel
        replace hr := hr.out
        by_cases hk : k < L.length
        case neg =>
          have hk1 : ¬ (k : Int) < (L.length : Int) := by omega
          obtain ⟨rfl, hd⟩ := hr
          clear hd
          go_wp2_with fail
          go_ret
          exact ⟨rfl, HD⟩
        case pos =>
          have hk1 : (k : Int) < (L.length : Int) := by omega
          obtain ⟨b3, off3, rfl, hlt3, d0, d1, d2, d3, d4⟩ := row_cell' R3.out hk
          obtain ⟨rfl, hd⟩ := hr
          by_cases h1 : (cr L k).way = y
          case neg =>
            have hn := first_next hk hd (fun h => h1 h.1)
            clear hd
            generalize cr L k = x at *
            obtain ⟨xt, xl, xw, xn, xd⟩ := x
            simp only at d0 d1 d2 d3 d4 h1 
            go_wp2_with fail
            all_goals
              refine wp_region_later (by kernel_rfl) (by kernel_rfl) ?_
              repeat (first | go_big_quiet_step (fail) | quiet_step (fail))
              refine wpQuiet_nil ?_
              intro _ hw'
              obtain ⟨s9, hw''⟩ := hw'
              subst hw''
              have hb := s9.below
              generalize s9.w = wq at hb ⊢
              clear s9
              replace HD := HD.trans (hb.mono HD.size)
              obtain ⟨hc, hf⟩ := bcell hb
              have hz := hb.size
              replace b00 := (hc _ 0 L0).trans b00
              replace b10 := (hc _ 0 L1).trans b10
              replace b11 := (hc _ 1 L1).trans b11
              replace b12 := (hc _ 2 L1).trans b12
              replace b13 := (hc _ 3 L1).trans b13
              replace k70 := (hc _ 0 K7).trans k70
              replace k71 := (hc _ 1 K7).trans k71
              replace k72 := (hc _ 2 K7).trans k72
              replace k73 := (hc _ 3 K7).trans k73
              replace k74 := (hc _ 4 K7).trans k74
              replace FV := Lib.hid (FixAt.below FV.out hb)
              replace R3 := Lib.hid (RowAt.below R3.out hb)
              replace L0 := Nat.lt_of_lt_of_le L0 hz
              replace L1 := Nat.lt_of_lt_of_le L1 hz
              replace K7 := Nat.lt_of_lt_of_le K7 hz
              clear hc hf hz hb
              go_wp2_with fail
            all_goals exact ⟨⟨k + 1, false, by simp, by simp, Lib.hid (⟨rfl, hn⟩), by omega, b00, b10, b11, b12, b13, k70, k71, k72, k73, k74, L0, L1, K7, FV, R3, HD⟩, by simp [intOf]; omega⟩
          case pos =>
            by_cases h2 : f ≤ (cr L k).t
            case neg =>
              have hn := first_next hk hd (fun h => h2 h.2)
              clear hd
              generalize cr L k = x at *
              obtain ⟨xt, xl, xw, xn, xd⟩ := x
              simp only at d0 d1 d2 d3 d4 h1 h2
              go_wp2_with fail
              all_goals
                refine wp_region_later (by kernel_rfl) (by kernel_rfl) ?_
                repeat (first | go_big_quiet_step (fail) | quiet_step (fail))
                refine wpQuiet_nil ?_
                intro _ hw'
                obtain ⟨s9, hw''⟩ := hw'
                subst hw''
                have hb := s9.below
                generalize s9.w = wq at hb ⊢
                clear s9
                replace HD := HD.trans (hb.mono HD.size)
                obtain ⟨hc, hf⟩ := bcell hb
                have hz := hb.size
                replace b00 := (hc _ 0 L0).trans b00
                replace b10 := (hc _ 0 L1).trans b10
                replace b11 := (hc _ 1 L1).trans b11
                replace b12 := (hc _ 2 L1).trans b12
                replace b13 := (hc _ 3 L1).trans b13
                replace k70 := (hc _ 0 K7).trans k70
                replace k71 := (hc _ 1 K7).trans k71
                replace k72 := (hc _ 2 K7).trans k72
                replace k73 := (hc _ 3 K7).trans k73
                replace k74 := (hc _ 4 K7).trans k74
                replace FV := Lib.hid (FixAt.below FV.out hb)
                replace R3 := Lib.hid (RowAt.below R3.out hb)
                replace L0 := Nat.lt_of_lt_of_le L0 hz
                replace L1 := Nat.lt_of_lt_of_le L1 hz
                replace K7 := Nat.lt_of_lt_of_le K7 hz
                clear hc hf hz hb
                go_wp2_with fail
              all_goals exact ⟨⟨k + 1, false, by simp, by simp, Lib.hid (⟨rfl, hn⟩), by omega, b00, b10, b11, b12, b13, k70, k71, k72, k73, k74, L0, L1, K7, FV, R3, HD⟩, by simp [intOf]; omega⟩
            case pos =>
              have e := firstT_hit hk hd h1 h2
              rw [hF.out] at e
              simp at e

theorem own : ownKnob Try.prog.godebug = none := by kernel_rfl
theorem laidOut : laidOutB Try.prog = true := by kernel_rfl
set_option maxRecDepth 100000 in
theorem lifted (os : Os) (started : os.Started) (H : Type) (enc : TypeId × Value → H) :
    ReturnsInHanded {} Try.checked os 10 .any (Rows.fnFirstCrossingSpec.pre6 enc Try.prog Try.f10 Rows.fnFirstCrossingRow.domain false) (Rows.fnFirstCrossingSpec.post enc Try.prog Try.f10 false true false false) := by
  refine returnsInHanded_of_change (C := Try.checked) own started (by kernel_rfl) Try.func10
    (ChangeSpec.witness6 (enc := enc) (C := Try.checked) false ⟨#[], #[.slice none 0 0], []⟩ 8 (by kernel_rfl) (by kernel_rfl) (by kernel_rfl) (by kernel_rfl)) ?_
  intro W base args ds gs before hval0 hW hcnd _
  have hval : ∀ (j : Nat) t v, Try.f10.params[j]? = some t → args[j]? = some v → Value.okWide Try.prog W .any base t v := hval0
  have hW' := hW
  obtain ⟨p, q, hA0, hV, rfl, hfz, hnd⟩ := hW
  have hA : DataW.TrodAll enc Try.prog W 0 (fun _ => true) true Try.f10.params.toList args.toList ds p := hA0
  rw [Try.params10] at hA hval
  obtain ⟨v0, vs0, d0, ds0, p0, q0, hargs, rfl, rfl, h0, r0⟩ := trodAll_cons hA
  obtain ⟨rfl, rfl, rfl⟩ := trodAll_nil r0
  obtain rfl : args = #[v0] := by cases args; simp_all
  obtain ⟨rfl, rfl⟩ := trodVars_none hV
  have k0 := h0
  have lt0 : ∀ x ∈ p0, x.block < W.heap.size := by obtain ⟨m, hm⟩ := k0; exact DataW.trod_lt m _ _ _ hm
  obtain ⟨⟨a0, cap0⟩, n0, rfl, w0⟩ := open_bytes Try.underlying22 Try.underlying5 (by kernel_rfl) (hval 0 22 v0 rfl rfl) h0
  clear hA0 hval0
  refine (walk a0 cap0 n0 W w0).mono fun e W' ⟨he, bel⟩ => ?_
  subst he
  exact ⟨_, rfl, _, _, _, [], _, [], hW', trodAll_mk1 (shut_bool Try.underlying4 _), (trodAll_cons_mk (Below.trod laidOut (by kernel_rfl) (of_decide_eq_true (by kernel_rfl)) k0 bel lt0) trodAll_mk0), rfl, bel.frame _, fun h => by cases h⟩

theorem over : Rows.fnFirstCrossingRow.holds Try.pinned (OpenSpec.ofChange Rows.fnFirstCrossingSpec) :=
  OpenClaim.holds_of_wide 10 Try.f10 rfl rfl rfl rfl rfl rfl rfl ⟨rfl, rfl, rfl, rfl, rfl⟩ rfl rfl rfl rfl rfl (by kernel_rfl) Try.func10 (by kernel_rfl)
    (of_decide_eq_true (by kernel_rfl)) (by unfold Func.isWrapper; first | (rw [if_pos (by decide +kernel)]; kernel_rfl) | (rw [if_neg (by decide +kernel)]; exact ⟨rfl, rfl⟩))
    (fun os started H enc _ => lifted os started H enc)

/-- The statement. -/
theorem proved : Rows.FnFirstCrossingSaid := over
end Go.Proofs.Ytdepdkpehbkcjaa.fnFirstCrossing
