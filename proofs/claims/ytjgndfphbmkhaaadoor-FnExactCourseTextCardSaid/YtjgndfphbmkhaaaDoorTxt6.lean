/-
  The text of a course: the reference. Conditions: a course; where its marks lie.
-/
import Derived.Test.YtjgndfphbmkhaaaDoorTxt5
namespace Go.Proofs.YtjgndfphbmkhaaaDoor
set_option linter.unusedVariables false
open Go.RowKit Go.Deep

set_option maxRecDepth 100000 in
set_option maxHeartbeats 8000000 in
theorem l04Text_c (x0 x1 x2 x3 x4 x5 x6 x7 : Int) (a : Option Addr) (cap : Nat) (l : List Mk) (w : World) (hl : l.length ≤ 4611686018427387904) (h : RowAt w a (mflat l)) (hcp : CourseP x0 x1 x2 x3 x4 x5 x6 x7 l) :
    Calls Tryd.prog 35 #[.agg #[.int .i64 x0, .int .i64 x1, .int .i64 x2, .int .i64 x3, .int .i64 x4, .int .i64 x5, .int .i64 x6, .int .i64 x7, .slice a l.length cap]] w fun e w' => e = .returned (.string (crsB x0 x1 x2 x3 x4 x5 x6 x7 l)) ∧ Below w.heap.size w w' := by
  have H0 := Lib.hid h
  clear h
  obtain ⟨hg1, hg2, _, hl8, hmk, _⟩ := hcp
  obtain ⟨sA, sB, _⟩ := isSeg_true hg1
  obtain ⟨sC, sD, _⟩ := isSeg_true hg2
  have HMK := Lib.hid hmk
  have HMZ := Lib.hid (marksB_size (l := l) sA sB hmk)
  have zA := pointT sA
  have zB := pointT sB
  have zC := pointT sC
  have zD := pointT sD
  have HB0 := Lib.hid (show marksB x0 x1 x2 x3 l 0 = ⟨#[115, 116, 97, 114, 116]⟩ ++ pointB x0 x1 ++ pointB x2 x3 from (start_eq x0 x1 x2 x3).symm)
  have HC := Lib.hid (show crsB x0 x1 x2 x3 x4 x5 x6 x7 l = marksB x0 x1 x2 x3 l l.length ++ ⟨#[32, 102, 105, 110, 105, 115, 104]⟩ ++ pointB x4 x5 ++ pointB x6 x7 by rw [fin_eq]; rfl)
  have CA := Lib.hid (fun w => l04Point_c x0 x1 w sA)
  have CB := Lib.hid (fun w => l04Point_c x2 x3 w sB)
  have CC := Lib.hid (fun w => l04Point_c x4 x5 w sC)
  have CD := Lib.hid (fun w => l04Point_c x6 x7 w sD)
  clear hg1 hg2 hmk sA sB sC sD
  generalize pointB x0 x1 = PA at *
  generalize pointB x2 x3 = PB at *
  generalize pointB x4 x5 = PC at *
  generalize pointB x6 x7 = PD at *
  have zst : (⟨#[115, 116, 97, 114, 116]⟩ : ByteArray).size = 5 := rfl
  have zfi : (⟨#[32, 102, 105, 110, 105, 115, 104]⟩ : ByteArray).size = 7 := rfl
  have zmk : (⟨#[32, 109, 97, 114, 107, 32]⟩ : ByteArray).size = 6 := rfl
  go_enter Tryd.func35, Tryd.ntmps35
  go_wp2_with fail
  obtain ⟨W, hW⟩ : ∃ W, W = (w.alloc (.cells #[.int .i64 x0, .int .i64 x1, .int .i64 x2, .int .i64 x3, .int .i64 x4, .int .i64 x5, .int .i64 x6, .int .i64 x7, .slice a l.length cap] 46)) := ⟨_, rfl⟩
  have HD : Below w.heap.size w W := by subst hW; exact (by repeat (first | with_reducible exact Below.refl _ _ | with_reducible assumption | with_reducible refine Below.drew ?_ | with_reducible refine Below.alloc ?_ (by first | exact Nat.le_refl _ | (simp; done) | (simp; omega) | omega) _ | with_reducible refine Below.setCell ?_ (by first | exact Nat.le_refl _ | (simp; done) | (simp; omega) | omega) _ | with_reducible refine Below.trans ?_ (Below.mono (by with_reducible assumption) (by first | exact Nat.le_refl _ | (simp; done) | (simp; omega) | omega))))
  have b00 : W.cell? ⟨w.heap.size, 0, none⟩ = some (.int .i64 x0) := by subst hW; simp [go_sem]
  have b01 : W.cell? ⟨w.heap.size, 1, none⟩ = some (.int .i64 x1) := by subst hW; simp [go_sem]
  have b02 : W.cell? ⟨w.heap.size, 2, none⟩ = some (.int .i64 x2) := by subst hW; simp [go_sem]
  have b03 : W.cell? ⟨w.heap.size, 3, none⟩ = some (.int .i64 x3) := by subst hW; simp [go_sem]
  have b04 : W.cell? ⟨w.heap.size, 4, none⟩ = some (.int .i64 x4) := by subst hW; simp [go_sem]
  have b05 : W.cell? ⟨w.heap.size, 5, none⟩ = some (.int .i64 x5) := by subst hW; simp [go_sem]
  have b06 : W.cell? ⟨w.heap.size, 6, none⟩ = some (.int .i64 x6) := by subst hW; simp [go_sem]
  have b07 : W.cell? ⟨w.heap.size, 7, none⟩ = some (.int .i64 x7) := by subst hW; simp [go_sem]
  have b08 : W.cell? ⟨w.heap.size, 8, none⟩ = some (.slice a l.length cap) := by subst hW; simp [go_sem]
  have L0 : w.heap.size < W.heap.size := by subst hW; first | (simp; done) | (simp; omega)
  rw [← hW]
  clear hW
  obtain ⟨B0, hB0⟩ : ∃ B, B = w.heap.size := ⟨_, rfl⟩
  rw [← hB0] at b00 b01 b02 b03 b04 b05 b06 b07 b08 L0
  try rw [← hB0]
  replace hB0 := Lib.hid hB0
  have FV := Lib.hid (H0.out.below HD)
  clear H0
  have HDW := HD
  refine wp_region_later (by kernel_rfl) (by kernel_rfl) ?_
  repeat (first | go_big_quiet_step ((first | (go_at_call_of 57 (x0); exact later_of _ (CA.out _)) | (go_at_call_of 57 (x2); exact later_of _ (CB.out _)))) | quiet_step ((first | (go_at_call_of 57 (x0); exact later_of _ (CA.out _)) | (go_at_call_of 57 (x2); exact later_of _ (CB.out _)))))
  refine wpQuiet_nil ?_
  intro _ hw'
  obtain ⟨s1, hw''⟩ := hw'
  subst hw''
  have hb := s1.below
  generalize s1.w = V1 at hb ⊢
  clear s1
  clear CA CB
  replace HD := HD.trans (hb.mono HD.size)
  obtain ⟨hc, hf⟩ := bcell hb
  have hz := hb.size
  replace b00 := (hc _ 0 L0).trans b00
  replace b01 := (hc _ 1 L0).trans b01
  replace b02 := (hc _ 2 L0).trans b02
  replace b03 := (hc _ 3 L0).trans b03
  replace b04 := (hc _ 4 L0).trans b04
  replace b05 := (hc _ 5 L0).trans b05
  replace b06 := (hc _ 6 L0).trans b06
  replace b07 := (hc _ 7 L0).trans b07
  replace b08 := (hc _ 8 L0).trans b08
  replace FV := Lib.hid (RowAt.below FV.out hb)
  replace L0 := Nat.lt_of_lt_of_le L0 hz
  clear hc hf hz hb
  go_wp2_with fail
  go_loopw [3, 4] (fun s i wr => ∃ k : Nat, i = .int .i64 (k : Int) ∧ s = .string (marksB x0 x1 x2 x3 l k) ∧ k ≤ l.length ∧ Below V1.heap.size V1 wr) (fun _ i _ => l.length - (intOf i).toNat)
  case atStart => exact ⟨0, rfl, by rw [HB0.out], Nat.zero_le _, Below.refl _ _⟩
  case round =>
    obtain ⟨k, rfl, rfl, hk, hbl⟩ := hrel
    have hb := hbl
    replace HD := HD.trans (hb.mono HD.size)
    obtain ⟨hc, hf⟩ := bcell hb
    have hz := hb.size
    replace b00 := (hc _ 0 L0).trans b00
    replace b01 := (hc _ 1 L0).trans b01
    replace b02 := (hc _ 2 L0).trans b02
    replace b03 := (hc _ 3 L0).trans b03
    replace b04 := (hc _ 4 L0).trans b04
    replace b05 := (hc _ 5 L0).trans b05
    replace b06 := (hc _ 6 L0).trans b06
    replace b07 := (hc _ 7 L0).trans b07
    replace b08 := (hc _ 8 L0).trans b08
    replace FV := Lib.hid (RowAt.below FV.out hb)
    replace L0 := Nat.lt_of_lt_of_le L0 hz
    clear hc hf hz hb
    replace hbl := Lib.hid hbl
    have hMz := HMZ.out k hk
    by_cases h : k < l.length
    case pos =>
      have h' : (k : Int) < (l.length : Int) := by omega
      obtain ⟨b, off, rfl, hlt, d0, d1, d2, d3, d4⟩ := mark_cell FV.out h
      have HN := Lib.hid (show marksB x0 x1 x2 x3 l (k + 1) = marksB x0 x1 x2 x3 l k ++ ⟨#[32, 109, 97, 114, 107, 32]⟩ ++ (mk l k).name ++ pointB (mk l k).x (mk l k).y ++ sideB (mk l k).s ++ sgB (mk l k).z by rw [mark_eq]; rfl)
      obtain ⟨n8, hp, hsd, z1, z2⟩ := mkT (HMK.out k h).1
      generalize marksB x0 x1 x2 x3 l k = M at *
      generalize mk l k = m at *
      obtain ⟨n0, u0, u1, u2, u3⟩ := m
      dsimp only at d0 d1 d2 d3 d4 n8 hp hsd z1 z2
      have zP := pointT hp
      have CP := Lib.hid (fun w => l04Point_c u0 u1 w hp)
      obtain ⟨zz, rfl⟩ : ∃ zz : Nat, u3 = (zz : Int) := ⟨u3.toNat, by omega⟩
      have CZ := Lib.hid (fun w => l01Number_c zz w (by omega))
      have q2 := dgB_size (n := zz) (by omega)
      dsimp only at HN
      rw [sgB_nat] at HN
      clear hp z1 z2
      generalize pointB u0 u1 = PP at *
      generalize dgB zz = SZ at *
      rcases hsd with rfl | rfl
      case inl =>
        have HN2 := Lib.hid (HN.out.trans (show M ++ ⟨#[32, 109, 97, 114, 107, 32]⟩ ++ n0 ++ PP ++ sideB 1 ++ SZ = M ++ ⟨#[32, 109, 97, 114, 107, 32]⟩ ++ n0 ++ PP ++ ⟨#[32, 112, 111, 114, 116, 32]⟩ ++ SZ from rfl))
        have zsd : (⟨#[32, 112, 111, 114, 116, 32]⟩ : ByteArray).size = 6 := rfl
        clear HN
        go_wp2_with fail
        obtain ⟨X1, hX1⟩ : ∃ x, x = wr.alloc (.cells #[.string n0, .int .i64 u0, .int .i64 u1, .int .i64 1, .int .i64 (zz : Int)] 68) := ⟨_, rfl⟩
        have hb : Below wr.heap.size wr X1 := by subst hX1; exact (Below.refl _ _).alloc (Nat.le_refl _) _
        have k50 : X1.cell? ⟨wr.heap.size, 0, none⟩ = some (.string n0) := by subst hX1; simp [go_sem]
        have k51 : X1.cell? ⟨wr.heap.size, 1, none⟩ = some (.int .i64 u0) := by subst hX1; simp [go_sem]
        have k52 : X1.cell? ⟨wr.heap.size, 2, none⟩ = some (.int .i64 u1) := by subst hX1; simp [go_sem]
        have k53 : X1.cell? ⟨wr.heap.size, 3, none⟩ = some (.int .i64 1) := by subst hX1; simp [go_sem]
        have k54 : X1.cell? ⟨wr.heap.size, 4, none⟩ = some (.int .i64 (zz : Int)) := by subst hX1; simp [go_sem]
        have K5 : wr.heap.size < X1.heap.size := by subst hX1; simp
        have hS5 := Lib.hid (show X1.heap.size = wr.heap.size + 1 by subst hX1; simp)
        rw [← hX1]
        clear hX1
        replace HD := HD.trans (hb.mono HD.size)
        obtain ⟨hc, hf⟩ := bcell hb
        have hz := hb.size
        replace b00 := (hc _ 0 L0).trans b00
        replace b01 := (hc _ 1 L0).trans b01
        replace b02 := (hc _ 2 L0).trans b02
        replace b03 := (hc _ 3 L0).trans b03
        replace b04 := (hc _ 4 L0).trans b04
        replace b05 := (hc _ 5 L0).trans b05
        replace b06 := (hc _ 6 L0).trans b06
        replace b07 := (hc _ 7 L0).trans b07
        replace b08 := (hc _ 8 L0).trans b08
        replace FV := Lib.hid (RowAt.below FV.out hb)
        replace hbl := Lib.hid (hbl.out.trans (hb.mono hbl.out.size))
        replace L0 := Nat.lt_of_lt_of_le L0 hz
        clear hc hf hz hb
        obtain ⟨C5, hC5⟩ : ∃ x, x = wr.heap.size := ⟨_, rfl⟩
        rw [← hC5] at k50 k51 k52 k53 k54 K5
        try rw [← hC5]
        replace hC5 := Lib.hid hC5
        have HBL := hbl.out
        clear HD
        have hw0 : IntKind.i64.wrap 0 = 0 := by decide
        have hw1 : IntKind.i64.wrap 1 = 1 := by decide
        have hwa : IntKind.i64.wrap (1 - 1) = 0 := by decide
        have hwb : IntKind.i64.wrap (2 - 1) = 1 := by decide
        have e0a : ¬ (9223372036854775807 < (M : ByteArray).size + (⟨#[32, 109, 97, 114, 107, 32]⟩ : ByteArray).size) := by (try simp only [ByteArray.size_append]); omega
        have e0b : ¬ (9223372036854775807 < M.size + 6) := by omega
        have e0c : ¬ (9223372036854775807 < (M : ByteArray).size + 6) := by (try simp only [ByteArray.size_append]); omega
        have e1a : ¬ (9223372036854775807 < (M ++ ⟨#[32, 109, 97, 114, 107, 32]⟩ : ByteArray).size + (n0 : ByteArray).size) := by (try simp only [ByteArray.size_append]); omega
        have e1b : ¬ (9223372036854775807 < M.size + 6 + n0.size) := by omega
        have e1c : ¬ (9223372036854775807 < (M ++ ⟨#[32, 109, 97, 114, 107, 32]⟩ : ByteArray).size + n0.size) := by (try simp only [ByteArray.size_append]); omega
        have e2a : ¬ (9223372036854775807 < (M ++ ⟨#[32, 109, 97, 114, 107, 32]⟩ ++ n0 : ByteArray).size + (PP : ByteArray).size) := by (try simp only [ByteArray.size_append]); omega
        have e2b : ¬ (9223372036854775807 < M.size + 6 + n0.size + PP.size) := by omega
        have e2c : ¬ (9223372036854775807 < (M ++ ⟨#[32, 109, 97, 114, 107, 32]⟩ ++ n0 : ByteArray).size + PP.size) := by (try simp only [ByteArray.size_append]); omega
        have e3a : ¬ (9223372036854775807 < (M ++ ⟨#[32, 109, 97, 114, 107, 32]⟩ ++ n0 ++ PP : ByteArray).size + (⟨#[32, 112, 111, 114, 116, 32]⟩ : ByteArray).size) := by (try simp only [ByteArray.size_append]); omega
        have e3b : ¬ (9223372036854775807 < M.size + 6 + n0.size + PP.size + 6) := by omega
        have e3c : ¬ (9223372036854775807 < (M ++ ⟨#[32, 109, 97, 114, 107, 32]⟩ ++ n0 ++ PP : ByteArray).size + 6) := by (try simp only [ByteArray.size_append]); omega
        have e4a : ¬ (9223372036854775807 < (M ++ ⟨#[32, 109, 97, 114, 107, 32]⟩ ++ n0 ++ PP ++ ⟨#[32, 112, 111, 114, 116, 32]⟩ : ByteArray).size + (SZ : ByteArray).size) := by (try simp only [ByteArray.size_append]); omega
        have e4b : ¬ (9223372036854775807 < M.size + 6 + n0.size + PP.size + 6 + SZ.size) := by omega
        have e4c : ¬ (9223372036854775807 < (M ++ ⟨#[32, 109, 97, 114, 107, 32]⟩ ++ n0 ++ PP ++ ⟨#[32, 112, 111, 114, 116, 32]⟩ : ByteArray).size + SZ.size) := by (try simp only [ByteArray.size_append]); omega
        go_wp2_with fail
        rw [show Op.load 9 (Operand.tmp 41) = id (Op.load 9 (Operand.tmp 41)) from rfl]
        go_region_held3 (fun wx => Below X1.heap.size X1 wx ∧ ∀ b o, b < X1.heap.size → wx.cell? ⟨b, o, none⟩ = X1.cell? ⟨b, o, none⟩)
          (repeat (first | with_reducible assumption | with_reducible exact held_step (by assumption) hb | with_reducible refine held_alloc ?_ _ | with_reducible exact held_start _ _ | with_reducible exact held_begin _))
          (first | (go_at_call 57; refine (CP.out _).mono ?_; rintro e wp ⟨rfl, hb⟩; have hz := held_size (by with_reducible assumption) hb; (try simp at hz); have hs := hb.size; (try simp at hs); obtain ⟨hc, hf⟩ := bcell hb; (try (have eY := hc X1.heap.size 0 (by first | omega | (simp; done) | (simp; omega)); (try simp [go_sem] at eY); (try rw [eX] at eY); have eX := eY)); (try (have eZ := hc wn.heap.size 0 (by first | omega | (simp; done) | (simp; omega)); (try simp [go_sem] at eZ)))) | (go_at_call 42; refine (CZ.out _).mono ?_; rintro e wn ⟨rfl, hb⟩; have hz := held_size (by with_reducible assumption) hb; (try simp at hz); have hs := hb.size; (try simp at hs); obtain ⟨hc, hf⟩ := bcell hb; (try (have eY := hc X1.heap.size 0 (by first | omega | (simp; done) | (simp; omega)); (try simp [go_sem] at eY); (try rw [eX] at eY); have eX := eY)); (try (have eZ := hc wp.heap.size 0 (by first | omega | (simp; done) | (simp; omega)); (try simp [go_sem] at eZ)))))
        all_goals go_wp2_with fail
        all_goals exact ⟨⟨k + 1, by simp, by rw [HN2.out], by omega, (by refine HBL.trans (Below.mono ?_ HBL.size); exact And.left (by with_reducible assumption))⟩, by simp [intOf]; omega⟩
      case inr =>
        have HN2 := Lib.hid (HN.out.trans (show M ++ ⟨#[32, 109, 97, 114, 107, 32]⟩ ++ n0 ++ PP ++ sideB 2 ++ SZ = M ++ ⟨#[32, 109, 97, 114, 107, 32]⟩ ++ n0 ++ PP ++ ⟨#[32, 115, 116, 97, 114, 98, 111, 97, 114, 100, 32]⟩ ++ SZ from rfl))
        have zsd : (⟨#[32, 115, 116, 97, 114, 98, 111, 97, 114, 100, 32]⟩ : ByteArray).size = 11 := rfl
        clear HN
        go_wp2_with fail
        obtain ⟨X1, hX1⟩ : ∃ x, x = wr.alloc (.cells #[.string n0, .int .i64 u0, .int .i64 u1, .int .i64 2, .int .i64 (zz : Int)] 68) := ⟨_, rfl⟩
        have hb : Below wr.heap.size wr X1 := by subst hX1; exact (Below.refl _ _).alloc (Nat.le_refl _) _
        have k50 : X1.cell? ⟨wr.heap.size, 0, none⟩ = some (.string n0) := by subst hX1; simp [go_sem]
        have k51 : X1.cell? ⟨wr.heap.size, 1, none⟩ = some (.int .i64 u0) := by subst hX1; simp [go_sem]
        have k52 : X1.cell? ⟨wr.heap.size, 2, none⟩ = some (.int .i64 u1) := by subst hX1; simp [go_sem]
        have k53 : X1.cell? ⟨wr.heap.size, 3, none⟩ = some (.int .i64 2) := by subst hX1; simp [go_sem]
        have k54 : X1.cell? ⟨wr.heap.size, 4, none⟩ = some (.int .i64 (zz : Int)) := by subst hX1; simp [go_sem]
        have K5 : wr.heap.size < X1.heap.size := by subst hX1; simp
        have hS5 := Lib.hid (show X1.heap.size = wr.heap.size + 1 by subst hX1; simp)
        rw [← hX1]
        clear hX1
        replace HD := HD.trans (hb.mono HD.size)
        obtain ⟨hc, hf⟩ := bcell hb
        have hz := hb.size
        replace b00 := (hc _ 0 L0).trans b00
        replace b01 := (hc _ 1 L0).trans b01
        replace b02 := (hc _ 2 L0).trans b02
        replace b03 := (hc _ 3 L0).trans b03
        replace b04 := (hc _ 4 L0).trans b04
        replace b05 := (hc _ 5 L0).trans b05
        replace b06 := (hc _ 6 L0).trans b06
        replace b07 := (hc _ 7 L0).trans b07
        replace b08 := (hc _ 8 L0).trans b08
        replace FV := Lib.hid (RowAt.below FV.out hb)
        replace hbl := Lib.hid (hbl.out.trans (hb.mono hbl.out.size))
        replace L0 := Nat.lt_of_lt_of_le L0 hz
        clear hc hf hz hb
        obtain ⟨C5, hC5⟩ : ∃ x, x = wr.heap.size := ⟨_, rfl⟩
        rw [← hC5] at k50 k51 k52 k53 k54 K5
        try rw [← hC5]
        replace hC5 := Lib.hid hC5
        have HBL := hbl.out
        clear HD
        have hw0 : IntKind.i64.wrap 0 = 0 := by decide
        have hw1 : IntKind.i64.wrap 1 = 1 := by decide
        have hwa : IntKind.i64.wrap (1 - 1) = 0 := by decide
        have hwb : IntKind.i64.wrap (2 - 1) = 1 := by decide
        have e0a : ¬ (9223372036854775807 < (M : ByteArray).size + (⟨#[32, 109, 97, 114, 107, 32]⟩ : ByteArray).size) := by (try simp only [ByteArray.size_append]); omega
        have e0b : ¬ (9223372036854775807 < M.size + 6) := by omega
        have e0c : ¬ (9223372036854775807 < (M : ByteArray).size + 6) := by (try simp only [ByteArray.size_append]); omega
        have e1a : ¬ (9223372036854775807 < (M ++ ⟨#[32, 109, 97, 114, 107, 32]⟩ : ByteArray).size + (n0 : ByteArray).size) := by (try simp only [ByteArray.size_append]); omega
        have e1b : ¬ (9223372036854775807 < M.size + 6 + n0.size) := by omega
        have e1c : ¬ (9223372036854775807 < (M ++ ⟨#[32, 109, 97, 114, 107, 32]⟩ : ByteArray).size + n0.size) := by (try simp only [ByteArray.size_append]); omega
        have e2a : ¬ (9223372036854775807 < (M ++ ⟨#[32, 109, 97, 114, 107, 32]⟩ ++ n0 : ByteArray).size + (PP : ByteArray).size) := by (try simp only [ByteArray.size_append]); omega
        have e2b : ¬ (9223372036854775807 < M.size + 6 + n0.size + PP.size) := by omega
        have e2c : ¬ (9223372036854775807 < (M ++ ⟨#[32, 109, 97, 114, 107, 32]⟩ ++ n0 : ByteArray).size + PP.size) := by (try simp only [ByteArray.size_append]); omega
        have e3a : ¬ (9223372036854775807 < (M ++ ⟨#[32, 109, 97, 114, 107, 32]⟩ ++ n0 ++ PP : ByteArray).size + (⟨#[32, 115, 116, 97, 114, 98, 111, 97, 114, 100, 32]⟩ : ByteArray).size) := by (try simp only [ByteArray.size_append]); omega
        have e3b : ¬ (9223372036854775807 < M.size + 6 + n0.size + PP.size + 11) := by omega
        have e3c : ¬ (9223372036854775807 < (M ++ ⟨#[32, 109, 97, 114, 107, 32]⟩ ++ n0 ++ PP : ByteArray).size + 11) := by (try simp only [ByteArray.size_append]); omega
        have e4a : ¬ (9223372036854775807 < (M ++ ⟨#[32, 109, 97, 114, 107, 32]⟩ ++ n0 ++ PP ++ ⟨#[32, 115, 116, 97, 114, 98, 111, 97, 114, 100, 32]⟩ : ByteArray).size + (SZ : ByteArray).size) := by (try simp only [ByteArray.size_append]); omega
        have e4b : ¬ (9223372036854775807 < M.size + 6 + n0.size + PP.size + 11 + SZ.size) := by omega
        have e4c : ¬ (9223372036854775807 < (M ++ ⟨#[32, 109, 97, 114, 107, 32]⟩ ++ n0 ++ PP ++ ⟨#[32, 115, 116, 97, 114, 98, 111, 97, 114, 100, 32]⟩ : ByteArray).size + SZ.size) := by (try simp only [ByteArray.size_append]); omega
        go_wp2_with fail
        rw [show Op.load 9 (Operand.tmp 41) = id (Op.load 9 (Operand.tmp 41)) from rfl]
        go_region_held3 (fun wx => Below X1.heap.size X1 wx ∧ ∀ b o, b < X1.heap.size → wx.cell? ⟨b, o, none⟩ = X1.cell? ⟨b, o, none⟩)
          (repeat (first | with_reducible assumption | with_reducible exact held_step (by assumption) hb | with_reducible refine held_alloc ?_ _ | with_reducible exact held_start _ _ | with_reducible exact held_begin _))
          (first | (go_at_call 57; refine (CP.out _).mono ?_; rintro e wp ⟨rfl, hb⟩; have hz := held_size (by with_reducible assumption) hb; (try simp at hz); have hs := hb.size; (try simp at hs); obtain ⟨hc, hf⟩ := bcell hb; (try (have eY := hc X1.heap.size 1 (by first | omega | (simp; done) | (simp; omega)); (try simp [go_sem] at eY); (try rw [eX] at eY); have eX := eY)); (try (have eZ := hc wn.heap.size 1 (by first | omega | (simp; done) | (simp; omega)); (try simp [go_sem] at eZ)))) | (go_at_call 42; refine (CZ.out _).mono ?_; rintro e wn ⟨rfl, hb⟩; have hz := held_size (by with_reducible assumption) hb; (try simp at hz); have hs := hb.size; (try simp at hs); obtain ⟨hc, hf⟩ := bcell hb; (try (have eY := hc X1.heap.size 1 (by first | omega | (simp; done) | (simp; omega)); (try simp [go_sem] at eY); (try rw [eX] at eY); have eX := eY)); (try (have eZ := hc wp.heap.size 1 (by first | omega | (simp; done) | (simp; omega)); (try simp [go_sem] at eZ)))))
        all_goals go_wp2_with fail
        all_goals exact ⟨⟨k + 1, by simp, by rw [HN2.out], by omega, (by refine HBL.trans (Below.mono ?_ HBL.size); exact And.left (by with_reducible assumption))⟩, by simp [intOf]; omega⟩
    case neg =>
      have h' : (l.length : Int) ≤ (k : Int) := by omega
      have h'' : ¬ (k : Int) < (l.length : Int) := by omega
      rw [show l.length = k by omega] at HC
      generalize marksB x0 x1 x2 x3 l k = M at *
      go_wp2_with fail
      refine wp_region_later (by kernel_rfl) (by kernel_rfl) ?_
      repeat (first | go_big_quiet_step ((first | (go_at_call_of 57 (x4); exact later_of _ (CC.out _)) | (go_at_call_of 57 (x6); exact later_of _ (CD.out _)))) | quiet_step ((first | (go_at_call_of 57 (x4); exact later_of _ (CC.out _)) | (go_at_call_of 57 (x6); exact later_of _ (CD.out _)))))
      refine wpQuiet_nil ?_
      intro _ hw'
      obtain ⟨sk9, hw''⟩ := hw'
      subst hw''
      have hbk9 := sk9.below
      generalize sk9.w = wk9 at hbk9 ⊢
      clear sk9
      try replace hbk9 := below_trans (by with_reducible assumption) hbk9
      obtain ⟨hck9, hfk9⟩ := bcell hbk9
      have hzk9 := hbk9.size
      try simp at hzk9
      try have hzk90 : w.heap.size ≤ wk9.heap.size := by omega
      try have hzk91 : w.heap.size < wk9.heap.size := by omega
      try have hzk92 : w.heap.size + 1 < wk9.heap.size := by omega
      try have hzk93 : w.heap.size + 1 + 1 < wk9.heap.size := by omega
      try have hzk94 : w.heap.size + 1 + 1 + 1 < wk9.heap.size := by omega
      go_wp2_with fail
      exact bodyPost_ret (v := .string (M ++ ⟨#[32, 102, 105, 110, 105, 115, 104]⟩ ++ PC ++ PD)) (by simp [results, Tryd.results35, go_sem]) rfl ⟨by rw [HC.out], by first | exact hbk9 | exact HD.trans (hbk9.mono HD.size)⟩
end Go.Proofs.YtjgndfphbmkhaaaDoor
