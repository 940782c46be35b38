/-
  The text of a course, both sides. Conditions: where its marks lie; the library's table is laid in the world.
  The text of a course: the reference. Conditions: a course; where its marks lie.
  The text of a course: the reference, with its code. Conditions: where its marks lie.
-/
import Derived.Test.YtjgndfphbmkhaaaGreatDoorTxt4
import Derived.Test.YtjgndfphbmkhaaaGreatDoorCrsI
import Derived.Test.YtjgndfphbmkhaaaGreatDoorHeld
namespace Go.Proofs.YtjgndfphbmkhaaaGreatDoor
section
set_option linter.unusedVariables false
open Go.RowKit Go.Deep

def sideB (s : Int) : ByteArray := if s = 2 then ⟨#[32, 115, 116, 97, 114, 98, 111, 97, 114, 100, 32]⟩ else ⟨#[32, 112, 111, 114, 116, 32]⟩
def markB (m : Mk) : ByteArray := ⟨#[32, 109, 97, 114, 107, 32]⟩ ++ m.name ++ ⟨#[32]⟩ ++ sgB m.x ++ ⟨#[32]⟩ ++ sgB m.y ++ sideB m.s ++ sgB m.z
/-- the start and the first marks -/
def marksB (x0 x1 x2 x3 : Int) (l : List Mk) : Nat → ByteArray
  | 0 => ⟨#[115, 116, 97, 114, 116, 32]⟩ ++ lineB x0 x1 x2 x3
  | k + 1 => marksB x0 x1 x2 x3 l k ++ markB (mk l k)
def crsB (x0 x1 x2 x3 x4 x5 x6 x7 : Int) (l : List Mk) : ByteArray := marksB x0 x1 x2 x3 l l.length ++ (⟨#[32, 102, 105, 110, 105, 115, 104, 32]⟩ ++ lineB x4 x5 x6 x7)
noncomputable def ctR (x0 x1 x2 x3 x4 x5 x6 x7 : Int) (l : List Mk) : ByteArray := if courseOK x0 x1 x2 x3 x4 x5 x6 x7 l = true then (if (crsB x0 x1 x2 x3 x4 x5 x6 x7 l).size ≤ 1000 then crsB x0 x1 x2 x3 x4 x5 x6 x7 l else ⟨#[]⟩) else ⟨#[]⟩
theorem start_eq (a b c d : Int) : (⟨#[115, 116, 97, 114, 116]⟩ : ByteArray) ++ pointB a b ++ pointB c d = ⟨#[115, 116, 97, 114, 116, 32]⟩ ++ lineB a b c d := by
  unfold pointB lineB
  rw [show (⟨#[115, 116, 97, 114, 116, 32]⟩ : ByteArray) = ⟨#[115, 116, 97, 114, 116]⟩ ++ ⟨#[32]⟩ from rfl]
  simp only [ByteArray.append_assoc]
theorem fin_eq (M : ByteArray) (a b c d : Int) : M ++ ⟨#[32, 102, 105, 110, 105, 115, 104]⟩ ++ pointB a b ++ pointB c d = M ++ (⟨#[32, 102, 105, 110, 105, 115, 104, 32]⟩ ++ lineB a b c d) := by
  unfold pointB lineB
  rw [show (⟨#[32, 102, 105, 110, 105, 115, 104, 32]⟩ : ByteArray) = ⟨#[32, 102, 105, 110, 105, 115, 104]⟩ ++ ⟨#[32]⟩ from rfl]
  simp only [ByteArray.append_assoc]
theorem mark_eq (M : ByteArray) (m : Mk) : M ++ ⟨#[32, 109, 97, 114, 107, 32]⟩ ++ m.name ++ pointB m.x m.y ++ sideB m.s ++ sgB m.z = M ++ markB m := by
  unfold pointB markB
  simp only [ByteArray.append_assoc]
theorem mkT {m : Mk} (h : markOK m = true) : m.name.size ≤ 8 ∧ isPt m.x m.y = true ∧ (m.s = 1 ∨ m.s = 2) ∧ 1 ≤ m.z ∧ m.z ≤ 5000 := by
  unfold markOK at h
  simp only [Bool.and_eq_true] at h
  obtain ⟨⟨⟨h0, h1⟩, h2⟩, h3⟩ := h
  obtain ⟨s1, s2⟩ := inR_true h2
  obtain ⟨z1, z2⟩ := inR_true h3
  exact ⟨((nameOK_iff _).1 h0).2.1, h1, by omega, z1, z2⟩
theorem sideB_size (s : Int) : (sideB s).size ≤ 11 := by
  unfold sideB
  split <;> decide
theorem markB_size {m : Mk} (h : markOK m = true) : (markB m).size ≤ 120 := by
  obtain ⟨n8, hp, hs, z1, z2⟩ := mkT h
  obtain ⟨a1, a2, a3, a4⟩ := isPt_true hp
  have q0 := sgB_size (n := m.x) (by omega) (by omega)
  have q1 := sgB_size (n := m.y) (by omega) (by omega)
  have q2 := sgB_size (n := m.z) (by omega) (by omega)
  have q3 := sideB_size m.s
  have q4 : (⟨#[32, 109, 97, 114, 107, 32]⟩ : ByteArray).size = 6 := rfl
  unfold markB
  simp only [ByteArray.size_append, ba_size1]
  omega
theorem lineT {a b c d : Int} (h : isPt a b = true) (h2 : isPt c d = true) : (lineB a b c d).size ≤ 90 := by
  obtain ⟨a1, a2, a3, a4⟩ := isPt_true h
  obtain ⟨b1, b2, b3, b4⟩ := isPt_true h2
  exact lineB_size (sgB_size (by omega) (by omega)) (sgB_size (by omega) (by omega)) (sgB_size (by omega) (by omega)) (sgB_size (by omega) (by omega))
theorem pointT {a b : Int} (h : isPt a b = true) : (pointB a b).size ≤ 44 := by
  obtain ⟨a1, a2, a3, a4⟩ := isPt_true h
  exact pointB_size (sgB_size (by omega) (by omega)) (sgB_size (by omega) (by omega))
theorem marksB_size {x0 x1 x2 x3 : Int} {l : List Mk} (hA : isPt x0 x1 = true) (hB : isPt x2 x3 = true) (hm : ∀ k, k < l.length → MkOK l k) : ∀ k, k ≤ l.length → (marksB x0 x1 x2 x3 l k).size ≤ 100 + k * 120
  | 0, _ => by
    have q := lineT hA hB
    have q4 : (⟨#[115, 116, 97, 114, 116, 32]⟩ : ByteArray).size = 6 := rfl
    rw [marksB]
    simp only [ByteArray.size_append]
    omega
  | k + 1, h => by
    have ih := marksB_size hA hB hm k (by omega)
    have q := markB_size (hm k (by omega)).1
    rw [marksB]
    simp only [ByteArray.size_append]
    omega
set_option maxRecDepth 100000 in
set_option maxHeartbeats 4000000 in
theorem CourseText_c (x0 x1 x2 x3 x4 x5 x6 x7 : Int) (a : Option Addr) (cap : Nat) (l : List Mk) (w : World) (hl : l.length ≤ 4611686018427387904) (h : RowAt w a (mflat l)) (hs : ∀ i, i < l.length → (mk l i).name.size ≤ maxLen) (hcap : l.length ≤ cap) (ht : Tab w) :
    Calls Tryz.prog 12 #[.agg #[.int .i64 x0, .int .i64 x1, .int .i64 x2, .int .i64 x3, .int .i64 x4, .int .i64 x5, .int .i64 x6, .int .i64 x7, .slice a l.length cap]] w fun e w' => e = .returned (.string (ctR x0 x1 x2 x3 x4 x5 x6 x7 l)) ∧ Below w.heap.size w w' := by
  have H0 := Lib.hid h
  have HS := Lib.hid hs
  have HT0 := Lib.hid ht
  clear h hs ht
  go_enter Tryz.func12, Tryz.ntmps12
  go_wp2_with fail
  obtain ⟨W, hW⟩ : ∃ W, W = (w.alloc (.cells #[.int .i64 x0, .int .i64 x1, .int .i64 x2, .int .i64 x3, .int .i64 x4, .int .i64 x5, .int .i64 x6, .int .i64 x7, .slice a l.length cap] 28)) := ⟨_, rfl⟩
  have HD : Below w.heap.size w W := by subst hW; exact (by repeat (first | with_reducible exact Below.refl _ _ | with_reducible assumption | with_reducible refine Below.drew ?_ | with_reducible refine Below.alloc ?_ (by first | exact Nat.le_refl _ | (simp; done) | (simp; omega) | omega) _ | with_reducible refine Below.setCell ?_ (by first | exact Nat.le_refl _ | (simp; done) | (simp; omega) | omega) _ | with_reducible refine Below.trans ?_ (Below.mono (by with_reducible assumption) (by first | exact Nat.le_refl _ | (simp; done) | (simp; omega) | omega))))
  have b00 : W.cell? ⟨w.heap.size, 0, none⟩ = some (.int .i64 x0) := by subst hW; simp [go_sem]
  have b01 : W.cell? ⟨w.heap.size, 1, none⟩ = some (.int .i64 x1) := by subst hW; simp [go_sem]
  have b02 : W.cell? ⟨w.heap.size, 2, none⟩ = some (.int .i64 x2) := by subst hW; simp [go_sem]
  have b03 : W.cell? ⟨w.heap.size, 3, none⟩ = some (.int .i64 x3) := by subst hW; simp [go_sem]
  have b04 : W.cell? ⟨w.heap.size, 4, none⟩ = some (.int .i64 x4) := by subst hW; simp [go_sem]
  have b05 : W.cell? ⟨w.heap.size, 5, none⟩ = some (.int .i64 x5) := by subst hW; simp [go_sem]
  have b06 : W.cell? ⟨w.heap.size, 6, none⟩ = some (.int .i64 x6) := by subst hW; simp [go_sem]
  have b07 : W.cell? ⟨w.heap.size, 7, none⟩ = some (.int .i64 x7) := by subst hW; simp [go_sem]
  have b08 : W.cell? ⟨w.heap.size, 8, none⟩ = some (.slice a l.length cap) := by subst hW; simp [go_sem]
  have L0 : w.heap.size < W.heap.size := by subst hW; first | (simp; done) | (simp; omega)
  rw [← hW]
  clear hW
  obtain ⟨B0, hB0⟩ : ∃ B, B = w.heap.size := ⟨_, rfl⟩
  rw [← hB0] at b00 b01 b02 b03 b04 b05 b06 b07 b08 L0
  try rw [← hB0]
  replace hB0 := Lib.hid hB0
  have FV := Lib.hid (H0.out.below HD)
  have HT := Lib.hid (HT0.out.below HD)
  clear H0 HT0
  have cc := IsCourse_c x0 x1 x2 x3 x4 x5 x6 x7 a cap l W hl FV.out HS.out hcap
  cases e : courseOK x0 x1 x2 x3 x4 x5 x6 x7 l
  case false =>
    have HF := Lib.hid (show ctR x0 x1 x2 x3 x4 x5 x6 x7 l = ⟨#[]⟩ by unfold ctR; rw [if_neg (by rw [e]; decide)])
    rw [e] at cc
    clear e
    refine (cc).mono ?_
    rintro e V1 ⟨rfl, hb⟩
    clear cc
    replace HD := HD.trans (hb.mono HD.size)
    obtain ⟨hc, hf⟩ := bcell hb
    have hz := hb.size
    replace b00 := (hc _ 0 L0).trans b00
    replace b01 := (hc _ 1 L0).trans b01
    replace b02 := (hc _ 2 L0).trans b02
    replace b03 := (hc _ 3 L0).trans b03
    replace b04 := (hc _ 4 L0).trans b04
    replace b05 := (hc _ 5 L0).trans b05
    replace b06 := (hc _ 6 L0).trans b06
    replace b07 := (hc _ 7 L0).trans b07
    replace b08 := (hc _ 8 L0).trans b08
    replace FV := Lib.hid (RowAt.below FV.out hb)
    replace HT := Lib.hid (Tab.below HT.out hb)
    replace L0 := Nat.lt_of_lt_of_le L0 hz
    clear hc hf hz hb
    go_wp2_with fail
    exact bodyPost_ret (v := .string ⟨#[]⟩) (by simp [results, Tryz.results12, go_sem]) rfl ⟨by rw [HF.out], HD⟩
  case true =>
    have HG := Lib.hid (show ctR x0 x1 x2 x3 x4 x5 x6 x7 l = if (crsB x0 x1 x2 x3 x4 x5 x6 x7 l).size ≤ 1000 then crsB x0 x1 x2 x3 x4 x5 x6 x7 l else ⟨#[]⟩ by unfold ctR; rw [if_pos e])
    have hcp := courseOK_true e
    rw [e] at cc
    clear e
    obtain ⟨hg1, hg2, _, hl8, hmk, _⟩ := hcp
    obtain ⟨sA, sB, _⟩ := isSeg_true hg1
    obtain ⟨sC, sD, _⟩ := isSeg_true hg2
    have HMK := Lib.hid hmk
    have hzS := lineT sA sB
    have hzF := lineT sC sD
    have HMZ := Lib.hid (marksB_size (l := l) sA sB hmk)
    clear hg1 hg2 hmk
    refine (cc).mono ?_
    rintro e V1 ⟨rfl, hb⟩
    clear cc
    replace HD := HD.trans (hb.mono HD.size)
    obtain ⟨hc, hf⟩ := bcell hb
    have hz := hb.size
    replace b00 := (hc _ 0 L0).trans b00
    replace b01 := (hc _ 1 L0).trans b01
    replace b02 := (hc _ 2 L0).trans b02
    replace b03 := (hc _ 3 L0).trans b03
    replace b04 := (hc _ 4 L0).trans b04
    replace b05 := (hc _ 5 L0).trans b05
    replace b06 := (hc _ 6 L0).trans b06
    replace b07 := (hc _ 7 L0).trans b07
    replace b08 := (hc _ 8 L0).trans b08
    replace FV := Lib.hid (RowAt.below FV.out hb)
    replace HT := Lib.hid (Tab.below HT.out hb)
    replace L0 := Nat.lt_of_lt_of_le L0 hz
    clear hc hf hz hb
    go_wp2_with fail
    refine (lineText_c x0 x1 x2 x3 V1 sA sB HT.out).mono ?_
    rintro e V2 ⟨rfl, hb⟩
    have HB0 := Lib.hid (show marksB x0 x1 x2 x3 l 0 = ⟨#[115, 116, 97, 114, 116, 32]⟩ ++ lineB x0 x1 x2 x3 from rfl)
    have zst : (⟨#[115, 116, 97, 114, 116, 32]⟩ : ByteArray).size = 6 := rfl
    generalize lineB x0 x1 x2 x3 = LS at *
    replace HD := HD.trans (hb.mono HD.size)
    obtain ⟨hc, hf⟩ := bcell hb
    have hz := hb.size
    replace b00 := (hc _ 0 L0).trans b00
    replace b01 := (hc _ 1 L0).trans b01
    replace b02 := (hc _ 2 L0).trans b02
    replace b03 := (hc _ 3 L0).trans b03
    replace b04 := (hc _ 4 L0).trans b04
    replace b05 := (hc _ 5 L0).trans b05
    replace b06 := (hc _ 6 L0).trans b06
    replace b07 := (hc _ 7 L0).trans b07
    replace b08 := (hc _ 8 L0).trans b08
    replace FV := Lib.hid (RowAt.below FV.out hb)
    replace HT := Lib.hid (Tab.below HT.out hb)
    replace L0 := Nat.lt_of_lt_of_le L0 hz
    clear hc hf hz hb
    go_wp2_with fail
    go_loopw [3, 17] (fun s i wr => ∃ k : Nat, i = .int .i64 (k : Int) ∧ s = .string (marksB x0 x1 x2 x3 l k) ∧ k ≤ l.length ∧ Below V2.heap.size V2 wr) (fun _ i _ => l.length - (intOf i).toNat)
    case atStart => exact ⟨0, rfl, by rw [HB0.out], Nat.zero_le _, Below.refl _ _⟩
    case round =>
      obtain ⟨k, rfl, rfl, hk, hbl⟩ := hrel
      have hb := hbl
      replace HD := HD.trans (hb.mono HD.size)
      obtain ⟨hc, hf⟩ := bcell hb
      have hz := hb.size
      replace b00 := (hc _ 0 L0).trans b00
      replace b01 := (hc _ 1 L0).trans b01
      replace b02 := (hc _ 2 L0).trans b02
      replace b03 := (hc _ 3 L0).trans b03
      replace b04 := (hc _ 4 L0).trans b04
      replace b05 := (hc _ 5 L0).trans b05
      replace b06 := (hc _ 6 L0).trans b06
      replace b07 := (hc _ 7 L0).trans b07
      replace b08 := (hc _ 8 L0).trans b08
      replace FV := Lib.hid (RowAt.below FV.out hb)
      replace HT := Lib.hid (Tab.below HT.out hb)
      replace L0 := Nat.lt_of_lt_of_le L0 hz
      clear hc hf hz hb
      replace hbl := Lib.hid hbl
      have hMz := HMZ.out k hk
      by_cases h : k < l.length
      case pos =>
        have h' : (k : Int) < (l.length : Int) := by omega
        obtain ⟨b, off, rfl, hlt, d0, d1, d2, d3, d4⟩ := mark_cell FV.out h
        have HN := Lib.hid (show marksB x0 x1 x2 x3 l (k + 1) = marksB x0 x1 x2 x3 l k ++ markB (mk l k) from rfl)
        obtain ⟨n8, hp, hsd, z1, z2⟩ := mkT (HMK.out k h).1
        generalize marksB x0 x1 x2 x3 l k = M at *
        generalize mk l k = m at *
        obtain ⟨n0, u0, u1, u2, u3⟩ := m
        dsimp only at d0 d1 d2 d3 d4 n8 hp hsd z1 z2
        obtain ⟨a1, a2, a3, a4⟩ := isPt_true hp
        have q0 := sgB_size (n := u0) (by omega) (by omega)
        have q1 := sgB_size (n := u1) (by omega) (by omega)
        have q2 := sgB_size (n := u3) (by omega) (by omega)
        have C0 := Lib.hid (fun w ht => textI_c u0 w (by omega) (by omega) ht)
        have C1 := Lib.hid (fun w ht => textI_c u1 w (by omega) (by omega) ht)
        have C2 := Lib.hid (fun w ht => textI_c u3 w (by omega) (by omega) ht)
        have zmk : (⟨#[32, 109, 97, 114, 107, 32]⟩ : ByteArray).size = 6 := rfl
        have zbl := ba_size1 32
        clear hp a1 a2 a3 a4 z1 z2
        rcases hsd with rfl | rfl
        case inl =>
          have HN2 := Lib.hid (HN.out.trans (show M ++ markB ⟨n0, u0, u1, 1, u3⟩ = M ++ (⟨#[32, 109, 97, 114, 107, 32]⟩ ++ n0 ++ ⟨#[32]⟩ ++ sgB u0 ++ ⟨#[32]⟩ ++ sgB u1 ++ ⟨#[32, 112, 111, 114, 116, 32]⟩ ++ sgB u3) from rfl))
          have zsd : (⟨#[32, 112, 111, 114, 116, 32]⟩ : ByteArray).size = 6 := rfl
          clear HN
          generalize sgB u0 = S0 at *
          generalize sgB u1 = S1 at *
          generalize sgB u3 = S3 at *
          go_wp2_with fail
          obtain ⟨X1, hX1⟩ : ∃ x, x = wr.alloc (.cells #[.string n0, .int .i64 u0, .int .i64 u1, .int .i64 1, .int .i64 u3] 47) := ⟨_, rfl⟩
          have hb : Below wr.heap.size wr X1 := by subst hX1; exact (Below.refl _ _).alloc (Nat.le_refl _) _
          have k50 : X1.cell? ⟨wr.heap.size, 0, none⟩ = some (.string n0) := by subst hX1; simp [go_sem]
          have k51 : X1.cell? ⟨wr.heap.size, 1, none⟩ = some (.int .i64 u0) := by subst hX1; simp [go_sem]
          have k52 : X1.cell? ⟨wr.heap.size, 2, none⟩ = some (.int .i64 u1) := by subst hX1; simp [go_sem]
          have k53 : X1.cell? ⟨wr.heap.size, 3, none⟩ = some (.int .i64 1) := by subst hX1; simp [go_sem]
          have k54 : X1.cell? ⟨wr.heap.size, 4, none⟩ = some (.int .i64 u3) := by subst hX1; simp [go_sem]
          have K5 : wr.heap.size < X1.heap.size := by subst hX1; simp
          have hS5 := Lib.hid (show X1.heap.size = wr.heap.size + 1 by subst hX1; simp)
          rw [← hX1]
          clear hX1
          replace HD := HD.trans (hb.mono HD.size)
          obtain ⟨hc, hf⟩ := bcell hb
          have hz := hb.size
          replace b00 := (hc _ 0 L0).trans b00
          replace b01 := (hc _ 1 L0).trans b01
          replace b02 := (hc _ 2 L0).trans b02
          replace b03 := (hc _ 3 L0).trans b03
          replace b04 := (hc _ 4 L0).trans b04
          replace b05 := (hc _ 5 L0).trans b05
          replace b06 := (hc _ 6 L0).trans b06
          replace b07 := (hc _ 7 L0).trans b07
          replace b08 := (hc _ 8 L0).trans b08
          replace FV := Lib.hid (RowAt.below FV.out hb)
          replace HT := Lib.hid (Tab.below HT.out hb)
          replace hbl := Lib.hid (hbl.out.trans (hb.mono hbl.out.size))
          replace L0 := Nat.lt_of_lt_of_le L0 hz
          clear hc hf hz hb
          obtain ⟨C5, hC5⟩ : ∃ x, x = wr.heap.size := ⟨_, rfl⟩
          rw [← hC5] at k50 k51 k52 k53 k54 K5
          try rw [← hC5]
          replace hC5 := Lib.hid hC5
          have HBL := hbl.out
          clear HD
          go_wp2_with fail
          refine wp_region_later (by kernel_rfl) (by kernel_rfl) ?_
          repeat (first | go_big_quiet_step ((first | (go_at_call_of 31 (u0); exact later_of _ (C0.out _ (HT.out.below (Later.below _)))) | (go_at_call_of 31 (u1); exact later_of _ (C1.out _ (HT.out.below (Later.below _)))) | (go_at_call_of 31 (u3); exact later_of _ (C2.out _ (HT.out.below (Later.below _)))))) | quiet_step ((first | (go_at_call_of 31 (u0); exact later_of _ (C0.out _ (HT.out.below (Later.below _)))) | (go_at_call_of 31 (u1); exact later_of _ (C1.out _ (HT.out.below (Later.below _)))) | (go_at_call_of 31 (u3); exact later_of _ (C2.out _ (HT.out.below (Later.below _)))))))
          refine wpQuiet_nil ?_
          intro _ hw'
          obtain ⟨sk9, hw''⟩ := hw'
          subst hw''
          have hbk9 := sk9.below
          generalize sk9.w = wk9 at hbk9 ⊢
          clear sk9
          try replace hbk9 := below_trans (by with_reducible assumption) hbk9
          obtain ⟨hck9, hfk9⟩ := bcell hbk9
          have hzk9 := hbk9.size
          try simp at hzk9
          try have hzk90 : w.heap.size ≤ wk9.heap.size := by omega
          try have hzk91 : w.heap.size < wk9.heap.size := by omega
          try have hzk92 : w.heap.size + 1 < wk9.heap.size := by omega
          try have hzk93 : w.heap.size + 1 + 1 < wk9.heap.size := by omega
          try have hzk94 : w.heap.size + 1 + 1 + 1 < wk9.heap.size := by omega
          go_wp2_with fail
          exact ⟨⟨k + 1, by simp, by rw [HN2.out], by omega, by first | exact hbk9 | exact HBL.trans (hbk9.mono HBL.size)⟩, by simp [intOf]; omega⟩
        case inr =>
          have HN2 := Lib.hid (HN.out.trans (show M ++ markB ⟨n0, u0, u1, 2, u3⟩ = M ++ (⟨#[32, 109, 97, 114, 107, 32]⟩ ++ n0 ++ ⟨#[32]⟩ ++ sgB u0 ++ ⟨#[32]⟩ ++ sgB u1 ++ ⟨#[32, 115, 116, 97, 114, 98, 111, 97, 114, 100, 32]⟩ ++ sgB u3) from rfl))
          have zsd : (⟨#[32, 115, 116, 97, 114, 98, 111, 97, 114, 100, 32]⟩ : ByteArray).size = 11 := rfl
          clear HN
          generalize sgB u0 = S0 at *
          generalize sgB u1 = S1 at *
          generalize sgB u3 = S3 at *
          go_wp2_with fail
          obtain ⟨X1, hX1⟩ : ∃ x, x = wr.alloc (.cells #[.string n0, .int .i64 u0, .int .i64 u1, .int .i64 2, .int .i64 u3] 47) := ⟨_, rfl⟩
          have hb : Below wr.heap.size wr X1 := by subst hX1; exact (Below.refl _ _).alloc (Nat.le_refl _) _
          have k50 : X1.cell? ⟨wr.heap.size, 0, none⟩ = some (.string n0) := by subst hX1; simp [go_sem]
          have k51 : X1.cell? ⟨wr.heap.size, 1, none⟩ = some (.int .i64 u0) := by subst hX1; simp [go_sem]
          have k52 : X1.cell? ⟨wr.heap.size, 2, none⟩ = some (.int .i64 u1) := by subst hX1; simp [go_sem]
          have k53 : X1.cell? ⟨wr.heap.size, 3, none⟩ = some (.int .i64 2) := by subst hX1; simp [go_sem]
          have k54 : X1.cell? ⟨wr.heap.size, 4, none⟩ = some (.int .i64 u3) := by subst hX1; simp [go_sem]
          have K5 : wr.heap.size < X1.heap.size := by subst hX1; simp
          have hS5 := Lib.hid (show X1.heap.size = wr.heap.size + 1 by subst hX1; simp)
          rw [← hX1]
          clear hX1
          replace HD := HD.trans (hb.mono HD.size)
          obtain ⟨hc, hf⟩ := bcell hb
          have hz := hb.size
          replace b00 := (hc _ 0 L0).trans b00
          replace b01 := (hc _ 1 L0).trans b01
          replace b02 := (hc _ 2 L0).trans b02
          replace b03 := (hc _ 3 L0).trans b03
          replace b04 := (hc _ 4 L0).trans b04
          replace b05 := (hc _ 5 L0).trans b05
          replace b06 := (hc _ 6 L0).trans b06
          replace b07 := (hc _ 7 L0).trans b07
          replace b08 := (hc _ 8 L0).trans b08
          replace FV := Lib.hid (RowAt.below FV.out hb)
          replace HT := Lib.hid (Tab.below HT.out hb)
          replace hbl := Lib.hid (hbl.out.trans (hb.mono hbl.out.size))
          replace L0 := Nat.lt_of_lt_of_le L0 hz
          clear hc hf hz hb
          obtain ⟨C5, hC5⟩ : ∃ x, x = wr.heap.size := ⟨_, rfl⟩
          rw [← hC5] at k50 k51 k52 k53 k54 K5
          try rw [← hC5]
          replace hC5 := Lib.hid hC5
          have HBL := hbl.out
          clear HD
          go_wp2_with fail
          refine wp_region_later (by kernel_rfl) (by kernel_rfl) ?_
          repeat (first | go_big_quiet_step ((first | (go_at_call_of 31 (u0); exact later_of _ (C0.out _ (HT.out.below (Later.below _)))) | (go_at_call_of 31 (u1); exact later_of _ (C1.out _ (HT.out.below (Later.below _)))) | (go_at_call_of 31 (u3); exact later_of _ (C2.out _ (HT.out.below (Later.below _)))))) | quiet_step ((first | (go_at_call_of 31 (u0); exact later_of _ (C0.out _ (HT.out.below (Later.below _)))) | (go_at_call_of 31 (u1); exact later_of _ (C1.out _ (HT.out.below (Later.below _)))) | (go_at_call_of 31 (u3); exact later_of _ (C2.out _ (HT.out.below (Later.below _)))))))
          refine wpQuiet_nil ?_
          intro _ hw'
          obtain ⟨sk9, hw''⟩ := hw'
          subst hw''
          have hbk9 := sk9.below
          generalize sk9.w = wk9 at hbk9 ⊢
          clear sk9
          try replace hbk9 := below_trans (by with_reducible assumption) hbk9
          obtain ⟨hck9, hfk9⟩ := bcell hbk9
          have hzk9 := hbk9.size
          try simp at hzk9
          try have hzk90 : w.heap.size ≤ wk9.heap.size := by omega
          try have hzk91 : w.heap.size < wk9.heap.size := by omega
          try have hzk92 : w.heap.size + 1 < wk9.heap.size := by omega
          try have hzk93 : w.heap.size + 1 + 1 < wk9.heap.size := by omega
          try have hzk94 : w.heap.size + 1 + 1 + 1 < wk9.heap.size := by omega
          go_wp2_with fail
          exact ⟨⟨k + 1, by simp, by rw [HN2.out], by omega, by first | exact hbk9 | exact HBL.trans (hbk9.mono HBL.size)⟩, by simp [intOf]; omega⟩
      case neg =>
        have h' : (l.length : Int) ≤ (k : Int) := by omega
        have h'' : ¬ (k : Int) < (l.length : Int) := by omega
        have HC := Lib.hid (show crsB x0 x1 x2 x3 x4 x5 x6 x7 l = marksB x0 x1 x2 x3 l k ++ (⟨#[32, 102, 105, 110, 105, 115, 104, 32]⟩ ++ lineB x4 x5 x6 x7) by unfold crsB; rw [show l.length = k by omega])
        rw [HC.out] at HG
        clear HC
        generalize marksB x0 x1 x2 x3 l k = M at *
        have zfi : (⟨#[32, 102, 105, 110, 105, 115, 104, 32]⟩ : ByteArray).size = 8 := rfl
        go_wp2_with fail
        refine (lineText_c x4 x5 x6 x7 wr sC sD HT.out).mono ?_
        rintro e X2 ⟨rfl, hb⟩
        generalize lineB x4 x5 x6 x7 = LF at *
        replace HD := HD.trans (hb.mono HD.size)
        obtain ⟨hc, hf⟩ := bcell hb
        have hz := hb.size
        replace b00 := (hc _ 0 L0).trans b00
        replace b01 := (hc _ 1 L0).trans b01
        replace b02 := (hc _ 2 L0).trans b02
        replace b03 := (hc _ 3 L0).trans b03
        replace b04 := (hc _ 4 L0).trans b04
        replace b05 := (hc _ 5 L0).trans b05
        replace b06 := (hc _ 6 L0).trans b06
        replace b07 := (hc _ 7 L0).trans b07
        replace b08 := (hc _ 8 L0).trans b08
        replace FV := Lib.hid (RowAt.below FV.out hb)
        replace HT := Lib.hid (Tab.below HT.out hb)
        replace hbl := Lib.hid (hbl.out.trans (hb.mono hbl.out.size))
        replace L0 := Nat.lt_of_lt_of_le L0 hz
        clear hc hf hz hb
        have hsz : (M ++ (⟨#[32, 102, 105, 110, 105, 115, 104, 32]⟩ ++ LF)).size = M.size + (8 + LF.size) := by rw [ByteArray.size_append, ByteArray.size_append, zfi]
        by_cases h9 : M.size + (8 + LF.size) ≤ 1000
        case pos =>
          have HF := Lib.hid (HG.out.trans (if_pos (by rw [hsz]; exact h9)))
          have h10 : ¬ (1000 : Int) < ((M ++ (⟨#[32, 102, 105, 110, 105, 115, 104, 32]⟩ ++ LF)).size : Int) := by rw [hsz]; omega
          replace hsz := Lib.hid hsz
          go_wp2_with fail
          exact bodyPost_ret (v := .string (M ++ (⟨#[32, 102, 105, 110, 105, 115, 104, 32]⟩ ++ LF))) (by simp [results, Tryz.results12, go_sem]) rfl ⟨by rw [HF.out], HD⟩
        case neg =>
          have HF := Lib.hid (HG.out.trans (if_neg (by rw [hsz]; exact h9)))
          have h10 : (1000 : Int) < ((M ++ (⟨#[32, 102, 105, 110, 105, 115, 104, 32]⟩ ++ LF)).size : Int) := by rw [hsz]; omega
          replace hsz := Lib.hid hsz
          go_wp2_with fail
          exact bodyPost_ret (v := .string ⟨#[]⟩) (by simp [results, Tryz.results12, go_sem]) rfl ⟨by rw [HF.out], HD⟩
end

section
set_option linter.unusedVariables false
open Go.RowKit Go.Deep

set_option maxRecDepth 100000 in
set_option maxHeartbeats 8000000 in
theorem l04Text_c (x0 x1 x2 x3 x4 x5 x6 x7 : Int) (a : Option Addr) (cap : Nat) (l : List Mk) (w : World) (hl : l.length ≤ 4611686018427387904) (h : RowAt w a (mflat l)) (hcp : CourseP x0 x1 x2 x3 x4 x5 x6 x7 l) :
    Calls Tryz.prog 33 #[.agg #[.int .i64 x0, .int .i64 x1, .int .i64 x2, .int .i64 x3, .int .i64 x4, .int .i64 x5, .int .i64 x6, .int .i64 x7, .slice a l.length cap]] w fun e w' => e = .returned (.string (crsB x0 x1 x2 x3 x4 x5 x6 x7 l)) ∧ Below w.heap.size w w' := by
  have H0 := Lib.hid h
  clear h
  obtain ⟨hg1, hg2, _, hl8, hmk, _⟩ := hcp
  obtain ⟨sA, sB, _⟩ := isSeg_true hg1
  obtain ⟨sC, sD, _⟩ := isSeg_true hg2
  have HMK := Lib.hid hmk
  have HMZ := Lib.hid (marksB_size (l := l) sA sB hmk)
  have zA := pointT sA
  have zB := pointT sB
  have zC := pointT sC
  have zD := pointT sD
  have HB0 := Lib.hid (show marksB x0 x1 x2 x3 l 0 = ⟨#[115, 116, 97, 114, 116]⟩ ++ pointB x0 x1 ++ pointB x2 x3 from (start_eq x0 x1 x2 x3).symm)
  have HC := Lib.hid (show crsB x0 x1 x2 x3 x4 x5 x6 x7 l = marksB x0 x1 x2 x3 l l.length ++ ⟨#[32, 102, 105, 110, 105, 115, 104]⟩ ++ pointB x4 x5 ++ pointB x6 x7 by rw [fin_eq]; rfl)
  have CA := Lib.hid (fun w => l04Point_c x0 x1 w sA)
  have CB := Lib.hid (fun w => l04Point_c x2 x3 w sB)
  have CC := Lib.hid (fun w => l04Point_c x4 x5 w sC)
  have CD := Lib.hid (fun w => l04Point_c x6 x7 w sD)
  clear hg1 hg2 hmk sA sB sC sD
  generalize pointB x0 x1 = PA at *
  generalize pointB x2 x3 = PB at *
  generalize pointB x4 x5 = PC at *
  generalize pointB x6 x7 = PD at *
  have zst : (⟨#[115, 116, 97, 114, 116]⟩ : ByteArray).size = 5 := rfl
  have zfi : (⟨#[32, 102, 105, 110, 105, 115, 104]⟩ : ByteArray).size = 7 := rfl
  have zmk : (⟨#[32, 109, 97, 114, 107, 32]⟩ : ByteArray).size = 6 := rfl
  go_enter Tryz.func33, Tryz.ntmps33
  go_wp2_with fail
  obtain ⟨W, hW⟩ : ∃ W, W = (w.alloc (.cells #[.int .i64 x0, .int .i64 x1, .int .i64 x2, .int .i64 x3, .int .i64 x4, .int .i64 x5, .int .i64 x6, .int .i64 x7, .slice a l.length cap] 28)) := ⟨_, rfl⟩
  have HD : Below w.heap.size w W := by subst hW; exact (by repeat (first | with_reducible exact Below.refl _ _ | with_reducible assumption | with_reducible refine Below.drew ?_ | with_reducible refine Below.alloc ?_ (by first | exact Nat.le_refl _ | (simp; done) | (simp; omega) | omega) _ | with_reducible refine Below.setCell ?_ (by first | exact Nat.le_refl _ | (simp; done) | (simp; omega) | omega) _ | with_reducible refine Below.trans ?_ (Below.mono (by with_reducible assumption) (by first | exact Nat.le_refl _ | (simp; done) | (simp; omega) | omega))))
  have b00 : W.cell? ⟨w.heap.size, 0, none⟩ = some (.int .i64 x0) := by subst hW; simp [go_sem]
  have b01 : W.cell? ⟨w.heap.size, 1, none⟩ = some (.int .i64 x1) := by subst hW; simp [go_sem]
  have b02 : W.cell? ⟨w.heap.size, 2, none⟩ = some (.int .i64 x2) := by subst hW; simp [go_sem]
  have b03 : W.cell? ⟨w.heap.size, 3, none⟩ = some (.int .i64 x3) := by subst hW; simp [go_sem]
  have b04 : W.cell? ⟨w.heap.size, 4, none⟩ = some (.int .i64 x4) := by subst hW; simp [go_sem]
  have b05 : W.cell? ⟨w.heap.size, 5, none⟩ = some (.int .i64 x5) := by subst hW; simp [go_sem]
  have b06 : W.cell? ⟨w.heap.size, 6, none⟩ = some (.int .i64 x6) := by subst hW; simp [go_sem]
  have b07 : W.cell? ⟨w.heap.size, 7, none⟩ = some (.int .i64 x7) := by subst hW; simp [go_sem]
  have b08 : W.cell? ⟨w.heap.size, 8, none⟩ = some (.slice a l.length cap) := by subst hW; simp [go_sem]
  have L0 : w.heap.size < W.heap.size := by subst hW; first | (simp; done) | (simp; omega)
  rw [← hW]
  clear hW
  obtain ⟨B0, hB0⟩ : ∃ B, B = w.heap.size := ⟨_, rfl⟩
  rw [← hB0] at b00 b01 b02 b03 b04 b05 b06 b07 b08 L0
  try rw [← hB0]
  replace hB0 := Lib.hid hB0
  have FV := Lib.hid (H0.out.below HD)
  clear H0
  have HDW := HD
  refine wp_region_later (by kernel_rfl) (by kernel_rfl) ?_
  repeat (first | go_big_quiet_step ((first | (go_at_call_of 55 (x0); exact later_of _ (CA.out _)) | (go_at_call_of 55 (x2); exact later_of _ (CB.out _)))) | quiet_step ((first | (go_at_call_of 55 (x0); exact later_of _ (CA.out _)) | (go_at_call_of 55 (x2); exact later_of _ (CB.out _)))))
  refine wpQuiet_nil ?_
  intro _ hw'
  obtain ⟨s1, hw''⟩ := hw'
  subst hw''
  have hb := s1.below
  generalize s1.w = V1 at hb ⊢
  clear s1
  clear CA CB
  replace HD := HD.trans (hb.mono HD.size)
  obtain ⟨hc, hf⟩ := bcell hb
  have hz := hb.size
  replace b00 := (hc _ 0 L0).trans b00
  replace b01 := (hc _ 1 L0).trans b01
  replace b02 := (hc _ 2 L0).trans b02
  replace b03 := (hc _ 3 L0).trans b03
  replace b04 := (hc _ 4 L0).trans b04
  replace b05 := (hc _ 5 L0).trans b05
  replace b06 := (hc _ 6 L0).trans b06
  replace b07 := (hc _ 7 L0).trans b07
  replace b08 := (hc _ 8 L0).trans b08
  replace FV := Lib.hid (RowAt.below FV.out hb)
  replace L0 := Nat.lt_of_lt_of_le L0 hz
  clear hc hf hz hb
  go_wp2_with fail
  go_loopw [3, 4] (fun s i wr => ∃ k : Nat, i = .int .i64 (k : Int) ∧ s = .string (marksB x0 x1 x2 x3 l k) ∧ k ≤ l.length ∧ Below V1.heap.size V1 wr) (fun _ i _ => l.length - (intOf i).toNat)
  case atStart => exact ⟨0, rfl, by rw [HB0.out], Nat.zero_le _, Below.refl _ _⟩
  case round =>
    obtain ⟨k, rfl, rfl, hk, hbl⟩ := hrel
    have hb := hbl
    replace HD := HD.trans (hb.mono HD.size)
    obtain ⟨hc, hf⟩ := bcell hb
    have hz := hb.size
    replace b00 := (hc _ 0 L0).trans b00
    replace b01 := (hc _ 1 L0).trans b01
    replace b02 := (hc _ 2 L0).trans b02
    replace b03 := (hc _ 3 L0).trans b03
    replace b04 := (hc _ 4 L0).trans b04
    replace b05 := (hc _ 5 L0).trans b05
    replace b06 := (hc _ 6 L0).trans b06
    replace b07 := (hc _ 7 L0).trans b07
    replace b08 := (hc _ 8 L0).trans b08
    replace FV := Lib.hid (RowAt.below FV.out hb)
    replace L0 := Nat.lt_of_lt_of_le L0 hz
    clear hc hf hz hb
    replace hbl := Lib.hid hbl
    have hMz := HMZ.out k hk
    by_cases h : k < l.length
    case pos =>
      have h' : (k : Int) < (l.length : Int) := by omega
      obtain ⟨b, off, rfl, hlt, d0, d1, d2, d3, d4⟩ := mark_cell FV.out h
      have HN := Lib.hid (show marksB x0 x1 x2 x3 l (k + 1) = marksB x0 x1 x2 x3 l k ++ ⟨#[32, 109, 97, 114, 107, 32]⟩ ++ (mk l k).name ++ pointB (mk l k).x (mk l k).y ++ sideB (mk l k).s ++ sgB (mk l k).z by rw [mark_eq]; rfl)
      obtain ⟨n8, hp, hsd, z1, z2⟩ := mkT (HMK.out k h).1
      generalize marksB x0 x1 x2 x3 l k = M at *
      generalize mk l k = m at *
      obtain ⟨n0, u0, u1, u2, u3⟩ := m
      dsimp only at d0 d1 d2 d3 d4 n8 hp hsd z1 z2
      have zP := pointT hp
      have CP := Lib.hid (fun w => l04Point_c u0 u1 w hp)
      obtain ⟨zz, rfl⟩ : ∃ zz : Nat, u3 = (zz : Int) := ⟨u3.toNat, by omega⟩
      have CZ := Lib.hid (fun w => l01Number_c zz w (by omega))
      have q2 := dgB_size (n := zz) (by omega)
      dsimp only at HN
      rw [sgB_nat] at HN
      clear hp z1 z2
      generalize pointB u0 u1 = PP at *
      generalize dgB zz = SZ at *
      rcases hsd with rfl | rfl
      case inl =>
        have HN2 := Lib.hid (HN.out.trans (show M ++ ⟨#[32, 109, 97, 114, 107, 32]⟩ ++ n0 ++ PP ++ sideB 1 ++ SZ = M ++ ⟨#[32, 109, 97, 114, 107, 32]⟩ ++ n0 ++ PP ++ ⟨#[32, 112, 111, 114, 116, 32]⟩ ++ SZ from rfl))
        have zsd : (⟨#[32, 112, 111, 114, 116, 32]⟩ : ByteArray).size = 6 := rfl
        clear HN
        go_wp2_with fail
        obtain ⟨X1, hX1⟩ : ∃ x, x = wr.alloc (.cells #[.string n0, .int .i64 u0, .int .i64 u1, .int .i64 1, .int .i64 (zz : Int)] 47) := ⟨_, rfl⟩
        have hb : Below wr.heap.size wr X1 := by subst hX1; exact (Below.refl _ _).alloc (Nat.le_refl _) _
        have k50 : X1.cell? ⟨wr.heap.size, 0, none⟩ = some (.string n0) := by subst hX1; simp [go_sem]
        have k51 : X1.cell? ⟨wr.heap.size, 1, none⟩ = some (.int .i64 u0) := by subst hX1; simp [go_sem]
        have k52 : X1.cell? ⟨wr.heap.size, 2, none⟩ = some (.int .i64 u1) := by subst hX1; simp [go_sem]
        have k53 : X1.cell? ⟨wr.heap.size, 3, none⟩ = some (.int .i64 1) := by subst hX1; simp [go_sem]
        have k54 : X1.cell? ⟨wr.heap.size, 4, none⟩ = some (.int .i64 (zz : Int)) := by subst hX1; simp [go_sem]
        have K5 : wr.heap.size < X1.heap.size := by subst hX1; simp
        have hS5 := Lib.hid (show X1.heap.size = wr.heap.size + 1 by subst hX1; simp)
        rw [← hX1]
        clear hX1
        replace HD := HD.trans (hb.mono HD.size)
        obtain ⟨hc, hf⟩ := bcell hb
        have hz := hb.size
        replace b00 := (hc _ 0 L0).trans b00
        replace b01 := (hc _ 1 L0).trans b01
        replace b02 := (hc _ 2 L0).trans b02
        replace b03 := (hc _ 3 L0).trans b03
        replace b04 := (hc _ 4 L0).trans b04
        replace b05 := (hc _ 5 L0).trans b05
        replace b06 := (hc _ 6 L0).trans b06
        replace b07 := (hc _ 7 L0).trans b07
        replace b08 := (hc _ 8 L0).trans b08
        replace FV := Lib.hid (RowAt.below FV.out hb)
        replace hbl := Lib.hid (hbl.out.trans (hb.mono hbl.out.size))
        replace L0 := Nat.lt_of_lt_of_le L0 hz
        clear hc hf hz hb
        obtain ⟨C5, hC5⟩ : ∃ x, x = wr.heap.size := ⟨_, rfl⟩
        rw [← hC5] at k50 k51 k52 k53 k54 K5
        try rw [← hC5]
        replace hC5 := Lib.hid hC5
        have HBL := hbl.out
        clear HD
        have hw0 : IntKind.i64.wrap 0 = 0 := by decide
        have hw1 : IntKind.i64.wrap 1 = 1 := by decide
        have hwa : IntKind.i64.wrap (1 - 1) = 0 := by decide
        have hwb : IntKind.i64.wrap (2 - 1) = 1 := by decide
        have e0a : ¬ (9223372036854775807 < (M : ByteArray).size + (⟨#[32, 109, 97, 114, 107, 32]⟩ : ByteArray).size) := by (try simp only [ByteArray.size_append]); omega
        have e0b : ¬ (9223372036854775807 < M.size + 6) := by omega
        have e0c : ¬ (9223372036854775807 < (M : ByteArray).size + 6) := by (try simp only [ByteArray.size_append]); omega
        have e1a : ¬ (9223372036854775807 < (M ++ ⟨#[32, 109, 97, 114, 107, 32]⟩ : ByteArray).size + (n0 : ByteArray).size) := by (try simp only [ByteArray.size_append]); omega
        have e1b : ¬ (9223372036854775807 < M.size + 6 + n0.size) := by omega
        have e1c : ¬ (9223372036854775807 < (M ++ ⟨#[32, 109, 97, 114, 107, 32]⟩ : ByteArray).size + n0.size) := by (try simp only [ByteArray.size_append]); omega
        have e2a : ¬ (9223372036854775807 < (M ++ ⟨#[32, 109, 97, 114, 107, 32]⟩ ++ n0 : ByteArray).size + (PP : ByteArray).size) := by (try simp only [ByteArray.size_append]); omega
        have e2b : ¬ (9223372036854775807 < M.size + 6 + n0.size + PP.size) := by omega
        have e2c : ¬ (9223372036854775807 < (M ++ ⟨#[32, 109, 97, 114, 107, 32]⟩ ++ n0 : ByteArray).size + PP.size) := by (try simp only [ByteArray.size_append]); omega
        have e3a : ¬ (9223372036854775807 < (M ++ ⟨#[32, 109, 97, 114, 107, 32]⟩ ++ n0 ++ PP : ByteArray).size + (⟨#[32, 112, 111, 114, 116, 32]⟩ : ByteArray).size) := by (try simp only [ByteArray.size_append]); omega
        have e3b : ¬ (9223372036854775807 < M.size + 6 + n0.size + PP.size + 6) := by omega
        have e3c : ¬ (9223372036854775807 < (M ++ ⟨#[32, 109, 97, 114, 107, 32]⟩ ++ n0 ++ PP : ByteArray).size + 6) := by (try simp only [ByteArray.size_append]); omega
        have e4a : ¬ (9223372036854775807 < (M ++ ⟨#[32, 109, 97, 114, 107, 32]⟩ ++ n0 ++ PP ++ ⟨#[32, 112, 111, 114, 116, 32]⟩ : ByteArray).size + (SZ : ByteArray).size) := by (try simp only [ByteArray.size_append]); omega
        have e4b : ¬ (9223372036854775807 < M.size + 6 + n0.size + PP.size + 6 + SZ.size) := by omega
        have e4c : ¬ (9223372036854775807 < (M ++ ⟨#[32, 109, 97, 114, 107, 32]⟩ ++ n0 ++ PP ++ ⟨#[32, 112, 111, 114, 116, 32]⟩ : ByteArray).size + SZ.size) := by (try simp only [ByteArray.size_append]); omega
        go_wp2_with fail
        rw [show Op.load 9 (Operand.tmp 41) = id (Op.load 9 (Operand.tmp 41)) from rfl]
        go_region_held3 (fun wx => Below X1.heap.size X1 wx ∧ ∀ b o, b < X1.heap.size → wx.cell? ⟨b, o, none⟩ = X1.cell? ⟨b, o, none⟩)
          (repeat (first | with_reducible assumption | with_reducible exact held_step (by assumption) hb | with_reducible refine held_alloc ?_ _ | with_reducible exact held_start _ _ | with_reducible exact held_begin _))
          (first | (go_at_call 55; refine (CP.out _).mono ?_; rintro e wp ⟨rfl, hb⟩; have hz := held_size (by with_reducible assumption) hb; (try simp at hz); have hs := hb.size; (try simp at hs); obtain ⟨hc, hf⟩ := bcell hb; (try (have eY := hc X1.heap.size 0 (by first | omega | (simp; done) | (simp; omega)); (try simp [go_sem] at eY); (try rw [eX] at eY); have eX := eY)); (try (have eZ := hc wn.heap.size 0 (by first | omega | (simp; done) | (simp; omega)); (try simp [go_sem] at eZ)))) | (go_at_call 49; refine (CZ.out _).mono ?_; rintro e wn ⟨rfl, hb⟩; have hz := held_size (by with_reducible assumption) hb; (try simp at hz); have hs := hb.size; (try simp at hs); obtain ⟨hc, hf⟩ := bcell hb; (try (have eY := hc X1.heap.size 0 (by first | omega | (simp; done) | (simp; omega)); (try simp [go_sem] at eY); (try rw [eX] at eY); have eX := eY)); (try (have eZ := hc wp.heap.size 0 (by first | omega | (simp; done) | (simp; omega)); (try simp [go_sem] at eZ)))))
        all_goals go_wp2_with fail
        all_goals exact ⟨⟨k + 1, by simp, by rw [HN2.out], by omega, (by refine HBL.trans (Below.mono ?_ HBL.size); exact And.left (by with_reducible assumption))⟩, by simp [intOf]; omega⟩
      case inr =>
        have HN2 := Lib.hid (HN.out.trans (show M ++ ⟨#[32, 109, 97, 114, 107, 32]⟩ ++ n0 ++ PP ++ sideB 2 ++ SZ = M ++ ⟨#[32, 109, 97, 114, 107, 32]⟩ ++ n0 ++ PP ++ ⟨#[32, 115, 116, 97, 114, 98, 111, 97, 114, 100, 32]⟩ ++ SZ from rfl))
        have zsd : (⟨#[32, 115, 116, 97, 114, 98, 111, 97, 114, 100, 32]⟩ : ByteArray).size = 11 := rfl
        clear HN
        go_wp2_with fail
        obtain ⟨X1, hX1⟩ : ∃ x, x = wr.alloc (.cells #[.string n0, .int .i64 u0, .int .i64 u1, .int .i64 2, .int .i64 (zz : Int)] 47) := ⟨_, rfl⟩
        have hb : Below wr.heap.size wr X1 := by subst hX1; exact (Below.refl _ _).alloc (Nat.le_refl _) _
        have k50 : X1.cell? ⟨wr.heap.size, 0, none⟩ = some (.string n0) := by subst hX1; simp [go_sem]
        have k51 : X1.cell? ⟨wr.heap.size, 1, none⟩ = some (.int .i64 u0) := by subst hX1; simp [go_sem]
        have k52 : X1.cell? ⟨wr.heap.size, 2, none⟩ = some (.int .i64 u1) := by subst hX1; simp [go_sem]
        have k53 : X1.cell? ⟨wr.heap.size, 3, none⟩ = some (.int .i64 2) := by subst hX1; simp [go_sem]
        have k54 : X1.cell? ⟨wr.heap.size, 4, none⟩ = some (.int .i64 (zz : Int)) := by subst hX1; simp [go_sem]
        have K5 : wr.heap.size < X1.heap.size := by subst hX1; simp
        have hS5 := Lib.hid (show X1.heap.size = wr.heap.size + 1 by subst hX1; simp)
        rw [← hX1]
        clear hX1
        replace HD := HD.trans (hb.mono HD.size)
        obtain ⟨hc, hf⟩ := bcell hb
        have hz := hb.size
        replace b00 := (hc _ 0 L0).trans b00
        replace b01 := (hc _ 1 L0).trans b01
        replace b02 := (hc _ 2 L0).trans b02
        replace b03 := (hc _ 3 L0).trans b03
        replace b04 := (hc _ 4 L0).trans b04
        replace b05 := (hc _ 5 L0).trans b05
        replace b06 := (hc _ 6 L0).trans b06
        replace b07 := (hc _ 7 L0).trans b07
        replace b08 := (hc _ 8 L0).trans b08
        replace FV := Lib.hid (RowAt.below FV.out hb)
        replace hbl := Lib.hid (hbl.out.trans (hb.mono hbl.out.size))
        replace L0 := Nat.lt_of_lt_of_le L0 hz
        clear hc hf hz hb
        obtain ⟨C5, hC5⟩ : ∃ x, x = wr.heap.size := ⟨_, rfl⟩
        rw [← hC5] at k50 k51 k52 k53 k54 K5
        try rw [← hC5]
        replace hC5 := Lib.hid hC5
        have HBL := hbl.out
        clear HD
        have hw0 : IntKind.i64.wrap 0 = 0 := by decide
        have hw1 : IntKind.i64.wrap 1 = 1 := by decide
        have hwa : IntKind.i64.wrap (1 - 1) = 0 := by decide
        have hwb : IntKind.i64.wrap (2 - 1) = 1 := by decide
        have e0a : ¬ (9223372036854775807 < (M : ByteArray).size + (⟨#[32, 109, 97, 114, 107, 32]⟩ : ByteArray).size) := by (try simp only [ByteArray.size_append]); omega
        have e0b : ¬ (9223372036854775807 < M.size + 6) := by omega
        have e0c : ¬ (9223372036854775807 < (M : ByteArray).size + 6) := by (try simp only [ByteArray.size_append]); omega
        have e1a : ¬ (9223372036854775807 < (M ++ ⟨#[32, 109, 97, 114, 107, 32]⟩ : ByteArray).size + (n0 : ByteArray).size) := by (try simp only [ByteArray.size_append]); omega
        have e1b : ¬ (9223372036854775807 < M.size + 6 + n0.size) := by omega
        have e1c : ¬ (9223372036854775807 < (M ++ ⟨#[32, 109, 97, 114, 107, 32]⟩ : ByteArray).size + n0.size) := by (try simp only [ByteArray.size_append]); omega
        have e2a : ¬ (9223372036854775807 < (M ++ ⟨#[32, 109, 97, 114, 107, 32]⟩ ++ n0 : ByteArray).size + (PP : ByteArray).size) := by (try simp only [ByteArray.size_append]); omega
        have e2b : ¬ (9223372036854775807 < M.size + 6 + n0.size + PP.size) := by omega
        have e2c : ¬ (9223372036854775807 < (M ++ ⟨#[32, 109, 97, 114, 107, 32]⟩ ++ n0 : ByteArray).size + PP.size) := by (try simp only [ByteArray.size_append]); omega
        have e3a : ¬ (9223372036854775807 < (M ++ ⟨#[32, 109, 97, 114, 107, 32]⟩ ++ n0 ++ PP : ByteArray).size + (⟨#[32, 115, 116, 97, 114, 98, 111, 97, 114, 100, 32]⟩ : ByteArray).size) := by (try simp only [ByteArray.size_append]); omega
        have e3b : ¬ (9223372036854775807 < M.size + 6 + n0.size + PP.size + 11) := by omega
        have e3c : ¬ (9223372036854775807 < (M ++ ⟨#[32, 109, 97, 114, 107, 32]⟩ ++ n0 ++ PP : ByteArray).size + 11) := by (try simp only [ByteArray.size_append]); omega
        have e4a : ¬ (9223372036854775807 < (M ++ ⟨#[32, 109, 97, 114, 107, 32]⟩ ++ n0 ++ PP ++ ⟨#[32, 115, 116, 97, 114, 98, 111, 97, 114, 100, 32]⟩ : ByteArray).size + (SZ : ByteArray).size) := by (try simp only [ByteArray.size_append]); omega
        have e4b : ¬ (9223372036854775807 < M.size + 6 + n0.size + PP.size + 11 + SZ.size) := by omega
        have e4c : ¬ (9223372036854775807 < (M ++ ⟨#[32, 109, 97, 114, 107, 32]⟩ ++ n0 ++ PP ++ ⟨#[32, 115, 116, 97, 114, 98, 111, 97, 114, 100, 32]⟩ : ByteArray).size + SZ.size) := by (try simp only [ByteArray.size_append]); omega
        go_wp2_with fail
        rw [show Op.load 9 (Operand.tmp 41) = id (Op.load 9 (Operand.tmp 41)) from rfl]
        go_region_held3 (fun wx => Below X1.heap.size X1 wx ∧ ∀ b o, b < X1.heap.size → wx.cell? ⟨b, o, none⟩ = X1.cell? ⟨b, o, none⟩)
          (repeat (first | with_reducible assumption | with_reducible exact held_step (by assumption) hb | with_reducible refine held_alloc ?_ _ | with_reducible exact held_start _ _ | with_reducible exact held_begin _))
          (first | (go_at_call 55; refine (CP.out _).mono ?_; rintro e wp ⟨rfl, hb⟩; have hz := held_size (by with_reducible assumption) hb; (try simp at hz); have hs := hb.size; (try simp at hs); obtain ⟨hc, hf⟩ := bcell hb; (try (have eY := hc X1.heap.size 1 (by first | omega | (simp; done) | (simp; omega)); (try simp [go_sem] at eY); (try rw [eX] at eY); have eX := eY)); (try (have eZ := hc wn.heap.size 1 (by first | omega | (simp; done) | (simp; omega)); (try simp [go_sem] at eZ)))) | (go_at_call 49; refine (CZ.out _).mono ?_; rintro e wn ⟨rfl, hb⟩; have hz := held_size (by with_reducible assumption) hb; (try simp at hz); have hs := hb.size; (try simp at hs); obtain ⟨hc, hf⟩ := bcell hb; (try (have eY := hc X1.heap.size 1 (by first | omega | (simp; done) | (simp; omega)); (try simp [go_sem] at eY); (try rw [eX] at eY); have eX := eY)); (try (have eZ := hc wp.heap.size 1 (by first | omega | (simp; done) | (simp; omega)); (try simp [go_sem] at eZ)))))
        all_goals go_wp2_with fail
        all_goals exact ⟨⟨k + 1, by simp, by rw [HN2.out], by omega, (by refine HBL.trans (Below.mono ?_ HBL.size); exact And.left (by with_reducible assumption))⟩, by simp [intOf]; omega⟩
    case neg =>
      have h' : (l.length : Int) ≤ (k : Int) := by omega
      have h'' : ¬ (k : Int) < (l.length : Int) := by omega
      rw [show l.length = k by omega] at HC
      generalize marksB x0 x1 x2 x3 l k = M at *
      go_wp2_with fail
      refine wp_region_later (by kernel_rfl) (by kernel_rfl) ?_
      repeat (first | go_big_quiet_step ((first | (go_at_call_of 55 (x4); exact later_of _ (CC.out _)) | (go_at_call_of 55 (x6); exact later_of _ (CD.out _)))) | quiet_step ((first | (go_at_call_of 55 (x4); exact later_of _ (CC.out _)) | (go_at_call_of 55 (x6); exact later_of _ (CD.out _)))))
      refine wpQuiet_nil ?_
      intro _ hw'
      obtain ⟨sk9, hw''⟩ := hw'
      subst hw''
      have hbk9 := sk9.below
      generalize sk9.w = wk9 at hbk9 ⊢
      clear sk9
      try replace hbk9 := below_trans (by with_reducible assumption) hbk9
      obtain ⟨hck9, hfk9⟩ := bcell hbk9
      have hzk9 := hbk9.size
      try simp at hzk9
      try have hzk90 : w.heap.size ≤ wk9.heap.size := by omega
      try have hzk91 : w.heap.size < wk9.heap.size := by omega
      try have hzk92 : w.heap.size + 1 < wk9.heap.size := by omega
      try have hzk93 : w.heap.size + 1 + 1 < wk9.heap.size := by omega
      try have hzk94 : w.heap.size + 1 + 1 + 1 < wk9.heap.size := by omega
      go_wp2_with fail
      exact bodyPost_ret (v := .string (M ++ ⟨#[32, 102, 105, 110, 105, 115, 104]⟩ ++ PC ++ PD)) (by simp [results, Tryz.results33, go_sem]) rfl ⟨by rw [HC.out], by first | exact hbk9 | exact HD.trans (hbk9.mono HD.size)⟩
end

section
set_option linter.unusedVariables false
open Go.RowKit Go.Deep

set_option maxRecDepth 100000 in
set_option maxHeartbeats 4000000 in
theorem CourseTextS_c (x0 x1 x2 x3 x4 x5 x6 x7 : Int) (a : Option Addr) (cap : Nat) (l : List Mk) (w : World) (hl : l.length ≤ 4611686018427387904) (h : RowAt w a (mflat l)) (hs : ∀ i, i < l.length → (mk l i).name.size ≤ maxLen) :
    Calls Tryz.prog 13 #[.agg #[.int .i64 x0, .int .i64 x1, .int .i64 x2, .int .i64 x3, .int .i64 x4, .int .i64 x5, .int .i64 x6, .int .i64 x7, .slice a l.length cap]] w fun e w' => e = .returned (.string (ctR x0 x1 x2 x3 x4 x5 x6 x7 l)) ∧ Below w.heap.size w w' := by
  have H0 := Lib.hid h
  have HS := Lib.hid hs
  clear h hs
  go_enter Tryz.func13, Tryz.ntmps13
  go_wp2_with fail
  obtain ⟨W, hW⟩ : ∃ W, W = (w.alloc (.cells #[.int .i64 x0, .int .i64 x1, .int .i64 x2, .int .i64 x3, .int .i64 x4, .int .i64 x5, .int .i64 x6, .int .i64 x7, .slice a l.length cap] 28)) := ⟨_, rfl⟩
  have HD : Below w.heap.size w W := by subst hW; exact (by repeat (first | with_reducible exact Below.refl _ _ | with_reducible assumption | with_reducible refine Below.drew ?_ | with_reducible refine Below.alloc ?_ (by first | exact Nat.le_refl _ | (simp; done) | (simp; omega) | omega) _ | with_reducible refine Below.setCell ?_ (by first | exact Nat.le_refl _ | (simp; done) | (simp; omega) | omega) _ | with_reducible refine Below.trans ?_ (Below.mono (by with_reducible assumption) (by first | exact Nat.le_refl _ | (simp; done) | (simp; omega) | omega))))
  have b00 : W.cell? ⟨w.heap.size, 0, none⟩ = some (.int .i64 x0) := by subst hW; simp [go_sem]
  have b01 : W.cell? ⟨w.heap.size, 1, none⟩ = some (.int .i64 x1) := by subst hW; simp [go_sem]
  have b02 : W.cell? ⟨w.heap.size, 2, none⟩ = some (.int .i64 x2) := by subst hW; simp [go_sem]
  have b03 : W.cell? ⟨w.heap.size, 3, none⟩ = some (.int .i64 x3) := by subst hW; simp [go_sem]
  have b04 : W.cell? ⟨w.heap.size, 4, none⟩ = some (.int .i64 x4) := by subst hW; simp [go_sem]
  have b05 : W.cell? ⟨w.heap.size, 5, none⟩ = some (.int .i64 x5) := by subst hW; simp [go_sem]
  have b06 : W.cell? ⟨w.heap.size, 6, none⟩ = some (.int .i64 x6) := by subst hW; simp [go_sem]
  have b07 : W.cell? ⟨w.heap.size, 7, none⟩ = some (.int .i64 x7) := by subst hW; simp [go_sem]
  have b08 : W.cell? ⟨w.heap.size, 8, none⟩ = some (.slice a l.length cap) := by subst hW; simp [go_sem]
  have L0 : w.heap.size < W.heap.size := by subst hW; first | (simp; done) | (simp; omega)
  rw [← hW]
  clear hW
  obtain ⟨B0, hB0⟩ : ∃ B, B = w.heap.size := ⟨_, rfl⟩
  rw [← hB0] at b00 b01 b02 b03 b04 b05 b06 b07 b08 L0
  try rw [← hB0]
  replace hB0 := Lib.hid hB0
  have FV := Lib.hid (H0.out.below HD)
  clear H0
  have cc := IsCourseS_c x0 x1 x2 x3 x4 x5 x6 x7 a cap l W hl FV.out HS.out
  cases e : courseOK x0 x1 x2 x3 x4 x5 x6 x7 l
  case false =>
    have HF := Lib.hid (show ctR x0 x1 x2 x3 x4 x5 x6 x7 l = ⟨#[]⟩ by unfold ctR; rw [if_neg (by rw [e]; decide)])
    rw [e] at cc
    clear e
    refine (cc).mono ?_
    rintro e V1 ⟨rfl, hb⟩
    clear cc
    replace HD := HD.trans (hb.mono HD.size)
    obtain ⟨hc, hf⟩ := bcell hb
    have hz := hb.size
    replace b00 := (hc _ 0 L0).trans b00
    replace b01 := (hc _ 1 L0).trans b01
    replace b02 := (hc _ 2 L0).trans b02
    replace b03 := (hc _ 3 L0).trans b03
    replace b04 := (hc _ 4 L0).trans b04
    replace b05 := (hc _ 5 L0).trans b05
    replace b06 := (hc _ 6 L0).trans b06
    replace b07 := (hc _ 7 L0).trans b07
    replace b08 := (hc _ 8 L0).trans b08
    replace FV := Lib.hid (RowAt.below FV.out hb)
    replace L0 := Nat.lt_of_lt_of_le L0 hz
    clear hc hf hz hb
    go_wp2_with fail
    exact bodyPost_ret (v := .string ⟨#[]⟩) (by simp [results, Tryz.results13, go_sem]) rfl ⟨by rw [HF.out], HD⟩
  case true =>
    have HG := Lib.hid (show ctR x0 x1 x2 x3 x4 x5 x6 x7 l = if (crsB x0 x1 x2 x3 x4 x5 x6 x7 l).size ≤ 1000 then crsB x0 x1 x2 x3 x4 x5 x6 x7 l else ⟨#[]⟩ by unfold ctR; rw [if_pos e])
    have hcp := courseOK_true e
    rw [e] at cc
    clear e
    refine (cc).mono ?_
    rintro e V1 ⟨rfl, hb⟩
    clear cc
    replace HD := HD.trans (hb.mono HD.size)
    obtain ⟨hc, hf⟩ := bcell hb
    have hz := hb.size
    replace b00 := (hc _ 0 L0).trans b00
    replace b01 := (hc _ 1 L0).trans b01
    replace b02 := (hc _ 2 L0).trans b02
    replace b03 := (hc _ 3 L0).trans b03
    replace b04 := (hc _ 4 L0).trans b04
    replace b05 := (hc _ 5 L0).trans b05
    replace b06 := (hc _ 6 L0).trans b06
    replace b07 := (hc _ 7 L0).trans b07
    replace b08 := (hc _ 8 L0).trans b08
    replace FV := Lib.hid (RowAt.below FV.out hb)
    replace L0 := Nat.lt_of_lt_of_le L0 hz
    clear hc hf hz hb
    go_wp2_with fail
    refine (l04Text_c x0 x1 x2 x3 x4 x5 x6 x7 a cap l V1 hl FV.out hcp).mono ?_
    rintro e V2 ⟨rfl, hb⟩
    generalize crsB x0 x1 x2 x3 x4 x5 x6 x7 l = R at *
    replace HD := HD.trans (hb.mono HD.size)
    obtain ⟨hc, hf⟩ := bcell hb
    have hz := hb.size
    replace b00 := (hc _ 0 L0).trans b00
    replace b01 := (hc _ 1 L0).trans b01
    replace b02 := (hc _ 2 L0).trans b02
    replace b03 := (hc _ 3 L0).trans b03
    replace b04 := (hc _ 4 L0).trans b04
    replace b05 := (hc _ 5 L0).trans b05
    replace b06 := (hc _ 6 L0).trans b06
    replace b07 := (hc _ 7 L0).trans b07
    replace b08 := (hc _ 8 L0).trans b08
    replace FV := Lib.hid (RowAt.below FV.out hb)
    replace L0 := Nat.lt_of_lt_of_le L0 hz
    clear hc hf hz hb
    by_cases h9 : R.size ≤ 1000
    case pos =>
      have HF := Lib.hid (HG.out.trans (if_pos h9))
      have h10 : ¬ (1000 : Int) < (R.size : Int) := by omega
      go_wp2_with fail
      exact bodyPost_ret (v := .string R) (by simp [results, Tryz.results13, go_sem]) rfl ⟨by rw [HF.out], HD⟩
    case neg =>
      have HF := Lib.hid (HG.out.trans (if_neg h9))
      have h10 : (1000 : Int) < (R.size : Int) := by omega
      go_wp2_with fail
      exact bodyPost_ret (v := .string ⟨#[]⟩) (by simp [results, Tryz.results13, go_sem]) rfl ⟨by rw [HF.out], HD⟩
end
end Go.Proofs.YtjgndfphbmkhaaaGreatDoor
