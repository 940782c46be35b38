/-
  The rounding line of a course's mark, both sides. Conditions: where its marks lie.
-/
import Derived.Test.YtbeigoejdckpiaaDoorCrsJ
namespace Go.Proofs.YtbeigoejdckpiaaDoor
set_option linter.unusedVariables false
open Go.RowKit Go.Deep

def rdS (r : Int × Int × Int × Int) : (Int × Int × Int × Int) × Int := if isSeg r.1 r.2.1 r.2.2.1 r.2.2.2 = true then (r, 0) else ((0, 0, 0, 0), 2)
noncomputable def rdR (x0 x1 x2 x3 x4 x5 x6 x7 : Int) (l : List Mk) (k : Int) : (Int × Int × Int × Int) × Int := if courseOK x0 x1 x2 x3 x4 x5 x6 x7 l = true then (if inR k 0 ((l.length : Int) - 1) = true then rdS (rlAt x0 x1 x2 x3 x4 x5 x6 x7 l k.toNat) else ((0, 0, 0, 0), 4)) else ((0, 0, 0, 0), 1)
set_option maxRecDepth 100000 in
set_option maxHeartbeats 4000000 in
theorem RoundingLine_c (x0 x1 x2 x3 x4 x5 x6 x7 : Int) (a : Option Addr) (cap : Nat) (l : List Mk) (k : Int) (w : World) (hl : l.length ≤ 4611686018427387904) (h : RowAt w a (mflat l)) (hs : ∀ i, i < l.length → (mk l i).name.size ≤ maxLen) (hcap : l.length ≤ cap) :
    Calls Tryd.prog 38 #[.agg #[.int .i64 x0, .int .i64 x1, .int .i64 x2, .int .i64 x3, .int .i64 x4, .int .i64 x5, .int .i64 x6, .int .i64 x7, .slice a l.length cap], .int .i64 k] w fun e w' => e = .returned (.tuple #[.agg #[.int .i64 (rdR x0 x1 x2 x3 x4 x5 x6 x7 l k).1.1, .int .i64 (rdR x0 x1 x2 x3 x4 x5 x6 x7 l k).1.2.1, .int .i64 (rdR x0 x1 x2 x3 x4 x5 x6 x7 l k).1.2.2.1, .int .i64 (rdR x0 x1 x2 x3 x4 x5 x6 x7 l k).1.2.2.2], .int .i64 (rdR x0 x1 x2 x3 x4 x5 x6 x7 l k).2]) ∧ Below w.heap.size w w' := by
  have H0 := Lib.hid h
  have HS := Lib.hid hs
  clear h hs
  go_enter Tryd.func38, Tryd.ntmps38
  go_wp2_with fail
  obtain ⟨W, hW⟩ : ∃ W, W = ((w.alloc (.cells #[.int .i64 x0, .int .i64 x1, .int .i64 x2, .int .i64 x3, .int .i64 x4, .int .i64 x5, .int .i64 x6, .int .i64 x7, .slice a l.length cap] 36)).alloc (.cells #[.int .i64 0, .int .i64 0, .int .i64 0, .int .i64 0] 33)) := ⟨_, rfl⟩
  have HD : Below w.heap.size w W := by subst hW; exact (by repeat (first | with_reducible exact Below.refl _ _ | with_reducible assumption | with_reducible refine Below.drew ?_ | with_reducible refine Below.alloc ?_ (by first | exact Nat.le_refl _ | (simp; done) | (simp; omega) | omega) _ | with_reducible refine Below.setCell ?_ (by first | exact Nat.le_refl _ | (simp; done) | (simp; omega) | omega) _ | with_reducible refine Below.trans ?_ (Below.mono (by with_reducible assumption) (by first | exact Nat.le_refl _ | (simp; done) | (simp; omega) | omega))))
  have b00 : W.cell? ⟨w.heap.size, 0, none⟩ = some (.int .i64 x0) := by subst hW; simp [go_sem]
  have b01 : W.cell? ⟨w.heap.size, 1, none⟩ = some (.int .i64 x1) := by subst hW; simp [go_sem]
  have b02 : W.cell? ⟨w.heap.size, 2, none⟩ = some (.int .i64 x2) := by subst hW; simp [go_sem]
  have b03 : W.cell? ⟨w.heap.size, 3, none⟩ = some (.int .i64 x3) := by subst hW; simp [go_sem]
  have b04 : W.cell? ⟨w.heap.size, 4, none⟩ = some (.int .i64 x4) := by subst hW; simp [go_sem]
  have b05 : W.cell? ⟨w.heap.size, 5, none⟩ = some (.int .i64 x5) := by subst hW; simp [go_sem]
  have b06 : W.cell? ⟨w.heap.size, 6, none⟩ = some (.int .i64 x6) := by subst hW; simp [go_sem]
  have b07 : W.cell? ⟨w.heap.size, 7, none⟩ = some (.int .i64 x7) := by subst hW; simp [go_sem]
  have b08 : W.cell? ⟨w.heap.size, 8, none⟩ = some (.slice a l.length cap) := by subst hW; simp [go_sem]
  have L0 : w.heap.size < W.heap.size := by subst hW; first | (simp; done) | (simp; omega)
  have b10 : W.cell? ⟨w.heap.size + 1, 0, none⟩ = some (.int .i64 0) := by subst hW; simp [go_sem]
  have b11 : W.cell? ⟨w.heap.size + 1, 1, none⟩ = some (.int .i64 0) := by subst hW; simp [go_sem]
  have b12 : W.cell? ⟨w.heap.size + 1, 2, none⟩ = some (.int .i64 0) := by subst hW; simp [go_sem]
  have b13 : W.cell? ⟨w.heap.size + 1, 3, none⟩ = some (.int .i64 0) := by subst hW; simp [go_sem]
  have L1 : w.heap.size + 1 < W.heap.size := by subst hW; first | (simp; done) | (simp; omega)
  have n01 : w.heap.size ≠ w.heap.size + 1 := by omega
  have R1 : w.heap.size ≤ w.heap.size + 1 := by omega
  have fz1 : ∀ o, W.frozen? ⟨w.heap.size + 1, o, none⟩ = false := by subst hW; intro o; simp [go_sem]
  rw [← hW]
  clear hW
  generalize w.heap.size + 1 = B1 at *
  obtain ⟨B0, hB0⟩ : ∃ B, B = w.heap.size := ⟨_, rfl⟩
  rw [← hB0] at b00 b01 b02 b03 b04 b05 b06 b07 b08 L0
  try rw [← hB0]
  replace hB0 := Lib.hid hB0
  try rw [← hB0.out] at n01
  have FV := Lib.hid (H0.out.below HD)
  clear H0
  cases e : courseOK x0 x1 x2 x3 x4 x5 x6 x7 l
  case false =>
    have HF := Lib.hid (show rdR x0 x1 x2 x3 x4 x5 x6 x7 l k = ((0, 0, 0, 0), 1) by unfold rdR; rw [if_neg (by rw [e]; decide)])
    have cc := IsCourse_c x0 x1 x2 x3 x4 x5 x6 x7 a cap l W hl FV.out HS.out hcap
    rw [e] at cc
    clear e
    refine (cc).mono ?_
    rintro e V1 ⟨rfl, hb⟩
    clear cc
    replace HD := HD.trans (hb.mono HD.size)
    obtain ⟨hc, hf⟩ := bcell hb
    have hz := hb.size
    replace b00 := (hc _ 0 L0).trans b00
    replace b01 := (hc _ 1 L0).trans b01
    replace b02 := (hc _ 2 L0).trans b02
    replace b03 := (hc _ 3 L0).trans b03
    replace b04 := (hc _ 4 L0).trans b04
    replace b05 := (hc _ 5 L0).trans b05
    replace b06 := (hc _ 6 L0).trans b06
    replace b07 := (hc _ 7 L0).trans b07
    replace b08 := (hc _ 8 L0).trans b08
    replace b10 := (hc _ 0 L1).trans b10
    replace b11 := (hc _ 1 L1).trans b11
    replace b12 := (hc _ 2 L1).trans b12
    replace b13 := (hc _ 3 L1).trans b13
    replace fz1 := fun o => (hf _ o L1).trans (fz1 o)
    replace FV := Lib.hid (RowAt.below FV.out hb)
    replace L0 := Nat.lt_of_lt_of_le L0 hz
    replace L1 := Nat.lt_of_lt_of_le L1 hz
    clear hc hf hz hb
    go_wp2_with fail
    exact bodyPost_ret (v := .tuple #[.agg #[.int .i64 0, .int .i64 0, .int .i64 0, .int .i64 0], .int .i64 1]) (by simp [results, Tryd.results38, go_sem, *]) rfl ⟨by rw [HF.out] <;> rfl, (by repeat (first | with_reducible exact Below.refl _ _ | with_reducible assumption | with_reducible refine Below.drew ?_ | with_reducible refine Below.alloc ?_ (by first | exact Nat.le_refl _ | (simp; done) | (simp; omega) | omega) _ | with_reducible refine Below.setCell ?_ (by first | exact Nat.le_refl _ | (simp; done) | (simp; omega) | omega) _ | with_reducible refine Below.trans ?_ (Below.mono (by with_reducible assumption) (by first | exact Nat.le_refl _ | (simp; done) | (simp; omega) | omega))))⟩
  case true =>
    have hcp := courseOK_true e
    have hl8 := hcp.2.2.2.1
    have cc := IsCourse_c x0 x1 x2 x3 x4 x5 x6 x7 a cap l W hl FV.out HS.out hcap
    rw [e] at cc
    have hw : IntKind.i64.wrap ((l.length : Int) - 1) = (l.length : Int) - 1 := by rw [IntKind.wrap_i64]; omega
    refine (cc).mono ?_
    rintro e V1 ⟨rfl, hb⟩
    clear cc
    replace HD := HD.trans (hb.mono HD.size)
    obtain ⟨hc, hf⟩ := bcell hb
    have hz := hb.size
    replace b00 := (hc _ 0 L0).trans b00
    replace b01 := (hc _ 1 L0).trans b01
    replace b02 := (hc _ 2 L0).trans b02
    replace b03 := (hc _ 3 L0).trans b03
    replace b04 := (hc _ 4 L0).trans b04
    replace b05 := (hc _ 5 L0).trans b05
    replace b06 := (hc _ 6 L0).trans b06
    replace b07 := (hc _ 7 L0).trans b07
    replace b08 := (hc _ 8 L0).trans b08
    replace b10 := (hc _ 0 L1).trans b10
    replace b11 := (hc _ 1 L1).trans b11
    replace b12 := (hc _ 2 L1).trans b12
    replace b13 := (hc _ 3 L1).trans b13
    replace fz1 := fun o => (hf _ o L1).trans (fz1 o)
    replace FV := Lib.hid (RowAt.below FV.out hb)
    replace L0 := Nat.lt_of_lt_of_le L0 hz
    replace L1 := Nat.lt_of_lt_of_le L1 hz
    clear hc hf hz hb
    cases e3 : inR k 0 ((l.length : Int) - 1)
    case false =>
      have HF := Lib.hid (show rdR x0 x1 x2 x3 x4 x5 x6 x7 l k = ((0, 0, 0, 0), 4) by unfold rdR; rw [if_pos e, if_neg (by rw [e3]; decide)])
      go_wp2_with fail
      refine (within_c _ _ _ _).mono ?_
      rintro e w' ⟨rfl, rfl⟩
      go_wp2_with fail
      exact bodyPost_ret (v := .tuple #[.agg #[.int .i64 0, .int .i64 0, .int .i64 0, .int .i64 0], .int .i64 4]) (by simp [results, Tryd.results38, go_sem, *]) rfl ⟨by rw [HF.out] <;> rfl, (by repeat (first | with_reducible exact Below.refl _ _ | with_reducible assumption | with_reducible refine Below.drew ?_ | with_reducible refine Below.alloc ?_ (by first | exact Nat.le_refl _ | (simp; done) | (simp; omega) | omega) _ | with_reducible refine Below.setCell ?_ (by first | exact Nat.le_refl _ | (simp; done) | (simp; omega) | omega) _ | with_reducible refine Below.trans ?_ (Below.mono (by with_reducible assumption) (by first | exact Nat.le_refl _ | (simp; done) | (simp; omega) | omega))))⟩
    case true =>
      have HG := Lib.hid (show rdR x0 x1 x2 x3 x4 x5 x6 x7 l k = rdS (rlAt x0 x1 x2 x3 x4 x5 x6 x7 l k.toNat) by unfold rdR; rw [if_pos e, if_pos e3])
      go_wp2_with fail
      refine (within_c _ _ _ _).mono ?_
      rintro e w' ⟨rfl, rfl⟩
      go_wp2_with fail
      obtain ⟨j0, j1⟩ := inR_true e3
      obtain ⟨i, hi⟩ := Int.eq_ofNat_of_zero_le j0
      have hiL : i < l.length := by omega
      subst hi
      rw [show Int.toNat ((i : Nat) : Int) = i from rfl] at HG
      clear j0 j1 e3
      have cc := roundingLine_c x0 x1 x2 x3 x4 x5 x6 x7 a cap l i V1 hiL hcp FV.out
      generalize rlAt x0 x1 x2 x3 x4 x5 x6 x7 l i = R at *
      obtain ⟨r0, r1, r2, r3⟩ := R
      dsimp only at cc
      cases e4 : isSeg r0 r1 r2 r3
      case false =>
        have HF := Lib.hid (HG.out.trans (show rdS (r0, r1, r2, r3) = ((0, 0, 0, 0), 2) by unfold rdS; rw [if_neg (by rw [e4]; decide)]))
        refine (cc).mono ?_
        rintro e V2 ⟨rfl, hb⟩
        clear cc
        replace HD := HD.trans (hb.mono HD.size)
        obtain ⟨hc, hf⟩ := bcell hb
        have hz := hb.size
        replace b00 := (hc _ 0 L0).trans b00
        replace b01 := (hc _ 1 L0).trans b01
        replace b02 := (hc _ 2 L0).trans b02
        replace b03 := (hc _ 3 L0).trans b03
        replace b04 := (hc _ 4 L0).trans b04
        replace b05 := (hc _ 5 L0).trans b05
        replace b06 := (hc _ 6 L0).trans b06
        replace b07 := (hc _ 7 L0).trans b07
        replace b08 := (hc _ 8 L0).trans b08
        replace b10 := (hc _ 0 L1).trans b10
        replace b11 := (hc _ 1 L1).trans b11
        replace b12 := (hc _ 2 L1).trans b12
        replace b13 := (hc _ 3 L1).trans b13
        replace fz1 := fun o => (hf _ o L1).trans (fz1 o)
        replace FV := Lib.hid (RowAt.below FV.out hb)
        replace L0 := Nat.lt_of_lt_of_le L0 hz
        replace L1 := Nat.lt_of_lt_of_le L1 hz
        clear hc hf hz hb
        go_wp2_with fail
        obtain ⟨V3, hV3⟩ : ∃ x, x = V2.alloc (.cells #[.int .i64 r0, .int .i64 r1, .int .i64 r2, .int .i64 r3] 33) := ⟨_, rfl⟩
        have hb : Below V2.heap.size V2 V3 := by subst hV3; exact (Below.refl _ _).alloc (Nat.le_refl _) _
        have k30 : V3.cell? ⟨V2.heap.size, 0, none⟩ = some (.int .i64 r0) := by subst hV3; simp [go_sem]
        have k31 : V3.cell? ⟨V2.heap.size, 1, none⟩ = some (.int .i64 r1) := by subst hV3; simp [go_sem]
        have k32 : V3.cell? ⟨V2.heap.size, 2, none⟩ = some (.int .i64 r2) := by subst hV3; simp [go_sem]
        have k33 : V3.cell? ⟨V2.heap.size, 3, none⟩ = some (.int .i64 r3) := by subst hV3; simp [go_sem]
        have K3 : V2.heap.size < V3.heap.size := by subst hV3; simp
        have hS3 := Lib.hid (show V3.heap.size = V2.heap.size + 1 by subst hV3; simp)
        rw [← hV3]
        clear hV3
        replace HD := HD.trans (hb.mono HD.size)
        obtain ⟨hc, hf⟩ := bcell hb
        have hz := hb.size
        replace b00 := (hc _ 0 L0).trans b00
        replace b01 := (hc _ 1 L0).trans b01
        replace b02 := (hc _ 2 L0).trans b02
        replace b03 := (hc _ 3 L0).trans b03
        replace b04 := (hc _ 4 L0).trans b04
        replace b05 := (hc _ 5 L0).trans b05
        replace b06 := (hc _ 6 L0).trans b06
        replace b07 := (hc _ 7 L0).trans b07
        replace b08 := (hc _ 8 L0).trans b08
        replace b10 := (hc _ 0 L1).trans b10
        replace b11 := (hc _ 1 L1).trans b11
        replace b12 := (hc _ 2 L1).trans b12
        replace b13 := (hc _ 3 L1).trans b13
        replace fz1 := fun o => (hf _ o L1).trans (fz1 o)
        replace FV := Lib.hid (RowAt.below FV.out hb)
        replace L0 := Nat.lt_of_lt_of_le L0 hz
        replace L1 := Nat.lt_of_lt_of_le L1 hz
        clear hc hf hz hb
        obtain ⟨C3, hC3⟩ : ∃ x, x = V2.heap.size := ⟨_, rfl⟩
        rw [← hC3] at k30 k31 k32 k33 K3
        try rw [← hC3]
        replace hC3 := Lib.hid hC3
        have cl := isLine_c r0 r1 r2 r3 V3
        rw [e4] at cl
        clear e4
        go_wp2_with fail
        refine (cl).mono ?_
        rintro e V4 ⟨rfl, hb⟩
        clear cl
        replace HD := HD.trans (hb.mono HD.size)
        obtain ⟨hc, hf⟩ := bcell hb
        have hz := hb.size
        replace b00 := (hc _ 0 L0).trans b00
        replace b01 := (hc _ 1 L0).trans b01
        replace b02 := (hc _ 2 L0).trans b02
        replace b03 := (hc _ 3 L0).trans b03
        replace b04 := (hc _ 4 L0).trans b04
        replace b05 := (hc _ 5 L0).trans b05
        replace b06 := (hc _ 6 L0).trans b06
        replace b07 := (hc _ 7 L0).trans b07
        replace b08 := (hc _ 8 L0).trans b08
        replace b10 := (hc _ 0 L1).trans b10
        replace b11 := (hc _ 1 L1).trans b11
        replace b12 := (hc _ 2 L1).trans b12
        replace b13 := (hc _ 3 L1).trans b13
        replace k30 := (hc _ 0 K3).trans k30
        replace k31 := (hc _ 1 K3).trans k31
        replace k32 := (hc _ 2 K3).trans k32
        replace k33 := (hc _ 3 K3).trans k33
        replace fz1 := fun o => (hf _ o L1).trans (fz1 o)
        replace FV := Lib.hid (RowAt.below FV.out hb)
        replace L0 := Nat.lt_of_lt_of_le L0 hz
        replace L1 := Nat.lt_of_lt_of_le L1 hz
        replace K3 := Nat.lt_of_lt_of_le K3 hz
        clear hc hf hz hb
        go_wp2_with fail
        exact bodyPost_ret (v := .tuple #[.agg #[.int .i64 0, .int .i64 0, .int .i64 0, .int .i64 0], .int .i64 2]) (by simp [results, Tryd.results38, go_sem, *]) rfl ⟨by rw [HF.out] <;> rfl, (by repeat (first | with_reducible exact Below.refl _ _ | with_reducible assumption | with_reducible refine Below.drew ?_ | with_reducible refine Below.alloc ?_ (by first | exact Nat.le_refl _ | (simp; done) | (simp; omega) | omega) _ | with_reducible refine Below.setCell ?_ (by first | exact Nat.le_refl _ | (simp; done) | (simp; omega) | omega) _ | with_reducible refine Below.trans ?_ (Below.mono (by with_reducible assumption) (by first | exact Nat.le_refl _ | (simp; done) | (simp; omega) | omega))))⟩
      case true =>
        have HF := Lib.hid (HG.out.trans (show rdS (r0, r1, r2, r3) = ((r0, r1, r2, r3), 0) by unfold rdS; rw [if_pos e4]))
        refine (cc).mono ?_
        rintro e V2 ⟨rfl, hb⟩
        clear cc
        replace HD := HD.trans (hb.mono HD.size)
        obtain ⟨hc, hf⟩ := bcell hb
        have hz := hb.size
        replace b00 := (hc _ 0 L0).trans b00
        replace b01 := (hc _ 1 L0).trans b01
        replace b02 := (hc _ 2 L0).trans b02
        replace b03 := (hc _ 3 L0).trans b03
        replace b04 := (hc _ 4 L0).trans b04
        replace b05 := (hc _ 5 L0).trans b05
        replace b06 := (hc _ 6 L0).trans b06
        replace b07 := (hc _ 7 L0).trans b07
        replace b08 := (hc _ 8 L0).trans b08
        replace b10 := (hc _ 0 L1).trans b10
        replace b11 := (hc _ 1 L1).trans b11
        replace b12 := (hc _ 2 L1).trans b12
        replace b13 := (hc _ 3 L1).trans b13
        replace fz1 := fun o => (hf _ o L1).trans (fz1 o)
        replace FV := Lib.hid (RowAt.below FV.out hb)
        replace L0 := Nat.lt_of_lt_of_le L0 hz
        replace L1 := Nat.lt_of_lt_of_le L1 hz
        clear hc hf hz hb
        go_wp2_with fail
        obtain ⟨V3, hV3⟩ : ∃ x, x = V2.alloc (.cells #[.int .i64 r0, .int .i64 r1, .int .i64 r2, .int .i64 r3] 33) := ⟨_, rfl⟩
        have hb : Below V2.heap.size V2 V3 := by subst hV3; exact (Below.refl _ _).alloc (Nat.le_refl _) _
        have k30 : V3.cell? ⟨V2.heap.size, 0, none⟩ = some (.int .i64 r0) := by subst hV3; simp [go_sem]
        have k31 : V3.cell? ⟨V2.heap.size, 1, none⟩ = some (.int .i64 r1) := by subst hV3; simp [go_sem]
        have k32 : V3.cell? ⟨V2.heap.size, 2, none⟩ = some (.int .i64 r2) := by subst hV3; simp [go_sem]
        have k33 : V3.cell? ⟨V2.heap.size, 3, none⟩ = some (.int .i64 r3) := by subst hV3; simp [go_sem]
        have K3 : V2.heap.size < V3.heap.size := by subst hV3; simp
        have hS3 := Lib.hid (show V3.heap.size = V2.heap.size + 1 by subst hV3; simp)
        rw [← hV3]
        clear hV3
        replace HD := HD.trans (hb.mono HD.size)
        obtain ⟨hc, hf⟩ := bcell hb
        have hz := hb.size
        replace b00 := (hc _ 0 L0).trans b00
        replace b01 := (hc _ 1 L0).trans b01
        replace b02 := (hc _ 2 L0).trans b02
        replace b03 := (hc _ 3 L0).trans b03
        replace b04 := (hc _ 4 L0).trans b04
        replace b05 := (hc _ 5 L0).trans b05
        replace b06 := (hc _ 6 L0).trans b06
        replace b07 := (hc _ 7 L0).trans b07
        replace b08 := (hc _ 8 L0).trans b08
        replace b10 := (hc _ 0 L1).trans b10
        replace b11 := (hc _ 1 L1).trans b11
        replace b12 := (hc _ 2 L1).trans b12
        replace b13 := (hc _ 3 L1).trans b13
        replace fz1 := fun o => (hf _ o L1).trans (fz1 o)
        replace FV := Lib.hid (RowAt.below FV.out hb)
        replace L0 := Nat.lt_of_lt_of_le L0 hz
        replace L1 := Nat.lt_of_lt_of_le L1 hz
        clear hc hf hz hb
        obtain ⟨C3, hC3⟩ : ∃ x, x = V2.heap.size := ⟨_, rfl⟩
        rw [← hC3] at k30 k31 k32 k33 K3
        try rw [← hC3]
        replace hC3 := Lib.hid hC3
        have cl := isLine_c r0 r1 r2 r3 V3
        rw [e4] at cl
        clear e4
        go_wp2_with fail
        refine (cl).mono ?_
        rintro e V4 ⟨rfl, hb⟩
        clear cl
        replace HD := HD.trans (hb.mono HD.size)
        obtain ⟨hc, hf⟩ := bcell hb
        have hz := hb.size
        replace b00 := (hc _ 0 L0).trans b00
        replace b01 := (hc _ 1 L0).trans b01
        replace b02 := (hc _ 2 L0).trans b02
        replace b03 := (hc _ 3 L0).trans b03
        replace b04 := (hc _ 4 L0).trans b04
        replace b05 := (hc _ 5 L0).trans b05
        replace b06 := (hc _ 6 L0).trans b06
        replace b07 := (hc _ 7 L0).trans b07
        replace b08 := (hc _ 8 L0).trans b08
        replace b10 := (hc _ 0 L1).trans b10
        replace b11 := (hc _ 1 L1).trans b11
        replace b12 := (hc _ 2 L1).trans b12
        replace b13 := (hc _ 3 L1).trans b13
        replace k30 := (hc _ 0 K3).trans k30
        replace k31 := (hc _ 1 K3).trans k31
        replace k32 := (hc _ 2 K3).trans k32
        replace k33 := (hc _ 3 K3).trans k33
        replace fz1 := fun o => (hf _ o L1).trans (fz1 o)
        replace FV := Lib.hid (RowAt.below FV.out hb)
        replace L0 := Nat.lt_of_lt_of_le L0 hz
        replace L1 := Nat.lt_of_lt_of_le L1 hz
        replace K3 := Nat.lt_of_lt_of_le K3 hz
        clear hc hf hz hb
        go_wp2_with fail
        exact bodyPost_ret (v := .tuple #[.agg #[.int .i64 r0, .int .i64 r1, .int .i64 r2, .int .i64 r3], .int .i64 0]) (by simp [results, Tryd.results38, go_sem, *]) rfl ⟨by rw [HF.out] <;> rfl, (by repeat (first | with_reducible exact Below.refl _ _ | with_reducible assumption | with_reducible refine Below.drew ?_ | with_reducible refine Below.alloc ?_ (by first | exact Nat.le_refl _ | (simp; done) | (simp; omega) | omega) _ | with_reducible refine Below.setCell ?_ (by first | exact Nat.le_refl _ | (simp; done) | (simp; omega) | omega) _ | with_reducible refine Below.trans ?_ (Below.mono (by with_reducible assumption) (by first | exact Nat.le_refl _ | (simp; done) | (simp; omega) | omega))))⟩
set_option maxRecDepth 100000 in
set_option maxHeartbeats 4000000 in
theorem RoundingLineS_c (x0 x1 x2 x3 x4 x5 x6 x7 : Int) (a : Option Addr) (cap : Nat) (l : List Mk) (k : Int) (w : World) (hl : l.length ≤ 4611686018427387904) (h : RowAt w a (mflat l)) (hs : ∀ i, i < l.length → (mk l i).name.size ≤ maxLen)  :
    Calls Tryd.prog 39 #[.agg #[.int .i64 x0, .int .i64 x1, .int .i64 x2, .int .i64 x3, .int .i64 x4, .int .i64 x5, .int .i64 x6, .int .i64 x7, .slice a l.length cap], .int .i64 k] w fun e w' => e = .returned (.tuple #[.agg #[.int .i64 (rdR x0 x1 x2 x3 x4 x5 x6 x7 l k).1.1, .int .i64 (rdR x0 x1 x2 x3 x4 x5 x6 x7 l k).1.2.1, .int .i64 (rdR x0 x1 x2 x3 x4 x5 x6 x7 l k).1.2.2.1, .int .i64 (rdR x0 x1 x2 x3 x4 x5 x6 x7 l k).1.2.2.2], .int .i64 (rdR x0 x1 x2 x3 x4 x5 x6 x7 l k).2]) ∧ Below w.heap.size w w' := by
  have H0 := Lib.hid h
  have HS := Lib.hid hs
  clear h hs
  go_enter Tryd.func39, Tryd.ntmps39
  go_wp2_with fail
  obtain ⟨W, hW⟩ : ∃ W, W = ((w.alloc (.cells #[.int .i64 x0, .int .i64 x1, .int .i64 x2, .int .i64 x3, .int .i64 x4, .int .i64 x5, .int .i64 x6, .int .i64 x7, .slice a l.length cap] 36)).alloc (.cells #[.int .i64 0, .int .i64 0, .int .i64 0, .int .i64 0] 33)) := ⟨_, rfl⟩
  have HD : Below w.heap.size w W := by subst hW; exact (by repeat (first | with_reducible exact Below.refl _ _ | with_reducible assumption | with_reducible refine Below.drew ?_ | with_reducible refine Below.alloc ?_ (by first | exact Nat.le_refl _ | (simp; done) | (simp; omega) | omega) _ | with_reducible refine Below.setCell ?_ (by first | exact Nat.le_refl _ | (simp; done) | (simp; omega) | omega) _ | with_reducible refine Below.trans ?_ (Below.mono (by with_reducible assumption) (by first | exact Nat.le_refl _ | (simp; done) | (simp; omega) | omega))))
  have b00 : W.cell? ⟨w.heap.size, 0, none⟩ = some (.int .i64 x0) := by subst hW; simp [go_sem]
  have b01 : W.cell? ⟨w.heap.size, 1, none⟩ = some (.int .i64 x1) := by subst hW; simp [go_sem]
  have b02 : W.cell? ⟨w.heap.size, 2, none⟩ = some (.int .i64 x2) := by subst hW; simp [go_sem]
  have b03 : W.cell? ⟨w.heap.size, 3, none⟩ = some (.int .i64 x3) := by subst hW; simp [go_sem]
  have b04 : W.cell? ⟨w.heap.size, 4, none⟩ = some (.int .i64 x4) := by subst hW; simp [go_sem]
  have b05 : W.cell? ⟨w.heap.size, 5, none⟩ = some (.int .i64 x5) := by subst hW; simp [go_sem]
  have b06 : W.cell? ⟨w.heap.size, 6, none⟩ = some (.int .i64 x6) := by subst hW; simp [go_sem]
  have b07 : W.cell? ⟨w.heap.size, 7, none⟩ = some (.int .i64 x7) := by subst hW; simp [go_sem]
  have b08 : W.cell? ⟨w.heap.size, 8, none⟩ = some (.slice a l.length cap) := by subst hW; simp [go_sem]
  have L0 : w.heap.size < W.heap.size := by subst hW; first | (simp; done) | (simp; omega)
  have b10 : W.cell? ⟨w.heap.size + 1, 0, none⟩ = some (.int .i64 0) := by subst hW; simp [go_sem]
  have b11 : W.cell? ⟨w.heap.size + 1, 1, none⟩ = some (.int .i64 0) := by subst hW; simp [go_sem]
  have b12 : W.cell? ⟨w.heap.size + 1, 2, none⟩ = some (.int .i64 0) := by subst hW; simp [go_sem]
  have b13 : W.cell? ⟨w.heap.size + 1, 3, none⟩ = some (.int .i64 0) := by subst hW; simp [go_sem]
  have L1 : w.heap.size + 1 < W.heap.size := by subst hW; first | (simp; done) | (simp; omega)
  have n01 : w.heap.size ≠ w.heap.size + 1 := by omega
  have R1 : w.heap.size ≤ w.heap.size + 1 := by omega
  have fz1 : ∀ o, W.frozen? ⟨w.heap.size + 1, o, none⟩ = false := by subst hW; intro o; simp [go_sem]
  rw [← hW]
  clear hW
  generalize w.heap.size + 1 = B1 at *
  obtain ⟨B0, hB0⟩ : ∃ B, B = w.heap.size := ⟨_, rfl⟩
  rw [← hB0] at b00 b01 b02 b03 b04 b05 b06 b07 b08 L0
  try rw [← hB0]
  replace hB0 := Lib.hid hB0
  try rw [← hB0.out] at n01
  have FV := Lib.hid (H0.out.below HD)
  clear H0
  cases e : courseOK x0 x1 x2 x3 x4 x5 x6 x7 l
  case false =>
    have HF := Lib.hid (show rdR x0 x1 x2 x3 x4 x5 x6 x7 l k = ((0, 0, 0, 0), 1) by unfold rdR; rw [if_neg (by rw [e]; decide)])
    have cc := IsCourseS_c x0 x1 x2 x3 x4 x5 x6 x7 a cap l W hl FV.out HS.out
    rw [e] at cc
    clear e
    refine (cc).mono ?_
    rintro e V1 ⟨rfl, hb⟩
    clear cc
    replace HD := HD.trans (hb.mono HD.size)
    obtain ⟨hc, hf⟩ := bcell hb
    have hz := hb.size
    replace b00 := (hc _ 0 L0).trans b00
    replace b01 := (hc _ 1 L0).trans b01
    replace b02 := (hc _ 2 L0).trans b02
    replace b03 := (hc _ 3 L0).trans b03
    replace b04 := (hc _ 4 L0).trans b04
    replace b05 := (hc _ 5 L0).trans b05
    replace b06 := (hc _ 6 L0).trans b06
    replace b07 := (hc _ 7 L0).trans b07
    replace b08 := (hc _ 8 L0).trans b08
    replace b10 := (hc _ 0 L1).trans b10
    replace b11 := (hc _ 1 L1).trans b11
    replace b12 := (hc _ 2 L1).trans b12
    replace b13 := (hc _ 3 L1).trans b13
    replace fz1 := fun o => (hf _ o L1).trans (fz1 o)
    replace FV := Lib.hid (RowAt.below FV.out hb)
    replace L0 := Nat.lt_of_lt_of_le L0 hz
    replace L1 := Nat.lt_of_lt_of_le L1 hz
    clear hc hf hz hb
    go_wp2_with fail
    exact bodyPost_ret (v := .tuple #[.agg #[.int .i64 0, .int .i64 0, .int .i64 0, .int .i64 0], .int .i64 1]) (by simp [results, Tryd.results39, go_sem, *]) rfl ⟨by rw [HF.out] <;> rfl, (by repeat (first | with_reducible exact Below.refl _ _ | with_reducible assumption | with_reducible refine Below.drew ?_ | with_reducible refine Below.alloc ?_ (by first | exact Nat.le_refl _ | (simp; done) | (simp; omega) | omega) _ | with_reducible refine Below.setCell ?_ (by first | exact Nat.le_refl _ | (simp; done) | (simp; omega) | omega) _ | with_reducible refine Below.trans ?_ (Below.mono (by with_reducible assumption) (by first | exact Nat.le_refl _ | (simp; done) | (simp; omega) | omega))))⟩
  case true =>
    have hcp := courseOK_true e
    have hl8 := hcp.2.2.2.1
    have cc := IsCourseS_c x0 x1 x2 x3 x4 x5 x6 x7 a cap l W hl FV.out HS.out
    rw [e] at cc
    have hw : IntKind.i64.wrap ((l.length : Int) - 1) = (l.length : Int) - 1 := by rw [IntKind.wrap_i64]; omega
    refine (cc).mono ?_
    rintro e V1 ⟨rfl, hb⟩
    clear cc
    replace HD := HD.trans (hb.mono HD.size)
    obtain ⟨hc, hf⟩ := bcell hb
    have hz := hb.size
    replace b00 := (hc _ 0 L0).trans b00
    replace b01 := (hc _ 1 L0).trans b01
    replace b02 := (hc _ 2 L0).trans b02
    replace b03 := (hc _ 3 L0).trans b03
    replace b04 := (hc _ 4 L0).trans b04
    replace b05 := (hc _ 5 L0).trans b05
    replace b06 := (hc _ 6 L0).trans b06
    replace b07 := (hc _ 7 L0).trans b07
    replace b08 := (hc _ 8 L0).trans b08
    replace b10 := (hc _ 0 L1).trans b10
    replace b11 := (hc _ 1 L1).trans b11
    replace b12 := (hc _ 2 L1).trans b12
    replace b13 := (hc _ 3 L1).trans b13
    replace fz1 := fun o => (hf _ o L1).trans (fz1 o)
    replace FV := Lib.hid (RowAt.below FV.out hb)
    replace L0 := Nat.lt_of_lt_of_le L0 hz
    replace L1 := Nat.lt_of_lt_of_le L1 hz
    clear hc hf hz hb
    cases e3 : inR k 0 ((l.length : Int) - 1)
    case false =>
      have HF := Lib.hid (show rdR x0 x1 x2 x3 x4 x5 x6 x7 l k = ((0, 0, 0, 0), 4) by unfold rdR; rw [if_pos e, if_neg (by rw [e3]; decide)])
      go_wp2_with fail
      refine (l01In_c _ _ _ _).mono ?_
      rintro e w' ⟨rfl, rfl⟩
      go_wp2_with fail
      exact bodyPost_ret (v := .tuple #[.agg #[.int .i64 0, .int .i64 0, .int .i64 0, .int .i64 0], .int .i64 4]) (by simp [results, Tryd.results39, go_sem, *]) rfl ⟨by rw [HF.out] <;> rfl, (by repeat (first | with_reducible exact Below.refl _ _ | with_reducible assumption | with_reducible refine Below.drew ?_ | with_reducible refine Below.alloc ?_ (by first | exact Nat.le_refl _ | (simp; done) | (simp; omega) | omega) _ | with_reducible refine Below.setCell ?_ (by first | exact Nat.le_refl _ | (simp; done) | (simp; omega) | omega) _ | with_reducible refine Below.trans ?_ (Below.mono (by with_reducible assumption) (by first | exact Nat.le_refl _ | (simp; done) | (simp; omega) | omega))))⟩
    case true =>
      have HG := Lib.hid (show rdR x0 x1 x2 x3 x4 x5 x6 x7 l k = rdS (rlAt x0 x1 x2 x3 x4 x5 x6 x7 l k.toNat) by unfold rdR; rw [if_pos e, if_pos e3])
      go_wp2_with fail
      refine (l01In_c _ _ _ _).mono ?_
      rintro e w' ⟨rfl, rfl⟩
      go_wp2_with fail
      obtain ⟨j0, j1⟩ := inR_true e3
      obtain ⟨i, hi⟩ := Int.eq_ofNat_of_zero_le j0
      have hiL : i < l.length := by omega
      subst hi
      rw [show Int.toNat ((i : Nat) : Int) = i from rfl] at HG
      clear j0 j1 e3
      have cc := l06Line_c x0 x1 x2 x3 x4 x5 x6 x7 a cap l i V1 hiL hcp FV.out
      generalize rlAt x0 x1 x2 x3 x4 x5 x6 x7 l i = R at *
      obtain ⟨r0, r1, r2, r3⟩ := R
      dsimp only at cc
      cases e4 : isSeg r0 r1 r2 r3
      case false =>
        have HF := Lib.hid (HG.out.trans (show rdS (r0, r1, r2, r3) = ((0, 0, 0, 0), 2) by unfold rdS; rw [if_neg (by rw [e4]; decide)]))
        rw [e4] at cc
        refine (cc).mono ?_
        rintro e V2 ⟨rfl, hb⟩
        clear cc
        replace HD := HD.trans (hb.mono HD.size)
        obtain ⟨hc, hf⟩ := bcell hb
        have hz := hb.size
        replace b00 := (hc _ 0 L0).trans b00
        replace b01 := (hc _ 1 L0).trans b01
        replace b02 := (hc _ 2 L0).trans b02
        replace b03 := (hc _ 3 L0).trans b03
        replace b04 := (hc _ 4 L0).trans b04
        replace b05 := (hc _ 5 L0).trans b05
        replace b06 := (hc _ 6 L0).trans b06
        replace b07 := (hc _ 7 L0).trans b07
        replace b08 := (hc _ 8 L0).trans b08
        replace b10 := (hc _ 0 L1).trans b10
        replace b11 := (hc _ 1 L1).trans b11
        replace b12 := (hc _ 2 L1).trans b12
        replace b13 := (hc _ 3 L1).trans b13
        replace fz1 := fun o => (hf _ o L1).trans (fz1 o)
        replace FV := Lib.hid (RowAt.below FV.out hb)
        replace L0 := Nat.lt_of_lt_of_le L0 hz
        replace L1 := Nat.lt_of_lt_of_le L1 hz
        clear hc hf hz hb
        go_wp2_with fail
        exact bodyPost_ret (v := .tuple #[.agg #[.int .i64 0, .int .i64 0, .int .i64 0, .int .i64 0], .int .i64 2]) (by simp [results, Tryd.results39, go_sem, *]) rfl ⟨by rw [HF.out] <;> rfl, (by repeat (first | with_reducible exact Below.refl _ _ | with_reducible assumption | with_reducible refine Below.drew ?_ | with_reducible refine Below.alloc ?_ (by first | exact Nat.le_refl _ | (simp; done) | (simp; omega) | omega) _ | with_reducible refine Below.setCell ?_ (by first | exact Nat.le_refl _ | (simp; done) | (simp; omega) | omega) _ | with_reducible refine Below.trans ?_ (Below.mono (by with_reducible assumption) (by first | exact Nat.le_refl _ | (simp; done) | (simp; omega) | omega))))⟩
      case true =>
        have HF := Lib.hid (HG.out.trans (show rdS (r0, r1, r2, r3) = ((r0, r1, r2, r3), 0) by unfold rdS; rw [if_pos e4]))
        rw [e4] at cc
        refine (cc).mono ?_
        rintro e V2 ⟨rfl, hb⟩
        clear cc
        replace HD := HD.trans (hb.mono HD.size)
        obtain ⟨hc, hf⟩ := bcell hb
        have hz := hb.size
        replace b00 := (hc _ 0 L0).trans b00
        replace b01 := (hc _ 1 L0).trans b01
        replace b02 := (hc _ 2 L0).trans b02
        replace b03 := (hc _ 3 L0).trans b03
        replace b04 := (hc _ 4 L0).trans b04
        replace b05 := (hc _ 5 L0).trans b05
        replace b06 := (hc _ 6 L0).trans b06
        replace b07 := (hc _ 7 L0).trans b07
        replace b08 := (hc _ 8 L0).trans b08
        replace b10 := (hc _ 0 L1).trans b10
        replace b11 := (hc _ 1 L1).trans b11
        replace b12 := (hc _ 2 L1).trans b12
        replace b13 := (hc _ 3 L1).trans b13
        replace fz1 := fun o => (hf _ o L1).trans (fz1 o)
        replace FV := Lib.hid (RowAt.below FV.out hb)
        replace L0 := Nat.lt_of_lt_of_le L0 hz
        replace L1 := Nat.lt_of_lt_of_le L1 hz
        clear hc hf hz hb
        go_wp2_with fail
        exact bodyPost_ret (v := .tuple #[.agg #[.int .i64 r0, .int .i64 r1, .int .i64 r2, .int .i64 r3], .int .i64 0]) (by simp [results, Tryd.results39, go_sem, *]) rfl ⟨by rw [HF.out] <;> rfl, (by repeat (first | with_reducible exact Below.refl _ _ | with_reducible assumption | with_reducible refine Below.drew ?_ | with_reducible refine Below.alloc ?_ (by first | exact Nat.le_refl _ | (simp; done) | (simp; omega) | omega) _ | with_reducible refine Below.setCell ?_ (by first | exact Nat.le_refl _ | (simp; done) | (simp; omega) | omega) _ | with_reducible refine Below.trans ?_ (Below.mono (by with_reducible assumption) (by first | exact Nat.le_refl _ | (simp; done) | (simp; omega) | omega))))⟩
end Go.Proofs.YtbeigoejdckpiaaDoor
