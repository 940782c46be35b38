/-
  FnRounding: for every code the law's function answers true. No condition.
-/
import Derived.Test.YtbeigoejdckpiaaDoorRows
import Derived.Test.YtbeigoejdckpiaaDoorTie
import Derived.Test.YtbeigoejdckpiaaDoorCards
import Derived.Test.YtbeigoejdckpiaaDoorCdraw4
import Derived.Test.YtbeigoejdckpiaaDoorCrsO
import Derived.LaidMore
import Derived.Lay
import Derived.SevenTiedAt
namespace Go.Proofs.YtbeigoejdckpiaaDoor.fnRounding
open Go.ChangeShapes Go.WideShapes Go.ChangeAt Go.RowKit Go.Deep
open Go.ChangeMaps (open_string shut_string)
set_option linter.unusedVariables false

/-- a mark's cells -/
structure RowMk (w : World) (b o : Nat) (v0 v1 v2 v3 v4 : Value) : Prop where
  lt : b < w.heap.size
  m0 : w.cell? ⟨b, o, none⟩ = some v0
  m1 : w.cell? ⟨b, o + 1, none⟩ = some v1
  m2 : w.cell? ⟨b, o + 2, none⟩ = some v2
  m3 : w.cell? ⟨b, o + 3, none⟩ = some v3
  m4 : w.cell? ⟨b, o + 4, none⟩ = some v4
theorem RowMk.below {w w' : World} {b o : Nat} {v0 v1 v2 v3 v4 : Value} (h : RowMk w b o v0 v1 v2 v3 v4) (hb : Below w.heap.size w w') : RowMk w' b o v0 v1 v2 v3 v4 := by
  obtain ⟨hc, _⟩ := bcell hb
  exact ⟨Nat.lt_of_lt_of_le h.lt hb.size, (hc _ _ h.lt).trans h.m0, (hc _ _ h.lt).trans h.m1, (hc _ _ h.lt).trans h.m2, (hc _ _ h.lt).trans h.m3, (hc _ _ h.lt).trans h.m4⟩
theorem own_capA {w : World} {base n cap size : Nat} {a : Option Addr} {e : TypeId} {xs : List Value} (h : w.ownsRow base e size (.slice a n cap) n xs) : n ≤ cap := by
  rcases h.2 with ⟨h2, h3⟩ | ⟨g', cap', cur, hv, hb, hh, hc, _⟩
  · simp at h2; omega
  · simp at hv; omega
theorem rd_law {x0 x1 x2 x3 x4 x5 x6 x7 : Int} {l : List Mk} {k r0 r1 r2 r3 : Int} (h : rdR x0 x1 x2 x3 x4 x5 x6 x7 l k = ((r0, r1, r2, r3), 0)) : ∃ i : Nat, k = (i : Int) ∧ i < l.length ∧ isSeg r0 r1 r2 r3 = true ∧ (((mk l i).s = 1 ∧ r0 = (mk l i).x ∧ r1 = (mk l i).y) ∨ ((mk l i).s = 2 ∧ r2 = (mk l i).x ∧ r3 = (mk l i).y)) := by
  unfold rdR at h
  split at h
  · rename_i hc
    split at h
    · rename_i hk
      obtain ⟨k0, k1⟩ := inR_true hk
      obtain ⟨i, rfl⟩ := Int.eq_ofNat_of_zero_le k0
      have hi : i < l.length := by omega
      rw [show Int.toNat ((i : Nat) : Int) = i from rfl] at h
      obtain ⟨_, _, _, _, hm, _⟩ := courseOK_true hc
      obtain ⟨_, hs, _, _⟩ := markOK_true (hm i hi).1
      unfold rdS at h
      split at h
      · rename_i hg
        simp only [Prod.mk.injEq, and_true] at h
        rw [h] at hg
        refine ⟨i, rfl, hi, hg, ?_⟩
        unfold rlAt rlL at h
        rcases hs with hs | hs
        · left
          rw [if_neg (by rw [hs]; decide)] at h
          simp only [Prod.mk.injEq] at h
          exact ⟨hs, h.1.symm, h.2.1.symm⟩
        · right
          rw [if_pos hs] at h
          simp only [Prod.mk.injEq] at h
          exact ⟨hs, h.2.2.1.symm, h.2.2.2.symm⟩
      · simp at h
    · simp at h
  · simp at h

set_option maxRecDepth 100000 in
set_option maxHeartbeats 4000000 in
theorem walk (a : Option Addr) (cap n : Nat) (w : World) (w0 : n ≤ 9223372036854775807 ∧ BytesB w.heap.size w a n) :
    Calls Tryd.prog 9 #[.slice a n cap] w fun e w' => e = .returned (.bool true) ∧ Below w.heap.size w w' := by
  obtain ⟨hn, hb⟩ := w0
  have HB := Lib.hid hb
  clear hb
  by_cases h : (4096 : Int) < (n : Int)
  · have CB := Lib.hid (fun w => big_t a n cap w hn h)
    go_enter Tryd.func9, Tryd.ntmps9
    go_wp2_with (go_at_call 19; refine (CB.out _).mono ?_; rintro e w' ⟨rfl, rfl⟩)
    go_ret
    exact ⟨rfl, (by repeat (first | with_reducible exact Below.refl _ _ | with_reducible assumption | with_reducible refine Below.drew ?_ | with_reducible refine Below.alloc ?_ (by first | exact Nat.le_refl _ | (simp; done) | (simp; omega) | omega) _ | with_reducible refine Below.setCell ?_ (by first | exact Nat.le_refl _ | (simp; done) | (simp; omega) | omega) _ | with_reducible refine Below.trans ?_ (Below.mono (by with_reducible assumption) (by first | exact Nat.le_refl _ | (simp; done) | (simp; omega) | omega))))⟩
  have CB := Lib.hid (fun w => big_f a n cap w hn h)
  clear h
  go_enter Tryd.func9, Tryd.ntmps9
  go_wp2_with (go_at_call 19; refine (CB.out _).mono ?_; rintro e w' ⟨rfl, rfl⟩)
  refine (DrawRoundingLine_c a n cap _ hn (bytes_at HB.out (by repeat (first | with_reducible exact Below.refl _ _ | with_reducible assumption | with_reducible refine Below.drew ?_ | with_reducible refine Below.alloc ?_ (by first | exact Nat.le_refl _ | (simp; done) | (simp; omega) | omega) _ | with_reducible refine Below.setCell ?_ (by first | exact Nat.le_refl _ | (simp; done) | (simp; omega) | omega) _ | with_reducible refine Below.trans ?_ (Below.mono (by with_reducible assumption) (by first | exact Nat.le_refl _ | (simp; done) | (simp; omega) | omega)))))).mono ?_
  rintro e V1 ⟨⟨x0, x1, x2, x3, x4, x5, x6, x7, a9, cp, l, k, rfl, hl9, hns, ho⟩, hbV⟩
  clear CB HB
  have hzV := hbV.size
  go_wp2_with fail
  obtain ⟨W, hW⟩ : ∃ W, W = (V1.alloc (.cells #[.int .i64 x0, .int .i64 x1, .int .i64 x2, .int .i64 x3, .int .i64 x4, .int .i64 x5, .int .i64 x6, .int .i64 x7, .slice a9 l.length cp] 36)) := ⟨_, rfl⟩
  have HD : Below w.heap.size w W := by subst hW; exact (by repeat (first | with_reducible exact Below.refl _ _ | with_reducible assumption | with_reducible refine Below.drew ?_ | with_reducible refine Below.alloc ?_ (by first | exact Nat.le_refl _ | (simp; done) | (simp; omega) | omega) _ | with_reducible refine Below.setCell ?_ (by first | exact Nat.le_refl _ | (simp; done) | (simp; omega) | omega) _ | with_reducible refine Below.trans ?_ (Below.mono (by with_reducible assumption) (by first | exact Nat.le_refl _ | (simp; done) | (simp; omega) | omega))))
  have HV : Below V1.heap.size V1 W := by subst hW; exact (by repeat (first | with_reducible exact Below.refl _ _ | with_reducible assumption | with_reducible refine Below.drew ?_ | with_reducible refine Below.alloc ?_ (by first | exact Nat.le_refl _ | (simp; done) | (simp; omega) | omega) _ | with_reducible refine Below.setCell ?_ (by first | exact Nat.le_refl _ | (simp; done) | (simp; omega) | omega) _ | with_reducible refine Below.trans ?_ (Below.mono (by with_reducible assumption) (by first | exact Nat.le_refl _ | (simp; done) | (simp; omega) | omega))))
  have b00 : W.cell? ⟨V1.heap.size, 0, none⟩ = some (.int .i64 x0) := by subst hW; simp [go_sem]
  have b01 : W.cell? ⟨V1.heap.size, 1, none⟩ = some (.int .i64 x1) := by subst hW; simp [go_sem]
  have b02 : W.cell? ⟨V1.heap.size, 2, none⟩ = some (.int .i64 x2) := by subst hW; simp [go_sem]
  have b03 : W.cell? ⟨V1.heap.size, 3, none⟩ = some (.int .i64 x3) := by subst hW; simp [go_sem]
  have b04 : W.cell? ⟨V1.heap.size, 4, none⟩ = some (.int .i64 x4) := by subst hW; simp [go_sem]
  have b05 : W.cell? ⟨V1.heap.size, 5, none⟩ = some (.int .i64 x5) := by subst hW; simp [go_sem]
  have b06 : W.cell? ⟨V1.heap.size, 6, none⟩ = some (.int .i64 x6) := by subst hW; simp [go_sem]
  have b07 : W.cell? ⟨V1.heap.size, 7, none⟩ = some (.int .i64 x7) := by subst hW; simp [go_sem]
  have b08 : W.cell? ⟨V1.heap.size, 8, none⟩ = some (.slice a9 l.length cp) := by subst hW; simp [go_sem]
  have L0 : V1.heap.size < W.heap.size := by subst hW; first | (simp; done) | (simp; omega)
  rw [← hW]
  clear hW
  obtain ⟨B0, hB0⟩ : ∃ B, B = V1.heap.size := ⟨_, rfl⟩
  rw [← hB0] at b00 b01 b02 b03 b04 b05 b06 b07 b08 L0
  try rw [← hB0]
  replace hB0 := Lib.hid hB0
  have hl2 : l.length ≤ 4611686018427387904 := by omega
  have hcap := own_capA ho
  have FV := Lib.hid (RowAt.below (row_ownP ho (mflat_length l)) HV)
  clear ho HV
  have c1 := fun W h => RoundingLine_c x0 x1 x2 x3 x4 x5 x6 x7 a9 cp l k W hl2 h hns.names hcap
  have c2 := fun W h => RoundingLineS_c x0 x1 x2 x3 x4 x5 x6 x7 a9 cp l k W hl2 h hns.names
  have hlaw := fun r0 r1 r2 r3 => @rd_law x0 x1 x2 x3 x4 x5 x6 x7 l k r0 r1 r2 r3
  generalize rdR x0 x1 x2 x3 x4 x5 x6 x7 l k = RR at *
  obtain ⟨⟨r0, r1, r2, r3⟩, R2⟩ := RR
  dsimp only at c1 c2
  have C1 := Lib.hid c1
  have C2 := Lib.hid c2
  clear c1 c2
  by_cases E : R2 = 0
  case neg =>
    clear hlaw
    refine (C1.out _ FV.out).mono ?_
    rintro e V2 ⟨rfl, hb⟩
    replace HD := HD.trans (hb.mono HD.size)
    obtain ⟨hc, hf⟩ := bcell hb
    have hz := hb.size
    replace b00 := (hc _ 0 L0).trans b00
    replace b01 := (hc _ 1 L0).trans b01
    replace b02 := (hc _ 2 L0).trans b02
    replace b03 := (hc _ 3 L0).trans b03
    replace b04 := (hc _ 4 L0).trans b04
    replace b05 := (hc _ 5 L0).trans b05
    replace b06 := (hc _ 6 L0).trans b06
    replace b07 := (hc _ 7 L0).trans b07
    replace b08 := (hc _ 8 L0).trans b08
    replace FV := Lib.hid (RowAt.below FV.out hb)
    replace L0 := Nat.lt_of_lt_of_le L0 hz
    clear hc hf hz hb
    go_wp2_with fail
    obtain ⟨V3, hV3⟩ : ∃ x, x = V2.alloc (.cells #[.int .i64 r0, .int .i64 r1, .int .i64 r2, .int .i64 r3] 33) := ⟨_, rfl⟩
    have hb : Below V2.heap.size V2 V3 := by subst hV3; exact (Below.refl _ _).alloc (Nat.le_refl _) _
    have k50 : V3.cell? ⟨V2.heap.size, 0, none⟩ = some (.int .i64 r0) := by subst hV3; simp [go_sem]
    have k51 : V3.cell? ⟨V2.heap.size, 1, none⟩ = some (.int .i64 r1) := by subst hV3; simp [go_sem]
    have k52 : V3.cell? ⟨V2.heap.size, 2, none⟩ = some (.int .i64 r2) := by subst hV3; simp [go_sem]
    have k53 : V3.cell? ⟨V2.heap.size, 3, none⟩ = some (.int .i64 r3) := by subst hV3; simp [go_sem]
    have K5 : V2.heap.size < V3.heap.size := by subst hV3; simp
    have hS5 := Lib.hid (show V3.heap.size = V2.heap.size + 1 by subst hV3; simp)
    rw [← hV3]
    clear hV3
    replace HD := HD.trans (hb.mono HD.size)
    obtain ⟨hc, hf⟩ := bcell hb
    have hz := hb.size
    replace b00 := (hc _ 0 L0).trans b00
    replace b01 := (hc _ 1 L0).trans b01
    replace b02 := (hc _ 2 L0).trans b02
    replace b03 := (hc _ 3 L0).trans b03
    replace b04 := (hc _ 4 L0).trans b04
    replace b05 := (hc _ 5 L0).trans b05
    replace b06 := (hc _ 6 L0).trans b06
    replace b07 := (hc _ 7 L0).trans b07
    replace b08 := (hc _ 8 L0).trans b08
    replace FV := Lib.hid (RowAt.below FV.out hb)
    replace L0 := Nat.lt_of_lt_of_le L0 hz
    clear hc hf hz hb
    obtain ⟨C5, hC5⟩ : ∃ x, x = V2.heap.size := ⟨_, rfl⟩
    rw [← hC5] at k50 k51 k52 k53 K5
    try rw [← hC5]
    replace hC5 := Lib.hid hC5
    refine (C2.out _ FV.out).mono ?_
    rintro e V4 ⟨rfl, hb⟩
    replace HD := HD.trans (hb.mono HD.size)
    obtain ⟨hc, hf⟩ := bcell hb
    have hz := hb.size
    replace b00 := (hc _ 0 L0).trans b00
    replace b01 := (hc _ 1 L0).trans b01
    replace b02 := (hc _ 2 L0).trans b02
    replace b03 := (hc _ 3 L0).trans b03
    replace b04 := (hc _ 4 L0).trans b04
    replace b05 := (hc _ 5 L0).trans b05
    replace b06 := (hc _ 6 L0).trans b06
    replace b07 := (hc _ 7 L0).trans b07
    replace b08 := (hc _ 8 L0).trans b08
    replace k50 := (hc _ 0 K5).trans k50
    replace k51 := (hc _ 1 K5).trans k51
    replace k52 := (hc _ 2 K5).trans k52
    replace k53 := (hc _ 3 K5).trans k53
    replace FV := Lib.hid (RowAt.below FV.out hb)
    replace L0 := Nat.lt_of_lt_of_le L0 hz
    replace K5 := Nat.lt_of_lt_of_le K5 hz
    clear hc hf hz hb
    go_wp2_with fail
    go_ret
    exact ⟨rfl, HD.alloc HD.size _⟩
  case pos =>
    subst E
    obtain ⟨i, rfl, hi, hseg, hsd⟩ := hlaw r0 r1 r2 r3 rfl
    clear hlaw
    obtain ⟨b, off, rfl, hlt, m0, m1, m2, m3, m4⟩ := mark_cell FV.out hi
    generalize (mk l i).name = mn at *
    generalize (mk l i).x = mx at *
    generalize (mk l i).y = my at *
    generalize (mk l i).s = ms at *
    generalize (mk l i).z = mz at *
    have hi0 : (0 : Int) ≤ (i : Int) := by omega
    have hi1 : (i : Int) < (l.length : Int) := by omega
    rcases hsd with ⟨rfl, rfl, rfl⟩ | ⟨rfl, rfl, rfl⟩
    · have MF : RowMk W b (off + i * 5) _ _ _ _ _ := ⟨hlt, m0, m1, m2, m3, m4⟩
      have MF := Lib.hid MF
      clear m0 m1 m2 m3 m4 hlt
      refine (C1.out _ FV.out).mono ?_
      rintro e V2 ⟨rfl, hb⟩
      replace HD := HD.trans (hb.mono HD.size)
      obtain ⟨hc, hf⟩ := bcell hb
      have hz := hb.size
      replace b00 := (hc _ 0 L0).trans b00
      replace b01 := (hc _ 1 L0).trans b01
      replace b02 := (hc _ 2 L0).trans b02
      replace b03 := (hc _ 3 L0).trans b03
      replace b04 := (hc _ 4 L0).trans b04
      replace b05 := (hc _ 5 L0).trans b05
      replace b06 := (hc _ 6 L0).trans b06
      replace b07 := (hc _ 7 L0).trans b07
      replace b08 := (hc _ 8 L0).trans b08
      replace FV := Lib.hid (RowAt.below FV.out hb)
      replace MF := Lib.hid (RowMk.below MF.out hb)
      replace L0 := Nat.lt_of_lt_of_le L0 hz
      clear hc hf hz hb
      go_wp2_with fail
      obtain ⟨V3, hV3⟩ : ∃ x, x = V2.alloc (.cells #[.int .i64 r0, .int .i64 r1, .int .i64 r2, .int .i64 r3] 33) := ⟨_, rfl⟩
      have hb : Below V2.heap.size V2 V3 := by subst hV3; exact (Below.refl _ _).alloc (Nat.le_refl _) _
      have k50 : V3.cell? ⟨V2.heap.size, 0, none⟩ = some (.int .i64 r0) := by subst hV3; simp [go_sem]
      have k51 : V3.cell? ⟨V2.heap.size, 1, none⟩ = some (.int .i64 r1) := by subst hV3; simp [go_sem]
      have k52 : V3.cell? ⟨V2.heap.size, 2, none⟩ = some (.int .i64 r2) := by subst hV3; simp [go_sem]
      have k53 : V3.cell? ⟨V2.heap.size, 3, none⟩ = some (.int .i64 r3) := by subst hV3; simp [go_sem]
      have K5 : V2.heap.size < V3.heap.size := by subst hV3; simp
      have hS5 := Lib.hid (show V3.heap.size = V2.heap.size + 1 by subst hV3; simp)
      rw [← hV3]
      clear hV3
      replace HD := HD.trans (hb.mono HD.size)
      obtain ⟨hc, hf⟩ := bcell hb
      have hz := hb.size
      replace b00 := (hc _ 0 L0).trans b00
      replace b01 := (hc _ 1 L0).trans b01
      replace b02 := (hc _ 2 L0).trans b02
      replace b03 := (hc _ 3 L0).trans b03
      replace b04 := (hc _ 4 L0).trans b04
      replace b05 := (hc _ 5 L0).trans b05
      replace b06 := (hc _ 6 L0).trans b06
      replace b07 := (hc _ 7 L0).trans b07
      replace b08 := (hc _ 8 L0).trans b08
      replace FV := Lib.hid (RowAt.below FV.out hb)
      replace MF := Lib.hid (RowMk.below MF.out hb)
      replace L0 := Nat.lt_of_lt_of_le L0 hz
      clear hc hf hz hb
      obtain ⟨C5, hC5⟩ : ∃ x, x = V2.heap.size := ⟨_, rfl⟩
      rw [← hC5] at k50 k51 k52 k53 K5
      try rw [← hC5]
      replace hC5 := Lib.hid hC5
      refine (C2.out _ FV.out).mono ?_
      rintro e V4 ⟨rfl, hb⟩
      replace HD := HD.trans (hb.mono HD.size)
      obtain ⟨hc, hf⟩ := bcell hb
      have hz := hb.size
      replace b00 := (hc _ 0 L0).trans b00
      replace b01 := (hc _ 1 L0).trans b01
      replace b02 := (hc _ 2 L0).trans b02
      replace b03 := (hc _ 3 L0).trans b03
      replace b04 := (hc _ 4 L0).trans b04
      replace b05 := (hc _ 5 L0).trans b05
      replace b06 := (hc _ 6 L0).trans b06
      replace b07 := (hc _ 7 L0).trans b07
      replace b08 := (hc _ 8 L0).trans b08
      replace k50 := (hc _ 0 K5).trans k50
      replace k51 := (hc _ 1 K5).trans k51
      replace k52 := (hc _ 2 K5).trans k52
      replace k53 := (hc _ 3 K5).trans k53
      replace FV := Lib.hid (RowAt.below FV.out hb)
      replace MF := Lib.hid (RowMk.below MF.out hb)
      replace L0 := Nat.lt_of_lt_of_le L0 hz
      replace K5 := Nat.lt_of_lt_of_le K5 hz
      clear hc hf hz hb
      obtain ⟨hlt, m0, m1, m2, m3, m4⟩ := MF.out
      go_wp2_with fail
      clear m0 m1 m2 m3 m4 hlt MF
      obtain ⟨V5, hV5⟩ : ∃ x, x = V4.alloc (.cells #[.int .i64 r0, .int .i64 r1, .int .i64 r2, .int .i64 r3] 33) := ⟨_, rfl⟩
      have hb : Below V4.heap.size V4 V5 := by subst hV5; exact (Below.refl _ _).alloc (Nat.le_refl _) _
      have k70 : V5.cell? ⟨V4.heap.size, 0, none⟩ = some (.int .i64 r0) := by subst hV5; simp [go_sem]
      have k71 : V5.cell? ⟨V4.heap.size, 1, none⟩ = some (.int .i64 r1) := by subst hV5; simp [go_sem]
      have k72 : V5.cell? ⟨V4.heap.size, 2, none⟩ = some (.int .i64 r2) := by subst hV5; simp [go_sem]
      have k73 : V5.cell? ⟨V4.heap.size, 3, none⟩ = some (.int .i64 r3) := by subst hV5; simp [go_sem]
      have K7 : V4.heap.size < V5.heap.size := by subst hV5; simp
      have hS7 := Lib.hid (show V5.heap.size = V4.heap.size + 1 by subst hV5; simp)
      rw [← hV5]
      clear hV5
      replace HD := HD.trans (hb.mono HD.size)
      obtain ⟨hc, hf⟩ := bcell hb
      have hz := hb.size
      replace b00 := (hc _ 0 L0).trans b00
      replace b01 := (hc _ 1 L0).trans b01
      replace b02 := (hc _ 2 L0).trans b02
      replace b03 := (hc _ 3 L0).trans b03
      replace b04 := (hc _ 4 L0).trans b04
      replace b05 := (hc _ 5 L0).trans b05
      replace b06 := (hc _ 6 L0).trans b06
      replace b07 := (hc _ 7 L0).trans b07
      replace b08 := (hc _ 8 L0).trans b08
      replace k50 := (hc _ 0 K5).trans k50
      replace k51 := (hc _ 1 K5).trans k51
      replace k52 := (hc _ 2 K5).trans k52
      replace k53 := (hc _ 3 K5).trans k53
      replace FV := Lib.hid (RowAt.below FV.out hb)
      replace L0 := Nat.lt_of_lt_of_le L0 hz
      replace K5 := Nat.lt_of_lt_of_le K5 hz
      clear hc hf hz hb
      obtain ⟨C7, hC7⟩ : ∃ x, x = V4.heap.size := ⟨_, rfl⟩
      rw [← hC7] at k70 k71 k72 k73 K7
      try rw [← hC7]
      replace hC7 := Lib.hid hC7
      obtain ⟨V6, hV6⟩ : ∃ x, x = V5.alloc (.cells #[.string mn, .int .i64 r0, .int .i64 r1, .int .i64 1, .int .i64 mz] 64) := ⟨_, rfl⟩
      have hb : Below V5.heap.size V5 V6 := by subst hV6; exact (Below.refl _ _).alloc (Nat.le_refl _) _
      have k90 : V6.cell? ⟨V5.heap.size, 0, none⟩ = some (.string mn) := by subst hV6; simp [go_sem]
      have k91 : V6.cell? ⟨V5.heap.size, 1, none⟩ = some (.int .i64 r0) := by subst hV6; simp [go_sem]
      have k92 : V6.cell? ⟨V5.heap.size, 2, none⟩ = some (.int .i64 r1) := by subst hV6; simp [go_sem]
      have k93 : V6.cell? ⟨V5.heap.size, 3, none⟩ = some (.int .i64 1) := by subst hV6; simp [go_sem]
      have k94 : V6.cell? ⟨V5.heap.size, 4, none⟩ = some (.int .i64 mz) := by subst hV6; simp [go_sem]
      have K9 : V5.heap.size < V6.heap.size := by subst hV6; simp
      have hS9 := Lib.hid (show V6.heap.size = V5.heap.size + 1 by subst hV6; simp)
      rw [← hV6]
      clear hV6
      replace HD := HD.trans (hb.mono HD.size)
      obtain ⟨hc, hf⟩ := bcell hb
      have hz := hb.size
      replace b00 := (hc _ 0 L0).trans b00
      replace b01 := (hc _ 1 L0).trans b01
      replace b02 := (hc _ 2 L0).trans b02
      replace b03 := (hc _ 3 L0).trans b03
      replace b04 := (hc _ 4 L0).trans b04
      replace b05 := (hc _ 5 L0).trans b05
      replace b06 := (hc _ 6 L0).trans b06
      replace b07 := (hc _ 7 L0).trans b07
      replace b08 := (hc _ 8 L0).trans b08
      replace k50 := (hc _ 0 K5).trans k50
      replace k51 := (hc _ 1 K5).trans k51
      replace k52 := (hc _ 2 K5).trans k52
      replace k53 := (hc _ 3 K5).trans k53
      replace k70 := (hc _ 0 K7).trans k70
      replace k71 := (hc _ 1 K7).trans k71
      replace k72 := (hc _ 2 K7).trans k72
      replace k73 := (hc _ 3 K7).trans k73
      replace FV := Lib.hid (RowAt.below FV.out hb)
      replace L0 := Nat.lt_of_lt_of_le L0 hz
      replace K5 := Nat.lt_of_lt_of_le K5 hz
      replace K7 := Nat.lt_of_lt_of_le K7 hz
      clear hc hf hz hb
      obtain ⟨C9, hC9⟩ : ∃ x, x = V5.heap.size := ⟨_, rfl⟩
      rw [← hC9] at k90 k91 k92 k93 k94 K9
      try rw [← hC9]
      replace hC9 := Lib.hid hC9
      have h79 : C7 + 1 = C9 := by have g1 := hS7.out; have g2 := hC7.out; have g3 := hC9.out; omega
      rw [h79]
      clear h79
      refine (isLine_c r0 r1 r2 r3 V6).mono ?_
      rintro e V7 ⟨rfl, hb⟩
      rw [hseg]
      replace HD := HD.trans (hb.mono HD.size)
      obtain ⟨hc, hf⟩ := bcell hb
      have hz := hb.size
      replace b00 := (hc _ 0 L0).trans b00
      replace b01 := (hc _ 1 L0).trans b01
      replace b02 := (hc _ 2 L0).trans b02
      replace b03 := (hc _ 3 L0).trans b03
      replace b04 := (hc _ 4 L0).trans b04
      replace b05 := (hc _ 5 L0).trans b05
      replace b06 := (hc _ 6 L0).trans b06
      replace b07 := (hc _ 7 L0).trans b07
      replace b08 := (hc _ 8 L0).trans b08
      replace k50 := (hc _ 0 K5).trans k50
      replace k51 := (hc _ 1 K5).trans k51
      replace k52 := (hc _ 2 K5).trans k52
      replace k53 := (hc _ 3 K5).trans k53
      replace k70 := (hc _ 0 K7).trans k70
      replace k71 := (hc _ 1 K7).trans k71
      replace k72 := (hc _ 2 K7).trans k72
      replace k73 := (hc _ 3 K7).trans k73
      replace k90 := (hc _ 0 K9).trans k90
      replace k91 := (hc _ 1 K9).trans k91
      replace k92 := (hc _ 2 K9).trans k92
      replace k93 := (hc _ 3 K9).trans k93
      replace k94 := (hc _ 4 K9).trans k94
      replace FV := Lib.hid (RowAt.below FV.out hb)
      replace L0 := Nat.lt_of_lt_of_le L0 hz
      replace K5 := Nat.lt_of_lt_of_le K5 hz
      replace K7 := Nat.lt_of_lt_of_le K7 hz
      replace K9 := Nat.lt_of_lt_of_le K9 hz
      clear hc hf hz hb
      go_wp2_with fail
      go_ret
      exact ⟨rfl, HD⟩
    · have MF : RowMk W b (off + i * 5) _ _ _ _ _ := ⟨hlt, m0, m1, m2, m3, m4⟩
      have MF := Lib.hid MF
      clear m0 m1 m2 m3 m4 hlt
      refine (C1.out _ FV.out).mono ?_
      rintro e V2 ⟨rfl, hb⟩
      replace HD := HD.trans (hb.mono HD.size)
      obtain ⟨hc, hf⟩ := bcell hb
      have hz := hb.size
      replace b00 := (hc _ 0 L0).trans b00
      replace b01 := (hc _ 1 L0).trans b01
      replace b02 := (hc _ 2 L0).trans b02
      replace b03 := (hc _ 3 L0).trans b03
      replace b04 := (hc _ 4 L0).trans b04
      replace b05 := (hc _ 5 L0).trans b05
      replace b06 := (hc _ 6 L0).trans b06
      replace b07 := (hc _ 7 L0).trans b07
      replace b08 := (hc _ 8 L0).trans b08
      replace FV := Lib.hid (RowAt.below FV.out hb)
      replace MF := Lib.hid (RowMk.below MF.out hb)
      replace L0 := Nat.lt_of_lt_of_le L0 hz
      clear hc hf hz hb
      go_wp2_with fail
      obtain ⟨V3, hV3⟩ : ∃ x, x = V2.alloc (.cells #[.int .i64 r0, .int .i64 r1, .int .i64 r2, .int .i64 r3] 33) := ⟨_, rfl⟩
      have hb : Below V2.heap.size V2 V3 := by subst hV3; exact (Below.refl _ _).alloc (Nat.le_refl _) _
      have k50 : V3.cell? ⟨V2.heap.size, 0, none⟩ = some (.int .i64 r0) := by subst hV3; simp [go_sem]
      have k51 : V3.cell? ⟨V2.heap.size, 1, none⟩ = some (.int .i64 r1) := by subst hV3; simp [go_sem]
      have k52 : V3.cell? ⟨V2.heap.size, 2, none⟩ = some (.int .i64 r2) := by subst hV3; simp [go_sem]
      have k53 : V3.cell? ⟨V2.heap.size, 3, none⟩ = some (.int .i64 r3) := by subst hV3; simp [go_sem]
      have K5 : V2.heap.size < V3.heap.size := by subst hV3; simp
      have hS5 := Lib.hid (show V3.heap.size = V2.heap.size + 1 by subst hV3; simp)
      rw [← hV3]
      clear hV3
      replace HD := HD.trans (hb.mono HD.size)
      obtain ⟨hc, hf⟩ := bcell hb
      have hz := hb.size
      replace b00 := (hc _ 0 L0).trans b00
      replace b01 := (hc _ 1 L0).trans b01
      replace b02 := (hc _ 2 L0).trans b02
      replace b03 := (hc _ 3 L0).trans b03
      replace b04 := (hc _ 4 L0).trans b04
      replace b05 := (hc _ 5 L0).trans b05
      replace b06 := (hc _ 6 L0).trans b06
      replace b07 := (hc _ 7 L0).trans b07
      replace b08 := (hc _ 8 L0).trans b08
      replace FV := Lib.hid (RowAt.below FV.out hb)
      replace MF := Lib.hid (RowMk.below MF.out hb)
      replace L0 := Nat.lt_of_lt_of_le L0 hz
      clear hc hf hz hb
      obtain ⟨C5, hC5⟩ : ∃ x, x = V2.heap.size := ⟨_, rfl⟩
      rw [← hC5] at k50 k51 k52 k53 K5
      try rw [← hC5]
      replace hC5 := Lib.hid hC5
      refine (C2.out _ FV.out).mono ?_
      rintro e V4 ⟨rfl, hb⟩
      replace HD := HD.trans (hb.mono HD.size)
      obtain ⟨hc, hf⟩ := bcell hb
      have hz := hb.size
      replace b00 := (hc _ 0 L0).trans b00
      replace b01 := (hc _ 1 L0).trans b01
      replace b02 := (hc _ 2 L0).trans b02
      replace b03 := (hc _ 3 L0).trans b03
      replace b04 := (hc _ 4 L0).trans b04
      replace b05 := (hc _ 5 L0).trans b05
      replace b06 := (hc _ 6 L0).trans b06
      replace b07 := (hc _ 7 L0).trans b07
      replace b08 := (hc _ 8 L0).trans b08
      replace k50 := (hc _ 0 K5).trans k50
      replace k51 := (hc _ 1 K5).trans k51
      replace k52 := (hc _ 2 K5).trans k52
      replace k53 := (hc _ 3 K5).trans k53
      replace FV := Lib.hid (RowAt.below FV.out hb)
      replace MF := Lib.hid (RowMk.below MF.out hb)
      replace L0 := Nat.lt_of_lt_of_le L0 hz
      replace K5 := Nat.lt_of_lt_of_le K5 hz
      clear hc hf hz hb
      obtain ⟨hlt, m0, m1, m2, m3, m4⟩ := MF.out
      go_wp2_with fail
      clear m0 m1 m2 m3 m4 hlt MF
      obtain ⟨V5, hV5⟩ : ∃ x, x = V4.alloc (.cells #[.int .i64 r0, .int .i64 r1, .int .i64 r2, .int .i64 r3] 33) := ⟨_, rfl⟩
      have hb : Below V4.heap.size V4 V5 := by subst hV5; exact (Below.refl _ _).alloc (Nat.le_refl _) _
      have k70 : V5.cell? ⟨V4.heap.size, 0, none⟩ = some (.int .i64 r0) := by subst hV5; simp [go_sem]
      have k71 : V5.cell? ⟨V4.heap.size, 1, none⟩ = some (.int .i64 r1) := by subst hV5; simp [go_sem]
      have k72 : V5.cell? ⟨V4.heap.size, 2, none⟩ = some (.int .i64 r2) := by subst hV5; simp [go_sem]
      have k73 : V5.cell? ⟨V4.heap.size, 3, none⟩ = some (.int .i64 r3) := by subst hV5; simp [go_sem]
      have K7 : V4.heap.size < V5.heap.size := by subst hV5; simp
      have hS7 := Lib.hid (show V5.heap.size = V4.heap.size + 1 by subst hV5; simp)
      rw [← hV5]
      clear hV5
      replace HD := HD.trans (hb.mono HD.size)
      obtain ⟨hc, hf⟩ := bcell hb
      have hz := hb.size
      replace b00 := (hc _ 0 L0).trans b00
      replace b01 := (hc _ 1 L0).trans b01
      replace b02 := (hc _ 2 L0).trans b02
      replace b03 := (hc _ 3 L0).trans b03
      replace b04 := (hc _ 4 L0).trans b04
      replace b05 := (hc _ 5 L0).trans b05
      replace b06 := (hc _ 6 L0).trans b06
      replace b07 := (hc _ 7 L0).trans b07
      replace b08 := (hc _ 8 L0).trans b08
      replace k50 := (hc _ 0 K5).trans k50
      replace k51 := (hc _ 1 K5).trans k51
      replace k52 := (hc _ 2 K5).trans k52
      replace k53 := (hc _ 3 K5).trans k53
      replace FV := Lib.hid (RowAt.below FV.out hb)
      replace L0 := Nat.lt_of_lt_of_le L0 hz
      replace K5 := Nat.lt_of_lt_of_le K5 hz
      clear hc hf hz hb
      obtain ⟨C7, hC7⟩ : ∃ x, x = V4.heap.size := ⟨_, rfl⟩
      rw [← hC7] at k70 k71 k72 k73 K7
      try rw [← hC7]
      replace hC7 := Lib.hid hC7
      obtain ⟨V6, hV6⟩ : ∃ x, x = V5.alloc (.cells #[.string mn, .int .i64 r2, .int .i64 r3, .int .i64 2, .int .i64 mz] 64) := ⟨_, rfl⟩
      have hb : Below V5.heap.size V5 V6 := by subst hV6; exact (Below.refl _ _).alloc (Nat.le_refl _) _
      have k90 : V6.cell? ⟨V5.heap.size, 0, none⟩ = some (.string mn) := by subst hV6; simp [go_sem]
      have k91 : V6.cell? ⟨V5.heap.size, 1, none⟩ = some (.int .i64 r2) := by subst hV6; simp [go_sem]
      have k92 : V6.cell? ⟨V5.heap.size, 2, none⟩ = some (.int .i64 r3) := by subst hV6; simp [go_sem]
      have k93 : V6.cell? ⟨V5.heap.size, 3, none⟩ = some (.int .i64 2) := by subst hV6; simp [go_sem]
      have k94 : V6.cell? ⟨V5.heap.size, 4, none⟩ = some (.int .i64 mz) := by subst hV6; simp [go_sem]
      have K9 : V5.heap.size < V6.heap.size := by subst hV6; simp
      have hS9 := Lib.hid (show V6.heap.size = V5.heap.size + 1 by subst hV6; simp)
      rw [← hV6]
      clear hV6
      replace HD := HD.trans (hb.mono HD.size)
      obtain ⟨hc, hf⟩ := bcell hb
      have hz := hb.size
      replace b00 := (hc _ 0 L0).trans b00
      replace b01 := (hc _ 1 L0).trans b01
      replace b02 := (hc _ 2 L0).trans b02
      replace b03 := (hc _ 3 L0).trans b03
      replace b04 := (hc _ 4 L0).trans b04
      replace b05 := (hc _ 5 L0).trans b05
      replace b06 := (hc _ 6 L0).trans b06
      replace b07 := (hc _ 7 L0).trans b07
      replace b08 := (hc _ 8 L0).trans b08
      replace k50 := (hc _ 0 K5).trans k50
      replace k51 := (hc _ 1 K5).trans k51
      replace k52 := (hc _ 2 K5).trans k52
      replace k53 := (hc _ 3 K5).trans k53
      replace k70 := (hc _ 0 K7).trans k70
      replace k71 := (hc _ 1 K7).trans k71
      replace k72 := (hc _ 2 K7).trans k72
      replace k73 := (hc _ 3 K7).trans k73
      replace FV := Lib.hid (RowAt.below FV.out hb)
      replace L0 := Nat.lt_of_lt_of_le L0 hz
      replace K5 := Nat.lt_of_lt_of_le K5 hz
      replace K7 := Nat.lt_of_lt_of_le K7 hz
      clear hc hf hz hb
      obtain ⟨C9, hC9⟩ : ∃ x, x = V5.heap.size := ⟨_, rfl⟩
      rw [← hC9] at k90 k91 k92 k93 k94 K9
      try rw [← hC9]
      replace hC9 := Lib.hid hC9
      have h79 : C7 + 1 = C9 := by have g1 := hS7.out; have g2 := hC7.out; have g3 := hC9.out; omega
      rw [h79]
      clear h79
      refine (isLine_c r0 r1 r2 r3 V6).mono ?_
      rintro e V7 ⟨rfl, hb⟩
      rw [hseg]
      replace HD := HD.trans (hb.mono HD.size)
      obtain ⟨hc, hf⟩ := bcell hb
      have hz := hb.size
      replace b00 := (hc _ 0 L0).trans b00
      replace b01 := (hc _ 1 L0).trans b01
      replace b02 := (hc _ 2 L0).trans b02
      replace b03 := (hc _ 3 L0).trans b03
      replace b04 := (hc _ 4 L0).trans b04
      replace b05 := (hc _ 5 L0).trans b05
      replace b06 := (hc _ 6 L0).trans b06
      replace b07 := (hc _ 7 L0).trans b07
      replace b08 := (hc _ 8 L0).trans b08
      replace k50 := (hc _ 0 K5).trans k50
      replace k51 := (hc _ 1 K5).trans k51
      replace k52 := (hc _ 2 K5).trans k52
      replace k53 := (hc _ 3 K5).trans k53
      replace k70 := (hc _ 0 K7).trans k70
      replace k71 := (hc _ 1 K7).trans k71
      replace k72 := (hc _ 2 K7).trans k72
      replace k73 := (hc _ 3 K7).trans k73
      replace k90 := (hc _ 0 K9).trans k90
      replace k91 := (hc _ 1 K9).trans k91
      replace k92 := (hc _ 2 K9).trans k92
      replace k93 := (hc _ 3 K9).trans k93
      replace k94 := (hc _ 4 K9).trans k94
      replace FV := Lib.hid (RowAt.below FV.out hb)
      replace L0 := Nat.lt_of_lt_of_le L0 hz
      replace K5 := Nat.lt_of_lt_of_le K5 hz
      replace K7 := Nat.lt_of_lt_of_le K7 hz
      replace K9 := Nat.lt_of_lt_of_le K9 hz
      clear hc hf hz hb
      go_wp2_with fail
      go_ret
      exact ⟨rfl, HD⟩

theorem own : ownKnob Tryd.prog.godebug = none := by kernel_rfl
theorem laidOut : laidOutB Tryd.prog = true := by kernel_rfl
set_option maxRecDepth 100000 in
theorem lifted (os : Os) (started : os.Started) (H : Type) (enc : TypeId × Value → H) :
    ReturnsInHanded {} Tryd.checked os 9 .any (fun w args => (Rows.fnRoundingSpec.pre enc Tryd.prog Tryd.f9 Rows.fnRoundingRow.domain false w args ∧ laidMetH Tryd.prog Rows.fnRoundingRow.laid w) ∧ sizedMet enc Tryd.prog Tryd.f9 (OpenSpec.ofChange Rows.fnRoundingSpec) false w args)
      (Rows.fnRoundingSpec.post enc Tryd.prog Tryd.f9 false true false false) := by
  refine returnsInHanded_of_change_and (C := Tryd.checked) (X := fun w _ => laidMetH Tryd.prog Rows.fnRoundingRow.laid w) (fun _ _ _ hh h => h.of_heap hh) own started (by kernel_rfl) Tryd.func9
    (ChangeSpec.witness_shaped (enc := enc) (C := Tryd.checked) (os := os) (X := fun w _ => laidMetH Tryd.prog Rows.fnRoundingRow.laid w) false (World.laidAll Tryd.prog os Rows.fnRoundingRow.laid) #[.slice none 0 0] 8 (World.laidAll_os _ _ _)
      (World.shaped_of_ZipB (by kernel_rfl) (by kernel_rfl)) (by kernel_rfl) (by kernel_rfl) (by kernel_rfl)
      (by rw [MakeChecks.laidMetH_plain _ _ _ (by kernel_rfl)]; exact laidMet_laidAll _ (by kernel_rfl) (by kernel_rfl))) ?_
  intro W base args ds gs before hval0 hW _ _ hLaid _
  have hval : ∀ (j : Nat) t v, Tryd.f9.params[j]? = some t → args[j]? = some v → Value.okWide Tryd.prog W .any base t v := hval0
  have hW' := hW
  obtain ⟨p, q, hA0, hV, rfl, hfz, hnd⟩ := hW
  have hA : DataW.TrodAll enc Tryd.prog W 0 (fun _ => true) true Tryd.f9.params.toList args.toList ds p := hA0
  rw [Tryd.params9] at hA hval
  obtain ⟨v0, vs0, d0, ds0, p0, q0, hargs, rfl, rfl, h0, r0⟩ := trodAll_cons hA
  obtain ⟨rfl, rfl, rfl⟩ := trodAll_nil r0
  obtain rfl : args = #[v0] := by cases args; simp_all
  obtain ⟨rfl, rfl⟩ := trodVars_none hV
  have k0 := h0
  have lt0 : ∀ x ∈ p0, x.block < W.heap.size := by obtain ⟨m, hm⟩ := k0; exact DataW.trod_lt m _ _ _ hm
  obtain ⟨⟨a0, cap0⟩, n0, rfl, w0⟩ := open_bytes Tryd.underlying43 Tryd.underlying5 (by kernel_rfl) (hval 0 43 v0 rfl rfl) h0
  clear hA0 hval0
  refine (walk a0 cap0 n0 W w0).mono fun e W' ⟨he, bel⟩ => ?_
  subst he
  exact ⟨_, rfl, _, _, _, [], _, [], hW', trodAll_mk1 (shut_bool Tryd.underlying4 _), (trodAll_cons_mk (Below.trod laidOut (by kernel_rfl) (of_decide_eq_true (by kernel_rfl)) k0 bel lt0) trodAll_mk0), rfl, bel.frame _, fun h => by cases h⟩

theorem over : Rows.fnRoundingRow.holds Tryd.pinned (OpenSpec.ofChange Rows.fnRoundingSpec) :=
  OpenClaim.holds_of_wide 9 Tryd.f9 rfl rfl rfl rfl rfl rfl rfl ⟨rfl, rfl, rfl, rfl, rfl⟩ rfl rfl rfl rfl rfl (by kernel_rfl) Tryd.func9 (by kernel_rfl)
    (of_decide_eq_true (by kernel_rfl)) (by unfold Func.isWrapper; first | (rw [if_pos (by decide +kernel)]; kernel_rfl) | (rw [if_neg (by decide +kernel)]; exact ⟨rfl, rfl⟩))
    (fun os started H enc _ => lifted os started H enc)

theorem carded : Rows.FnRoundingCardSaid :=
  Claim7.holds_tied_plain_at .later [] [.data, .pinned] true (true, "307a91a8220387b471f0a43c3da6393a48704f163f4c354a897a299e0390cb65") false over (fun _ h => by cases h) (by kernel_rfl) (fun _ h => by cases h) fnRounding_row_tie rfl ⟨rfl, rfl⟩ (by kernel_rfl) rfl
    (fun f fn hf hfn => by
      obtain rfl : f = 9 := Option.some.inj ((show Tryd.prog.funcNamed "loop.example/g00887/laws.FnRounding" = some 9 by kernel_rfl).symm.trans hf) |>.symm
      obtain rfl : fn = Tryd.f9 := (Option.some.inj (Tryd.func9.symm.trans hfn)).symm
      exact ⟨by kernel_rfl, fun j t ht => by
        rw [Tryd.params9] at ht
        have hm : t ∈ [43] := by simpa using Array.mem_of_getElem? ht
        have hall : ([43].all fun u => !Tryd.prog.wantsStandIn u) = true := by kernel_rfl
        exact (show Tryd.prog.wantsStandIn t = false by simpa using List.all_eq_true.1 hall t hm)⟩)
    (by kernel_rfl)

/-- The statement. -/
theorem proved : Rows.FnRoundingCardSaid := carded
end Go.Proofs.YtbeigoejdckpiaaDoor.fnRounding
