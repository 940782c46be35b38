/-
  FnShorten: for every code the law's function answers true. No condition.
-/
import Derived.Test.YtbeigoejdckpiaaDoorRows
import Derived.Test.YtbeigoejdckpiaaDoorTie
import Derived.Test.YtbeigoejdckpiaaDoorCards
import Derived.Test.YtbeigoejdckpiaaDoorCdraw5
import Derived.Test.YtbeigoejdckpiaaDoorCw9
import Derived.LaidMore
import Derived.Lay
import Derived.SevenTiedAt
namespace Go.Proofs.YtbeigoejdckpiaaDoor.fnShorten
open Go.ChangeShapes Go.WideShapes Go.ChangeAt Go.RowKit Go.Deep
open Go.ChangeMaps (open_string shut_string)
set_option linter.unusedVariables false

theorem own_capA {w : World} {base n cap size : Nat} {a : Option Addr} {e : TypeId} {xs : List Value} (h : w.ownsRow base e size (.slice a n cap) n xs) : n ≤ cap := by
  rcases h.2 with ⟨h2, h3⟩ | ⟨g', cap', cur, hv, hb, hh, hc, _⟩
  · simp at h2; omega
  · simp at hv; omega
theorem sh_law {x0 x1 x2 x3 x4 x5 x6 x7 : Int} {l : List Mk} {k y0 y1 y2 y3 z0 z1 z2 z3 z4 z5 z6 z7 : Int} {M : List Mk} (h : shR x0 x1 x2 x3 x4 x5 x6 x7 l k y0 y1 y2 y3 = ⟨z0, z1, z2, z3, z4, z5, z6, z7, M, 0⟩) : courseOK z0 z1 z2 z3 z4 z5 z6 z7 M = true ∧ z4 = y0 ∧ z5 = y1 ∧ z6 = y2 ∧ z7 = y3 ∧ (M.length : Int) = k ∧ shR z0 z1 z2 z3 z4 z5 z6 z7 M k y0 y1 y2 y3 = ⟨z0, z1, z2, z3, z4, z5, z6, z7, M, 0⟩ ∧ (∀ m ∈ M, m ∈ l) := by
  unfold shR at h
  split at h
  · rename_i hc
    split at h
    · rename_i hk
      split at h
      · rename_i ho
        simp only [Sh.mk.injEq, and_true] at h
        obtain ⟨rfl, rfl, rfl, rfl, rfl, rfl, rfl, rfl, rfl⟩ := h
        obtain ⟨k0, k1⟩ := inR_true hk
        have hl : ((l.take k.toNat).length : Int) = k := by rw [List.length_take]; omega
        have ht : (l.take k.toNat).take k.toNat = l.take k.toNat := by rw [List.take_take, Nat.min_self]
        have hk2 : inR k 1 ((l.take k.toNat).length : Int) = true := by rw [hl]; simp [inR]; omega
        refine ⟨ho, rfl, rfl, rfl, rfl, hl, ?_, fun m hm => List.mem_of_mem_take hm⟩
        unfold shR
        rw [if_pos ho, if_pos hk2, ht, if_pos ho]
      · simp at h
    · simp at h
  · simp at h

set_option maxRecDepth 100000 in
set_option maxHeartbeats 4000000 in
theorem walk (a : Option Addr) (cap n : Nat) (w : World) (w0 : n ≤ 9223372036854775807 ∧ BytesB w.heap.size w a n) :
    Calls Tryd.prog 5 #[.slice a n cap] w fun e w' => e = .returned (.bool true) ∧ Below w.heap.size w w' := by
  obtain ⟨hn, hb⟩ := w0
  have HB := Lib.hid hb
  clear hb
  by_cases h : (4096 : Int) < (n : Int)
  · have CB := Lib.hid (fun w => big_t a n cap w hn h)
    go_enter Tryd.func5, Tryd.ntmps5
    go_wp2_with (go_at_call 19; refine (CB.out _).mono ?_; rintro e w' ⟨rfl, rfl⟩)
    go_ret
    exact ⟨rfl, (by repeat (first | with_reducible exact Below.refl _ _ | with_reducible assumption | with_reducible refine Below.drew ?_ | with_reducible refine Below.alloc ?_ (by first | exact Nat.le_refl _ | (simp; done) | (simp; omega) | omega) _ | with_reducible refine Below.setCell ?_ (by first | exact Nat.le_refl _ | (simp; done) | (simp; omega) | omega) _ | with_reducible refine Below.trans ?_ (Below.mono (by with_reducible assumption) (by first | exact Nat.le_refl _ | (simp; done) | (simp; omega) | omega))))⟩
  have CB := Lib.hid (fun w => big_f a n cap w hn h)
  clear h
  go_enter Tryd.func5, Tryd.ntmps5
  go_wp2_with (go_at_call 19; refine (CB.out _).mono ?_; rintro e w' ⟨rfl, rfl⟩)
  refine (DrawShortenCourse_c a n cap _ hn (bytes_at HB.out (by repeat (first | with_reducible exact Below.refl _ _ | with_reducible assumption | with_reducible refine Below.drew ?_ | with_reducible refine Below.alloc ?_ (by first | exact Nat.le_refl _ | (simp; done) | (simp; omega) | omega) _ | with_reducible refine Below.setCell ?_ (by first | exact Nat.le_refl _ | (simp; done) | (simp; omega) | omega) _ | with_reducible refine Below.trans ?_ (Below.mono (by with_reducible assumption) (by first | exact Nat.le_refl _ | (simp; done) | (simp; omega) | omega)))))).mono ?_
  rintro e V1 ⟨⟨x0, x1, x2, x3, x4, x5, x6, x7, a9, cp, l, k, y0, y1, y2, y3, rfl, hl9, hns, ho⟩, hbV⟩
  clear CB HB
  have hzV := hbV.size
  go_wp2_with fail
  obtain ⟨W, hW⟩ : ∃ W, W = ((V1.alloc (.cells #[.int .i64 x0, .int .i64 x1, .int .i64 x2, .int .i64 x3, .int .i64 x4, .int .i64 x5, .int .i64 x6, .int .i64 x7, .slice a9 l.length cp] 36)).alloc (.cells #[.int .i64 y0, .int .i64 y1, .int .i64 y2, .int .i64 y3] 33)) := ⟨_, rfl⟩
  have HD : Below w.heap.size w W := by subst hW; exact (by repeat (first | with_reducible exact Below.refl _ _ | with_reducible assumption | with_reducible refine Below.drew ?_ | with_reducible refine Below.alloc ?_ (by first | exact Nat.le_refl _ | (simp; done) | (simp; omega) | omega) _ | with_reducible refine Below.setCell ?_ (by first | exact Nat.le_refl _ | (simp; done) | (simp; omega) | omega) _ | with_reducible refine Below.trans ?_ (Below.mono (by with_reducible assumption) (by first | exact Nat.le_refl _ | (simp; done) | (simp; omega) | omega))))
  have HV : Below V1.heap.size V1 W := by subst hW; exact (by repeat (first | with_reducible exact Below.refl _ _ | with_reducible assumption | with_reducible refine Below.drew ?_ | with_reducible refine Below.alloc ?_ (by first | exact Nat.le_refl _ | (simp; done) | (simp; omega) | omega) _ | with_reducible refine Below.setCell ?_ (by first | exact Nat.le_refl _ | (simp; done) | (simp; omega) | omega) _ | with_reducible refine Below.trans ?_ (Below.mono (by with_reducible assumption) (by first | exact Nat.le_refl _ | (simp; done) | (simp; omega) | omega))))
  have b00 : W.cell? ⟨V1.heap.size, 0, none⟩ = some (.int .i64 x0) := by subst hW; simp [go_sem]
  have b01 : W.cell? ⟨V1.heap.size, 1, none⟩ = some (.int .i64 x1) := by subst hW; simp [go_sem]
  have b02 : W.cell? ⟨V1.heap.size, 2, none⟩ = some (.int .i64 x2) := by subst hW; simp [go_sem]
  have b03 : W.cell? ⟨V1.heap.size, 3, none⟩ = some (.int .i64 x3) := by subst hW; simp [go_sem]
  have b04 : W.cell? ⟨V1.heap.size, 4, none⟩ = some (.int .i64 x4) := by subst hW; simp [go_sem]
  have b05 : W.cell? ⟨V1.heap.size, 5, none⟩ = some (.int .i64 x5) := by subst hW; simp [go_sem]
  have b06 : W.cell? ⟨V1.heap.size, 6, none⟩ = some (.int .i64 x6) := by subst hW; simp [go_sem]
  have b07 : W.cell? ⟨V1.heap.size, 7, none⟩ = some (.int .i64 x7) := by subst hW; simp [go_sem]
  have b08 : W.cell? ⟨V1.heap.size, 8, none⟩ = some (.slice a9 l.length cp) := by subst hW; simp [go_sem]
  have L0 : V1.heap.size < W.heap.size := by subst hW; first | (simp; done) | (simp; omega)
  have b10 : W.cell? ⟨V1.heap.size + 1, 0, none⟩ = some (.int .i64 y0) := by subst hW; simp [go_sem]
  have b11 : W.cell? ⟨V1.heap.size + 1, 1, none⟩ = some (.int .i64 y1) := by subst hW; simp [go_sem]
  have b12 : W.cell? ⟨V1.heap.size + 1, 2, none⟩ = some (.int .i64 y2) := by subst hW; simp [go_sem]
  have b13 : W.cell? ⟨V1.heap.size + 1, 3, none⟩ = some (.int .i64 y3) := by subst hW; simp [go_sem]
  have L1 : V1.heap.size + 1 < W.heap.size := by subst hW; first | (simp; done) | (simp; omega)
  rw [← hW]
  clear hW
  generalize V1.heap.size + 1 = B1 at *
  obtain ⟨B0, hB0⟩ : ∃ B, B = V1.heap.size := ⟨_, rfl⟩
  rw [← hB0] at b00 b01 b02 b03 b04 b05 b06 b07 b08 L0
  try rw [← hB0]
  replace hB0 := Lib.hid hB0
  have hl2 : l.length ≤ 4611686018427387904 := by omega
  have hcap := own_capA ho
  have FV := Lib.hid (RowAt.below (row_ownP ho (mflat_length l)) HV)
  clear ho HV
  have c1 := fun W h => ShortenCourse_c x0 x1 x2 x3 x4 x5 x6 x7 a9 cp l k y0 y1 y2 y3 W hl2 h hns.names hcap
  have c2 := fun W h => ShortenCourseS_c x0 x1 x2 x3 x4 x5 x6 x7 a9 cp l k y0 y1 y2 y3 W hl2 h hns.names hcap
  have hlaw := fun z0 z1 z2 z3 z4 z5 z6 z7 M => @sh_law x0 x1 x2 x3 x4 x5 x6 x7 l k y0 y1 y2 y3 z0 z1 z2 z3 z4 z5 z6 z7 M
  have hM8 := shR_len x0 x1 x2 x3 x4 x5 x6 x7 l k y0 y1 y2 y3
  generalize shR x0 x1 x2 x3 x4 x5 x6 x7 l k y0 y1 y2 y3 = RR at *
  obtain ⟨z0, z1, z2, z3, z4, z5, z6, z7, M, R2⟩ := RR
  dsimp only at c1 c2 hM8
  have C1 := Lib.hid c1
  have C2 := Lib.hid c2
  have HLAW := Lib.hid hlaw
  clear c1 c2 hlaw
  have hM9 : M.length ≤ 9223372036854775807 := by omega
  refine (C1.out _ FV.out).mono ?_
  rintro e V2 ⟨⟨a1, cp1, rfl, ho⟩, hb⟩
  have O1 := Lib.hid (RowAt.below (row_ownP ho (mflat_length M)) (Below.refl _ _))
  have hcap1 := own_capA ho
  clear ho
  replace HD := HD.trans (hb.mono HD.size)
  obtain ⟨hc, hf⟩ := bcell hb
  have hz := hb.size
  replace b00 := (hc _ 0 L0).trans b00
  replace b01 := (hc _ 1 L0).trans b01
  replace b02 := (hc _ 2 L0).trans b02
  replace b03 := (hc _ 3 L0).trans b03
  replace b04 := (hc _ 4 L0).trans b04
  replace b05 := (hc _ 5 L0).trans b05
  replace b06 := (hc _ 6 L0).trans b06
  replace b07 := (hc _ 7 L0).trans b07
  replace b08 := (hc _ 8 L0).trans b08
  replace b10 := (hc _ 0 L1).trans b10
  replace b11 := (hc _ 1 L1).trans b11
  replace b12 := (hc _ 2 L1).trans b12
  replace b13 := (hc _ 3 L1).trans b13
  replace FV := Lib.hid (RowAt.below FV.out hb)
  replace L0 := Nat.lt_of_lt_of_le L0 hz
  replace L1 := Nat.lt_of_lt_of_le L1 hz
  clear hc hf hz hb
  go_wp2_with fail
  obtain ⟨V3, hV3⟩ : ∃ x, x = V2.alloc (.cells #[.int .i64 z0, .int .i64 z1, .int .i64 z2, .int .i64 z3, .int .i64 z4, .int .i64 z5, .int .i64 z6, .int .i64 z7, .slice a1 M.length cp1] 36) := ⟨_, rfl⟩
  have hb : Below V2.heap.size V2 V3 := by subst hV3; exact (Below.refl _ _).alloc (Nat.le_refl _) _
  have k60 : V3.cell? ⟨V2.heap.size, 0, none⟩ = some (.int .i64 z0) := by subst hV3; simp [go_sem]
  have k61 : V3.cell? ⟨V2.heap.size, 1, none⟩ = some (.int .i64 z1) := by subst hV3; simp [go_sem]
  have k62 : V3.cell? ⟨V2.heap.size, 2, none⟩ = some (.int .i64 z2) := by subst hV3; simp [go_sem]
  have k63 : V3.cell? ⟨V2.heap.size, 3, none⟩ = some (.int .i64 z3) := by subst hV3; simp [go_sem]
  have k64 : V3.cell? ⟨V2.heap.size, 4, none⟩ = some (.int .i64 z4) := by subst hV3; simp [go_sem]
  have k65 : V3.cell? ⟨V2.heap.size, 5, none⟩ = some (.int .i64 z5) := by subst hV3; simp [go_sem]
  have k66 : V3.cell? ⟨V2.heap.size, 6, none⟩ = some (.int .i64 z6) := by subst hV3; simp [go_sem]
  have k67 : V3.cell? ⟨V2.heap.size, 7, none⟩ = some (.int .i64 z7) := by subst hV3; simp [go_sem]
  have k68 : V3.cell? ⟨V2.heap.size, 8, none⟩ = some (.slice a1 M.length cp1) := by subst hV3; simp [go_sem]
  have K6 : V2.heap.size < V3.heap.size := by subst hV3; simp
  have hS6 := Lib.hid (show V3.heap.size = V2.heap.size + 1 by subst hV3; simp)
  rw [← hV3]
  clear hV3
  replace HD := HD.trans (hb.mono HD.size)
  obtain ⟨hc, hf⟩ := bcell hb
  have hz := hb.size
  replace b00 := (hc _ 0 L0).trans b00
  replace b01 := (hc _ 1 L0).trans b01
  replace b02 := (hc _ 2 L0).trans b02
  replace b03 := (hc _ 3 L0).trans b03
  replace b04 := (hc _ 4 L0).trans b04
  replace b05 := (hc _ 5 L0).trans b05
  replace b06 := (hc _ 6 L0).trans b06
  replace b07 := (hc _ 7 L0).trans b07
  replace b08 := (hc _ 8 L0).trans b08
  replace b10 := (hc _ 0 L1).trans b10
  replace b11 := (hc _ 1 L1).trans b11
  replace b12 := (hc _ 2 L1).trans b12
  replace b13 := (hc _ 3 L1).trans b13
  replace FV := Lib.hid (RowAt.below FV.out hb)
  replace O1 := Lib.hid (RowAt.below O1.out hb)
  replace L0 := Nat.lt_of_lt_of_le L0 hz
  replace L1 := Nat.lt_of_lt_of_le L1 hz
  clear hc hf hz hb
  obtain ⟨C6, hC6⟩ : ∃ x, x = V2.heap.size := ⟨_, rfl⟩
  rw [← hC6] at k60 k61 k62 k63 k64 k65 k66 k67 k68 K6
  try rw [← hC6]
  replace hC6 := Lib.hid hC6
  refine (C2.out _ FV.out).mono ?_
  rintro e V4 ⟨⟨a2, cp2, rfl, ho⟩, hb⟩
  have O2 := Lib.hid (RowAt.below (row_ownP ho (mflat_length M)) (Below.refl _ _))
  have hcap2 := own_capA ho
  clear ho
  replace HD := HD.trans (hb.mono HD.size)
  obtain ⟨hc, hf⟩ := bcell hb
  have hz := hb.size
  replace b00 := (hc _ 0 L0).trans b00
  replace b01 := (hc _ 1 L0).trans b01
  replace b02 := (hc _ 2 L0).trans b02
  replace b03 := (hc _ 3 L0).trans b03
  replace b04 := (hc _ 4 L0).trans b04
  replace b05 := (hc _ 5 L0).trans b05
  replace b06 := (hc _ 6 L0).trans b06
  replace b07 := (hc _ 7 L0).trans b07
  replace b08 := (hc _ 8 L0).trans b08
  replace b10 := (hc _ 0 L1).trans b10
  replace b11 := (hc _ 1 L1).trans b11
  replace b12 := (hc _ 2 L1).trans b12
  replace b13 := (hc _ 3 L1).trans b13
  replace k60 := (hc _ 0 K6).trans k60
  replace k61 := (hc _ 1 K6).trans k61
  replace k62 := (hc _ 2 K6).trans k62
  replace k63 := (hc _ 3 K6).trans k63
  replace k64 := (hc _ 4 K6).trans k64
  replace k65 := (hc _ 5 K6).trans k65
  replace k66 := (hc _ 6 K6).trans k66
  replace k67 := (hc _ 7 K6).trans k67
  replace k68 := (hc _ 8 K6).trans k68
  replace FV := Lib.hid (RowAt.below FV.out hb)
  replace O1 := Lib.hid (RowAt.below O1.out hb)
  replace L0 := Nat.lt_of_lt_of_le L0 hz
  replace L1 := Nat.lt_of_lt_of_le L1 hz
  replace K6 := Nat.lt_of_lt_of_le K6 hz
  clear hc hf hz hb
  go_wp2_with fail
  obtain ⟨V5, hV5⟩ : ∃ x, x = V4.alloc (.cells #[.int .i64 z0, .int .i64 z1, .int .i64 z2, .int .i64 z3, .int .i64 z4, .int .i64 z5, .int .i64 z6, .int .i64 z7, .slice a2 M.length cp2] 36) := ⟨_, rfl⟩
  have hb : Below V4.heap.size V4 V5 := by subst hV5; exact (Below.refl _ _).alloc (Nat.le_refl _) _
  have k80 : V5.cell? ⟨V4.heap.size, 0, none⟩ = some (.int .i64 z0) := by subst hV5; simp [go_sem]
  have k81 : V5.cell? ⟨V4.heap.size, 1, none⟩ = some (.int .i64 z1) := by subst hV5; simp [go_sem]
  have k82 : V5.cell? ⟨V4.heap.size, 2, none⟩ = some (.int .i64 z2) := by subst hV5; simp [go_sem]
  have k83 : V5.cell? ⟨V4.heap.size, 3, none⟩ = some (.int .i64 z3) := by subst hV5; simp [go_sem]
  have k84 : V5.cell? ⟨V4.heap.size, 4, none⟩ = some (.int .i64 z4) := by subst hV5; simp [go_sem]
  have k85 : V5.cell? ⟨V4.heap.size, 5, none⟩ = some (.int .i64 z5) := by subst hV5; simp [go_sem]
  have k86 : V5.cell? ⟨V4.heap.size, 6, none⟩ = some (.int .i64 z6) := by subst hV5; simp [go_sem]
  have k87 : V5.cell? ⟨V4.heap.size, 7, none⟩ = some (.int .i64 z7) := by subst hV5; simp [go_sem]
  have k88 : V5.cell? ⟨V4.heap.size, 8, none⟩ = some (.slice a2 M.length cp2) := by subst hV5; simp [go_sem]
  have K8 : V4.heap.size < V5.heap.size := by subst hV5; simp
  have hS8 := Lib.hid (show V5.heap.size = V4.heap.size + 1 by subst hV5; simp)
  rw [← hV5]
  clear hV5
  replace HD := HD.trans (hb.mono HD.size)
  obtain ⟨hc, hf⟩ := bcell hb
  have hz := hb.size
  replace b00 := (hc _ 0 L0).trans b00
  replace b01 := (hc _ 1 L0).trans b01
  replace b02 := (hc _ 2 L0).trans b02
  replace b03 := (hc _ 3 L0).trans b03
  replace b04 := (hc _ 4 L0).trans b04
  replace b05 := (hc _ 5 L0).trans b05
  replace b06 := (hc _ 6 L0).trans b06
  replace b07 := (hc _ 7 L0).trans b07
  replace b08 := (hc _ 8 L0).trans b08
  replace b10 := (hc _ 0 L1).trans b10
  replace b11 := (hc _ 1 L1).trans b11
  replace b12 := (hc _ 2 L1).trans b12
  replace b13 := (hc _ 3 L1).trans b13
  replace k60 := (hc _ 0 K6).trans k60
  replace k61 := (hc _ 1 K6).trans k61
  replace k62 := (hc _ 2 K6).trans k62
  replace k63 := (hc _ 3 K6).trans k63
  replace k64 := (hc _ 4 K6).trans k64
  replace k65 := (hc _ 5 K6).trans k65
  replace k66 := (hc _ 6 K6).trans k66
  replace k67 := (hc _ 7 K6).trans k67
  replace k68 := (hc _ 8 K6).trans k68
  replace FV := Lib.hid (RowAt.below FV.out hb)
  replace O1 := Lib.hid (RowAt.below O1.out hb)
  replace O2 := Lib.hid (RowAt.below O2.out hb)
  replace L0 := Nat.lt_of_lt_of_le L0 hz
  replace L1 := Nat.lt_of_lt_of_le L1 hz
  replace K6 := Nat.lt_of_lt_of_le K6 hz
  clear hc hf hz hb
  obtain ⟨C8, hC8⟩ : ∃ x, x = V4.heap.size := ⟨_, rfl⟩
  rw [← hC8] at k80 k81 k82 k83 k84 k85 k86 k87 k88 K8
  try rw [← hC8]
  replace hC8 := Lib.hid hC8
  by_cases E : R2 = 0
  case neg =>
    refine (w9Courses_c z0 z1 z2 z3 z4 z5 z6 z7 a1 a2 cp1 cp2 M V5 hM9 O1.out O2.out).mono ?_
    rintro e V6 ⟨rfl, hb⟩
    replace HD := HD.trans (hb.mono HD.size)
    obtain ⟨hc, hf⟩ := bcell hb
    have hz := hb.size
    replace b00 := (hc _ 0 L0).trans b00
    replace b01 := (hc _ 1 L0).trans b01
    replace b02 := (hc _ 2 L0).trans b02
    replace b03 := (hc _ 3 L0).trans b03
    replace b04 := (hc _ 4 L0).trans b04
    replace b05 := (hc _ 5 L0).trans b05
    replace b06 := (hc _ 6 L0).trans b06
    replace b07 := (hc _ 7 L0).trans b07
    replace b08 := (hc _ 8 L0).trans b08
    replace b10 := (hc _ 0 L1).trans b10
    replace b11 := (hc _ 1 L1).trans b11
    replace b12 := (hc _ 2 L1).trans b12
    replace b13 := (hc _ 3 L1).trans b13
    replace k60 := (hc _ 0 K6).trans k60
    replace k61 := (hc _ 1 K6).trans k61
    replace k62 := (hc _ 2 K6).trans k62
    replace k63 := (hc _ 3 K6).trans k63
    replace k64 := (hc _ 4 K6).trans k64
    replace k65 := (hc _ 5 K6).trans k65
    replace k66 := (hc _ 6 K6).trans k66
    replace k67 := (hc _ 7 K6).trans k67
    replace k68 := (hc _ 8 K6).trans k68
    replace k80 := (hc _ 0 K8).trans k80
    replace k81 := (hc _ 1 K8).trans k81
    replace k82 := (hc _ 2 K8).trans k82
    replace k83 := (hc _ 3 K8).trans k83
    replace k84 := (hc _ 4 K8).trans k84
    replace k85 := (hc _ 5 K8).trans k85
    replace k86 := (hc _ 6 K8).trans k86
    replace k87 := (hc _ 7 K8).trans k87
    replace k88 := (hc _ 8 K8).trans k88
    replace FV := Lib.hid (RowAt.below FV.out hb)
    replace O1 := Lib.hid (RowAt.below O1.out hb)
    replace O2 := Lib.hid (RowAt.below O2.out hb)
    replace L0 := Nat.lt_of_lt_of_le L0 hz
    replace L1 := Nat.lt_of_lt_of_le L1 hz
    replace K6 := Nat.lt_of_lt_of_le K6 hz
    replace K8 := Nat.lt_of_lt_of_le K8 hz
    clear hc hf hz hb
    go_wp2_with fail
    go_ret
    exact ⟨rfl, HD⟩
  case pos =>
    subst E
    obtain ⟨hok, rfl, rfl, rfl, rfl, rfl, hag, hsub⟩ := HLAW.out z0 z1 z2 z3 z4 z5 z6 z7 M rfl
    clear HLAW
    have hnM : NSm M := fun m hm => hns m (hsub m hm)
    clear hsub
    have hM2 : M.length ≤ 4611686018427387904 := by omega
    have c3 := fun W h => ShortenCourse_c z0 z1 z2 z3 z4 z5 z6 z7 a1 cp1 M (M.length : Int) z4 z5 z6 z7 W hM2 h hnM.names hcap1
    simp only [hag] at c3
    have C3 := Lib.hid c3
    clear c3 hag
    have c4 := fun W h => IsCourse_c z0 z1 z2 z3 z4 z5 z6 z7 a1 cp1 M W hM2 h hnM.names hcap1
    rw [hok] at c4
    have C4 := Lib.hid c4
    clear c4 hok
    go_wp2_with fail
    refine (w9Courses_c z0 z1 z2 z3 z4 z5 z6 z7 a1 a2 cp1 cp2 M V5 hM9 O1.out O2.out).mono ?_
    rintro e V6 ⟨rfl, hb⟩
    replace HD := HD.trans (hb.mono HD.size)
    obtain ⟨hc, hf⟩ := bcell hb
    have hz := hb.size
    replace b00 := (hc _ 0 L0).trans b00
    replace b01 := (hc _ 1 L0).trans b01
    replace b02 := (hc _ 2 L0).trans b02
    replace b03 := (hc _ 3 L0).trans b03
    replace b04 := (hc _ 4 L0).trans b04
    replace b05 := (hc _ 5 L0).trans b05
    replace b06 := (hc _ 6 L0).trans b06
    replace b07 := (hc _ 7 L0).trans b07
    replace b08 := (hc _ 8 L0).trans b08
    replace b10 := (hc _ 0 L1).trans b10
    replace b11 := (hc _ 1 L1).trans b11
    replace b12 := (hc _ 2 L1).trans b12
    replace b13 := (hc _ 3 L1).trans b13
    replace k60 := (hc _ 0 K6).trans k60
    replace k61 := (hc _ 1 K6).trans k61
    replace k62 := (hc _ 2 K6).trans k62
    replace k63 := (hc _ 3 K6).trans k63
    replace k64 := (hc _ 4 K6).trans k64
    replace k65 := (hc _ 5 K6).trans k65
    replace k66 := (hc _ 6 K6).trans k66
    replace k67 := (hc _ 7 K6).trans k67
    replace k68 := (hc _ 8 K6).trans k68
    replace k80 := (hc _ 0 K8).trans k80
    replace k81 := (hc _ 1 K8).trans k81
    replace k82 := (hc _ 2 K8).trans k82
    replace k83 := (hc _ 3 K8).trans k83
    replace k84 := (hc _ 4 K8).trans k84
    replace k85 := (hc _ 5 K8).trans k85
    replace k86 := (hc _ 6 K8).trans k86
    replace k87 := (hc _ 7 K8).trans k87
    replace k88 := (hc _ 8 K8).trans k88
    replace FV := Lib.hid (RowAt.below FV.out hb)
    replace O1 := Lib.hid (RowAt.below O1.out hb)
    replace O2 := Lib.hid (RowAt.below O2.out hb)
    replace L0 := Nat.lt_of_lt_of_le L0 hz
    replace L1 := Nat.lt_of_lt_of_le L1 hz
    replace K6 := Nat.lt_of_lt_of_le K6 hz
    replace K8 := Nat.lt_of_lt_of_le K8 hz
    clear hc hf hz hb
    go_wp2_with fail
    refine (C3.out _ O1.out).mono ?_
    rintro e V7 ⟨⟨a3, cp3, rfl, ho⟩, hb⟩
    have O3 := Lib.hid (RowAt.below (row_ownP ho (mflat_length M)) (Below.refl _ _))
    have hcap3 := own_capA ho
    clear ho
    replace HD := HD.trans (hb.mono HD.size)
    obtain ⟨hc, hf⟩ := bcell hb
    have hz := hb.size
    replace b00 := (hc _ 0 L0).trans b00
    replace b01 := (hc _ 1 L0).trans b01
    replace b02 := (hc _ 2 L0).trans b02
    replace b03 := (hc _ 3 L0).trans b03
    replace b04 := (hc _ 4 L0).trans b04
    replace b05 := (hc _ 5 L0).trans b05
    replace b06 := (hc _ 6 L0).trans b06
    replace b07 := (hc _ 7 L0).trans b07
    replace b08 := (hc _ 8 L0).trans b08
    replace b10 := (hc _ 0 L1).trans b10
    replace b11 := (hc _ 1 L1).trans b11
    replace b12 := (hc _ 2 L1).trans b12
    replace b13 := (hc _ 3 L1).trans b13
    replace k60 := (hc _ 0 K6).trans k60
    replace k61 := (hc _ 1 K6).trans k61
    replace k62 := (hc _ 2 K6).trans k62
    replace k63 := (hc _ 3 K6).trans k63
    replace k64 := (hc _ 4 K6).trans k64
    replace k65 := (hc _ 5 K6).trans k65
    replace k66 := (hc _ 6 K6).trans k66
    replace k67 := (hc _ 7 K6).trans k67
    replace k68 := (hc _ 8 K6).trans k68
    replace k80 := (hc _ 0 K8).trans k80
    replace k81 := (hc _ 1 K8).trans k81
    replace k82 := (hc _ 2 K8).trans k82
    replace k83 := (hc _ 3 K8).trans k83
    replace k84 := (hc _ 4 K8).trans k84
    replace k85 := (hc _ 5 K8).trans k85
    replace k86 := (hc _ 6 K8).trans k86
    replace k87 := (hc _ 7 K8).trans k87
    replace k88 := (hc _ 8 K8).trans k88
    replace FV := Lib.hid (RowAt.below FV.out hb)
    replace O1 := Lib.hid (RowAt.below O1.out hb)
    replace O2 := Lib.hid (RowAt.below O2.out hb)
    replace L0 := Nat.lt_of_lt_of_le L0 hz
    replace L1 := Nat.lt_of_lt_of_le L1 hz
    replace K6 := Nat.lt_of_lt_of_le K6 hz
    replace K8 := Nat.lt_of_lt_of_le K8 hz
    clear hc hf hz hb
    go_wp2_with fail
    obtain ⟨V8, hV8⟩ : ∃ x, x = V7.alloc (.cells #[.int .i64 z0, .int .i64 z1, .int .i64 z2, .int .i64 z3, .int .i64 z4, .int .i64 z5, .int .i64 z6, .int .i64 z7, .slice a3 M.length cp3] 36) := ⟨_, rfl⟩
    have hb : Below V7.heap.size V7 V8 := by subst hV8; exact (Below.refl _ _).alloc (Nat.le_refl _) _
    have k100 : V8.cell? ⟨V7.heap.size, 0, none⟩ = some (.int .i64 z0) := by subst hV8; simp [go_sem]
    have k101 : V8.cell? ⟨V7.heap.size, 1, none⟩ = some (.int .i64 z1) := by subst hV8; simp [go_sem]
    have k102 : V8.cell? ⟨V7.heap.size, 2, none⟩ = some (.int .i64 z2) := by subst hV8; simp [go_sem]
    have k103 : V8.cell? ⟨V7.heap.size, 3, none⟩ = some (.int .i64 z3) := by subst hV8; simp [go_sem]
    have k104 : V8.cell? ⟨V7.heap.size, 4, none⟩ = some (.int .i64 z4) := by subst hV8; simp [go_sem]
    have k105 : V8.cell? ⟨V7.heap.size, 5, none⟩ = some (.int .i64 z5) := by subst hV8; simp [go_sem]
    have k106 : V8.cell? ⟨V7.heap.size, 6, none⟩ = some (.int .i64 z6) := by subst hV8; simp [go_sem]
    have k107 : V8.cell? ⟨V7.heap.size, 7, none⟩ = some (.int .i64 z7) := by subst hV8; simp [go_sem]
    have k108 : V8.cell? ⟨V7.heap.size, 8, none⟩ = some (.slice a3 M.length cp3) := by subst hV8; simp [go_sem]
    have K10 : V7.heap.size < V8.heap.size := by subst hV8; simp
    have hS10 := Lib.hid (show V8.heap.size = V7.heap.size + 1 by subst hV8; simp)
    rw [← hV8]
    clear hV8
    replace HD := HD.trans (hb.mono HD.size)
    obtain ⟨hc, hf⟩ := bcell hb
    have hz := hb.size
    replace b00 := (hc _ 0 L0).trans b00
    replace b01 := (hc _ 1 L0).trans b01
    replace b02 := (hc _ 2 L0).trans b02
    replace b03 := (hc _ 3 L0).trans b03
    replace b04 := (hc _ 4 L0).trans b04
    replace b05 := (hc _ 5 L0).trans b05
    replace b06 := (hc _ 6 L0).trans b06
    replace b07 := (hc _ 7 L0).trans b07
    replace b08 := (hc _ 8 L0).trans b08
    replace b10 := (hc _ 0 L1).trans b10
    replace b11 := (hc _ 1 L1).trans b11
    replace b12 := (hc _ 2 L1).trans b12
    replace b13 := (hc _ 3 L1).trans b13
    replace k60 := (hc _ 0 K6).trans k60
    replace k61 := (hc _ 1 K6).trans k61
    replace k62 := (hc _ 2 K6).trans k62
    replace k63 := (hc _ 3 K6).trans k63
    replace k64 := (hc _ 4 K6).trans k64
    replace k65 := (hc _ 5 K6).trans k65
    replace k66 := (hc _ 6 K6).trans k66
    replace k67 := (hc _ 7 K6).trans k67
    replace k68 := (hc _ 8 K6).trans k68
    replace k80 := (hc _ 0 K8).trans k80
    replace k81 := (hc _ 1 K8).trans k81
    replace k82 := (hc _ 2 K8).trans k82
    replace k83 := (hc _ 3 K8).trans k83
    replace k84 := (hc _ 4 K8).trans k84
    replace k85 := (hc _ 5 K8).trans k85
    replace k86 := (hc _ 6 K8).trans k86
    replace k87 := (hc _ 7 K8).trans k87
    replace k88 := (hc _ 8 K8).trans k88
    replace FV := Lib.hid (RowAt.below FV.out hb)
    replace O1 := Lib.hid (RowAt.below O1.out hb)
    replace O2 := Lib.hid (RowAt.below O2.out hb)
    replace O3 := Lib.hid (RowAt.below O3.out hb)
    replace L0 := Nat.lt_of_lt_of_le L0 hz
    replace L1 := Nat.lt_of_lt_of_le L1 hz
    replace K6 := Nat.lt_of_lt_of_le K6 hz
    replace K8 := Nat.lt_of_lt_of_le K8 hz
    clear hc hf hz hb
    obtain ⟨C10, hC10⟩ : ∃ x, x = V7.heap.size := ⟨_, rfl⟩
    rw [← hC10] at k100 k101 k102 k103 k104 k105 k106 k107 k108 K10
    try rw [← hC10]
    replace hC10 := Lib.hid hC10
    go_wp2_with fail
    refine (w9Courses_c z0 z1 z2 z3 z4 z5 z6 z7 a3 a1 cp3 cp1 M V8 hM9 O3.out O1.out).mono ?_
    rintro e V9 ⟨rfl, hb⟩
    replace HD := HD.trans (hb.mono HD.size)
    obtain ⟨hc, hf⟩ := bcell hb
    have hz := hb.size
    replace b00 := (hc _ 0 L0).trans b00
    replace b01 := (hc _ 1 L0).trans b01
    replace b02 := (hc _ 2 L0).trans b02
    replace b03 := (hc _ 3 L0).trans b03
    replace b04 := (hc _ 4 L0).trans b04
    replace b05 := (hc _ 5 L0).trans b05
    replace b06 := (hc _ 6 L0).trans b06
    replace b07 := (hc _ 7 L0).trans b07
    replace b08 := (hc _ 8 L0).trans b08
    replace b10 := (hc _ 0 L1).trans b10
    replace b11 := (hc _ 1 L1).trans b11
    replace b12 := (hc _ 2 L1).trans b12
    replace b13 := (hc _ 3 L1).trans b13
    replace k60 := (hc _ 0 K6).trans k60
    replace k61 := (hc _ 1 K6).trans k61
    replace k62 := (hc _ 2 K6).trans k62
    replace k63 := (hc _ 3 K6).trans k63
    replace k64 := (hc _ 4 K6).trans k64
    replace k65 := (hc _ 5 K6).trans k65
    replace k66 := (hc _ 6 K6).trans k66
    replace k67 := (hc _ 7 K6).trans k67
    replace k68 := (hc _ 8 K6).trans k68
    replace k80 := (hc _ 0 K8).trans k80
    replace k81 := (hc _ 1 K8).trans k81
    replace k82 := (hc _ 2 K8).trans k82
    replace k83 := (hc _ 3 K8).trans k83
    replace k84 := (hc _ 4 K8).trans k84
    replace k85 := (hc _ 5 K8).trans k85
    replace k86 := (hc _ 6 K8).trans k86
    replace k87 := (hc _ 7 K8).trans k87
    replace k88 := (hc _ 8 K8).trans k88
    replace k100 := (hc _ 0 K10).trans k100
    replace k101 := (hc _ 1 K10).trans k101
    replace k102 := (hc _ 2 K10).trans k102
    replace k103 := (hc _ 3 K10).trans k103
    replace k104 := (hc _ 4 K10).trans k104
    replace k105 := (hc _ 5 K10).trans k105
    replace k106 := (hc _ 6 K10).trans k106
    replace k107 := (hc _ 7 K10).trans k107
    replace k108 := (hc _ 8 K10).trans k108
    replace FV := Lib.hid (RowAt.below FV.out hb)
    replace O1 := Lib.hid (RowAt.below O1.out hb)
    replace O2 := Lib.hid (RowAt.below O2.out hb)
    replace O3 := Lib.hid (RowAt.below O3.out hb)
    replace L0 := Nat.lt_of_lt_of_le L0 hz
    replace L1 := Nat.lt_of_lt_of_le L1 hz
    replace K6 := Nat.lt_of_lt_of_le K6 hz
    replace K8 := Nat.lt_of_lt_of_le K8 hz
    replace K10 := Nat.lt_of_lt_of_le K10 hz
    clear hc hf hz hb
    go_wp2_with fail
    refine (C4.out _ O1.out).mono ?_
    rintro e V10 ⟨rfl, hb⟩
    replace HD := HD.trans (hb.mono HD.size)
    obtain ⟨hc, hf⟩ := bcell hb
    have hz := hb.size
    replace b00 := (hc _ 0 L0).trans b00
    replace b01 := (hc _ 1 L0).trans b01
    replace b02 := (hc _ 2 L0).trans b02
    replace b03 := (hc _ 3 L0).trans b03
    replace b04 := (hc _ 4 L0).trans b04
    replace b05 := (hc _ 5 L0).trans b05
    replace b06 := (hc _ 6 L0).trans b06
    replace b07 := (hc _ 7 L0).trans b07
    replace b08 := (hc _ 8 L0).trans b08
    replace b10 := (hc _ 0 L1).trans b10
    replace b11 := (hc _ 1 L1).trans b11
    replace b12 := (hc _ 2 L1).trans b12
    replace b13 := (hc _ 3 L1).trans b13
    replace k60 := (hc _ 0 K6).trans k60
    replace k61 := (hc _ 1 K6).trans k61
    replace k62 := (hc _ 2 K6).trans k62
    replace k63 := (hc _ 3 K6).trans k63
    replace k64 := (hc _ 4 K6).trans k64
    replace k65 := (hc _ 5 K6).trans k65
    replace k66 := (hc _ 6 K6).trans k66
    replace k67 := (hc _ 7 K6).trans k67
    replace k68 := (hc _ 8 K6).trans k68
    replace k80 := (hc _ 0 K8).trans k80
    replace k81 := (hc _ 1 K8).trans k81
    replace k82 := (hc _ 2 K8).trans k82
    replace k83 := (hc _ 3 K8).trans k83
    replace k84 := (hc _ 4 K8).trans k84
    replace k85 := (hc _ 5 K8).trans k85
    replace k86 := (hc _ 6 K8).trans k86
    replace k87 := (hc _ 7 K8).trans k87
    replace k88 := (hc _ 8 K8).trans k88
    replace k100 := (hc _ 0 K10).trans k100
    replace k101 := (hc _ 1 K10).trans k101
    replace k102 := (hc _ 2 K10).trans k102
    replace k103 := (hc _ 3 K10).trans k103
    replace k104 := (hc _ 4 K10).trans k104
    replace k105 := (hc _ 5 K10).trans k105
    replace k106 := (hc _ 6 K10).trans k106
    replace k107 := (hc _ 7 K10).trans k107
    replace k108 := (hc _ 8 K10).trans k108
    replace FV := Lib.hid (RowAt.below FV.out hb)
    replace O1 := Lib.hid (RowAt.below O1.out hb)
    replace O2 := Lib.hid (RowAt.below O2.out hb)
    replace O3 := Lib.hid (RowAt.below O3.out hb)
    replace L0 := Nat.lt_of_lt_of_le L0 hz
    replace L1 := Nat.lt_of_lt_of_le L1 hz
    replace K6 := Nat.lt_of_lt_of_le K6 hz
    replace K8 := Nat.lt_of_lt_of_le K8 hz
    replace K10 := Nat.lt_of_lt_of_le K10 hz
    clear hc hf hz hb
    go_wp2_with fail
    go_ret
    exact ⟨rfl, HD⟩

theorem own : ownKnob Tryd.prog.godebug = none := by kernel_rfl
theorem laidOut : laidOutB Tryd.prog = true := by kernel_rfl
set_option maxRecDepth 100000 in
theorem lifted (os : Os) (started : os.Started) (H : Type) (enc : TypeId × Value → H) :
    ReturnsInHanded {} Tryd.checked os 5 .any (fun w args => (Rows.fnShortenSpec.pre enc Tryd.prog Tryd.f5 Rows.fnShortenRow.domain false w args ∧ laidMetH Tryd.prog Rows.fnShortenRow.laid w) ∧ sizedMet enc Tryd.prog Tryd.f5 (OpenSpec.ofChange Rows.fnShortenSpec) false w args)
      (Rows.fnShortenSpec.post enc Tryd.prog Tryd.f5 false true false false) := by
  refine returnsInHanded_of_change_and (C := Tryd.checked) (X := fun w _ => laidMetH Tryd.prog Rows.fnShortenRow.laid w) (fun _ _ _ hh h => h.of_heap hh) own started (by kernel_rfl) Tryd.func5
    (ChangeSpec.witness_shaped (enc := enc) (C := Tryd.checked) (os := os) (X := fun w _ => laidMetH Tryd.prog Rows.fnShortenRow.laid w) false (World.laidAll Tryd.prog os Rows.fnShortenRow.laid) #[.slice none 0 0] 8 (World.laidAll_os _ _ _)
      (World.shaped_of_ZipB (by kernel_rfl) (by kernel_rfl)) (by kernel_rfl) (by kernel_rfl) (by kernel_rfl)
      (by rw [MakeChecks.laidMetH_plain _ _ _ (by kernel_rfl)]; exact laidMet_laidAll _ (by kernel_rfl) (by kernel_rfl))) ?_
  intro W base args ds gs before hval0 hW _ _ hLaid _
  have hval : ∀ (j : Nat) t v, Tryd.f5.params[j]? = some t → args[j]? = some v → Value.okWide Tryd.prog W .any base t v := hval0
  have hW' := hW
  obtain ⟨p, q, hA0, hV, rfl, hfz, hnd⟩ := hW
  have hA : DataW.TrodAll enc Tryd.prog W 0 (fun _ => true) true Tryd.f5.params.toList args.toList ds p := hA0
  rw [Tryd.params5] at hA hval
  obtain ⟨v0, vs0, d0, ds0, p0, q0, hargs, rfl, rfl, h0, r0⟩ := trodAll_cons hA
  obtain ⟨rfl, rfl, rfl⟩ := trodAll_nil r0
  obtain rfl : args = #[v0] := by cases args; simp_all
  obtain ⟨rfl, rfl⟩ := trodVars_none hV
  have k0 := h0
  have lt0 : ∀ x ∈ p0, x.block < W.heap.size := by obtain ⟨m, hm⟩ := k0; exact DataW.trod_lt m _ _ _ hm
  obtain ⟨⟨a0, cap0⟩, n0, rfl, w0⟩ := open_bytes Tryd.underlying43 Tryd.underlying5 (by kernel_rfl) (hval 0 43 v0 rfl rfl) h0
  clear hA0 hval0
  refine (walk a0 cap0 n0 W w0).mono fun e W' ⟨he, bel⟩ => ?_
  subst he
  exact ⟨_, rfl, _, _, _, [], _, [], hW', trodAll_mk1 (shut_bool Tryd.underlying4 _), (trodAll_cons_mk (Below.trod laidOut (by kernel_rfl) (of_decide_eq_true (by kernel_rfl)) k0 bel lt0) trodAll_mk0), rfl, bel.frame _, fun h => by cases h⟩

theorem over : Rows.fnShortenRow.holds Tryd.pinned (OpenSpec.ofChange Rows.fnShortenSpec) :=
  OpenClaim.holds_of_wide 5 Tryd.f5 rfl rfl rfl rfl rfl rfl rfl ⟨rfl, rfl, rfl, rfl, rfl⟩ rfl rfl rfl rfl rfl (by kernel_rfl) Tryd.func5 (by kernel_rfl)
    (of_decide_eq_true (by kernel_rfl)) (by unfold Func.isWrapper; first | (rw [if_pos (by decide +kernel)]; kernel_rfl) | (rw [if_neg (by decide +kernel)]; exact ⟨rfl, rfl⟩))
    (fun os started H enc _ => lifted os started H enc)

theorem carded : Rows.FnShortenCardSaid :=
  Claim7.holds_tied_plain_at .later [] [.data, .pinned] true (true, "307a91a8220387b471f0a43c3da6393a48704f163f4c354a897a299e0390cb65") false over (fun _ h => by cases h) (by kernel_rfl) (fun _ h => by cases h) fnShorten_row_tie rfl ⟨rfl, rfl⟩ (by kernel_rfl) rfl
    (fun f fn hf hfn => by
      obtain rfl : f = 5 := Option.some.inj ((show Tryd.prog.funcNamed "loop.example/g00887/laws.FnShorten" = some 5 by kernel_rfl).symm.trans hf) |>.symm
      obtain rfl : fn = Tryd.f5 := (Option.some.inj (Tryd.func5.symm.trans hfn)).symm
      exact ⟨by kernel_rfl, fun j t ht => by
        rw [Tryd.params5] at ht
        have hm : t ∈ [43] := by simpa using Array.mem_of_getElem? ht
        have hall : ([43].all fun u => !Tryd.prog.wantsStandIn u) = true := by kernel_rfl
        exact (show Tryd.prog.wantsStandIn t = false by simpa using List.all_eq_true.1 hall t hm)⟩)
    (by kernel_rfl)

/-- The statement. -/
theorem proved : Rows.FnShortenCardSaid := carded
end Go.Proofs.YtbeigoejdckpiaaDoor.fnShorten
