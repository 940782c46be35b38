/-
  The lines of a course, both sides. Conditions: where its marks lie.
  The times at which a track crosses lines, one after the other. No program is named.
  The times at which a track crosses the lines of a course, both sides. Conditions: where they lie.
  The finish of a course and the stations reached, both sides. Conditions: where the marks and the fixes lie.
-/
import Derived.Test.YthgngpmeaobidaaGreatDoorCrsJ
import Derived.Maps.AppendAt
import Derived.Maps.Range
import Derived.Deep.AppendLies
import Derived.Test.YthgngpmeaobidaaGreatDoorCrsM
import Derived.Test.YthgngpmeaobidaaGreatDoorL05i
import Derived.Test.YthgngpmeaobidaaGreatDoorCrsG
namespace Go.Proofs.YthgngpmeaobidaaGreatDoor
section
set_option linter.unusedVariables false
open Go.RowKit Go.Deep

def lflat : List (Int × Int × Int × Int) → List Value
  | [] => []
  | p :: l => .int .i64 p.1 :: .int .i64 p.2.1 :: .int .i64 p.2.2.1 :: .int .i64 p.2.2.2 :: lflat l
theorem lflat_length : ∀ l : List (Int × Int × Int × Int), (lflat l).length = l.length * 4
  | [] => rfl
  | p :: l => by simp [lflat, lflat_length l]; omega
theorem lflat_append : ∀ a b : List (Int × Int × Int × Int), lflat (a ++ b) = lflat a ++ lflat b
  | [], b => rfl
  | p :: a, b => by simp [lflat, lflat_append a b]
def seg4 (r : Int × Int × Int × Int) : Bool := isSeg r.1 r.2.1 r.2.2.1 r.2.2.2
/-- the rounding lines of the first marks -/
noncomputable def rls (x0 x1 x2 x3 x4 x5 x6 x7 : Int) (l : List Mk) (k : Nat) : List (Int × Int × Int × Int) := (List.range k).map (rlAt x0 x1 x2 x3 x4 x5 x6 x7 l)
theorem rls_succ (x0 x1 x2 x3 x4 x5 x6 x7 : Int) (l : List Mk) (k : Nat) : rls x0 x1 x2 x3 x4 x5 x6 x7 l (k + 1) = rls x0 x1 x2 x3 x4 x5 x6 x7 l k ++ [rlAt x0 x1 x2 x3 x4 x5 x6 x7 l k] := by simp [rls, List.range_succ]
theorem rls_len (x0 x1 x2 x3 x4 x5 x6 x7 : Int) (l : List Mk) (k : Nat) : (rls x0 x1 x2 x3 x4 x5 x6 x7 l k).length = k := by simp [rls]
/-- the start, the rounding lines, the finish -/
noncomputable def lnz (x0 x1 x2 x3 x4 x5 x6 x7 : Int) (l : List Mk) : List (Int × Int × Int × Int) := (x0, x1, x2, x3) :: (rls x0 x1 x2 x3 x4 x5 x6 x7 l l.length ++ [(x4, x5, x6, x7)])
theorem lnz_len (x0 x1 x2 x3 x4 x5 x6 x7 : Int) (l : List Mk) : (lnz x0 x1 x2 x3 x4 x5 x6 x7 l).length = l.length + 2 := by simp [lnz, rls_len]
def LnP (x0 x1 x2 x3 x4 x5 x6 x7 : Int) (l : List Mk) : Prop := ∀ k, k < l.length → seg4 (rlAt x0 x1 x2 x3 x4 x5 x6 x7 l k) = true
noncomputable def lnOK (x0 x1 x2 x3 x4 x5 x6 x7 : Int) (l : List Mk) : Bool := @decide (LnP x0 x1 x2 x3 x4 x5 x6 x7 l) (Classical.propDecidable _)
theorem lnOK_no {x0 x1 x2 x3 x4 x5 x6 x7 : Int} {l : List Mk} (h : ¬ LnP x0 x1 x2 x3 x4 x5 x6 x7 l) : lnOK x0 x1 x2 x3 x4 x5 x6 x7 l = false := @decide_eq_false _ (Classical.propDecidable _) h
theorem lnOK_yes {x0 x1 x2 x3 x4 x5 x6 x7 : Int} {l : List Mk} (h : LnP x0 x1 x2 x3 x4 x5 x6 x7 l) : lnOK x0 x1 x2 x3 x4 x5 x6 x7 l = true := @decide_eq_true _ (Classical.propDecidable _) h
theorem one4 (a b c d : Int) : ∀ u ∈ [Value.int .i64 a, .int .i64 b, .int .i64 c, .int .i64 d], u.oneCell' = true := by
  intro u hu
  simp at hu
  rcases hu with rfl | rfl | rfl | rfl <;> rfl
theorem infoLn : (Tryz.prog.info? 38).map (fun i => (i.zero, i.size, i.bytes)) = some (some (.agg #[.int .i64 0, .int .i64 0, .int .i64 0, .int .i64 0]), 4, 32) := by kernel_rfl
set_option maxRecDepth 100000 in
set_option maxHeartbeats 4000000 in
theorem courseLines_c (x0 x1 x2 x3 x4 x5 x6 x7 : Int) (a : Option Addr) (cap : Nat) (l : List Mk) (w : World) (hl : l.length ≤ 4611686018427387904) (h : RowAt w a (mflat l)) (hs : ∀ i, i < l.length → (mk l i).name.size ≤ maxLen) (hcap : l.length ≤ cap) (hcp : CourseP x0 x1 x2 x3 x4 x5 x6 x7 l) :
    Calls Tryz.prog 37 #[.agg #[.int .i64 x0, .int .i64 x1, .int .i64 x2, .int .i64 x3, .int .i64 x4, .int .i64 x5, .int .i64 x6, .int .i64 x7, .slice a l.length cap]] w fun e w' => ((lnOK x0 x1 x2 x3 x4 x5 x6 x7 l = true → ∃ (g cp' : Nat), e = .returned (.tuple #[.slice (some ⟨g, 0, none⟩) (l.length + 2) cp', .int .i64 0]) ∧ w'.ownsRow w.heap.size 38 4 (.slice (some ⟨g, 0, none⟩) (l.length + 2) cp') (l.length + 2) (lflat (lnz x0 x1 x2 x3 x4 x5 x6 x7 l))) ∧ (lnOK x0 x1 x2 x3 x4 x5 x6 x7 l = false → ∃ (a' : Option Addr) (cp' : Nat), e = .returned (.tuple #[.slice a' 0 cp', .int .i64 2]) ∧ w'.ownsRow w.heap.size 38 4 (.slice a' 0 cp') 0 [])) ∧ Below w.heap.size w w' := by
  obtain ⟨i0, hi, ti0, ti1, ti2⟩ := info_parts infoLn
  have H0 := Lib.hid h
  have hl8 := hcp.2.2.2.1
  clear h
  have HS := Lib.hid hs
  clear hs
  go_enter Tryz.func37, Tryz.ntmps37
  go_wp2_with fail
  obtain ⟨W, hW⟩ : ∃ W, W = (w.alloc (.cells #[.int .i64 x0, .int .i64 x1, .int .i64 x2, .int .i64 x3, .int .i64 x4, .int .i64 x5, .int .i64 x6, .int .i64 x7, .slice a l.length cap] 41)) := ⟨_, rfl⟩
  have HD : Below w.heap.size w W := by subst hW; exact (by repeat (first | with_reducible exact Below.refl _ _ | with_reducible assumption | with_reducible refine Below.drew ?_ | with_reducible refine Below.alloc ?_ (by first | exact Nat.le_refl _ | (simp; done) | (simp; omega) | omega) _ | with_reducible refine Below.setCell ?_ (by first | exact Nat.le_refl _ | (simp; done) | (simp; omega) | omega) _ | with_reducible refine Below.trans ?_ (Below.mono (by with_reducible assumption) (by first | exact Nat.le_refl _ | (simp; done) | (simp; omega) | omega))))
  have b00 : W.cell? ⟨w.heap.size, 0, none⟩ = some (.int .i64 x0) := by subst hW; simp [go_sem]
  have b01 : W.cell? ⟨w.heap.size, 1, none⟩ = some (.int .i64 x1) := by subst hW; simp [go_sem]
  have b02 : W.cell? ⟨w.heap.size, 2, none⟩ = some (.int .i64 x2) := by subst hW; simp [go_sem]
  have b03 : W.cell? ⟨w.heap.size, 3, none⟩ = some (.int .i64 x3) := by subst hW; simp [go_sem]
  have b04 : W.cell? ⟨w.heap.size, 4, none⟩ = some (.int .i64 x4) := by subst hW; simp [go_sem]
  have b05 : W.cell? ⟨w.heap.size, 5, none⟩ = some (.int .i64 x5) := by subst hW; simp [go_sem]
  have b06 : W.cell? ⟨w.heap.size, 6, none⟩ = some (.int .i64 x6) := by subst hW; simp [go_sem]
  have b07 : W.cell? ⟨w.heap.size, 7, none⟩ = some (.int .i64 x7) := by subst hW; simp [go_sem]
  have b08 : W.cell? ⟨w.heap.size, 8, none⟩ = some (.slice a l.length cap) := by subst hW; simp [go_sem]
  have L0 : w.heap.size < W.heap.size := by subst hW; first | (simp; done) | (simp; omega)
  rw [← hW]
  clear hW
  obtain ⟨B0, hB0⟩ : ∃ B, B = w.heap.size := ⟨_, rfl⟩
  rw [← hB0] at b00 b01 b02 b03 b04 b05 b06 b07 b08 L0
  try rw [← hB0]
  replace hB0 := Lib.hid hB0
  have FV := Lib.hid (H0.out.below HD)
  clear H0
  have cc := IsCourse_c x0 x1 x2 x3 x4 x5 x6 x7 a cap l W hl FV.out HS.out hcap
  rw [← courseOK_yes hcp] at cc
  refine (cc).mono ?_
  rintro e V ⟨rfl, hb⟩
  clear cc
  replace HD := HD.trans (hb.mono HD.size)
  obtain ⟨hc, hf⟩ := bcell hb
  have hz := hb.size
  replace b00 := (hc _ 0 L0).trans b00
  replace b01 := (hc _ 1 L0).trans b01
  replace b02 := (hc _ 2 L0).trans b02
  replace b03 := (hc _ 3 L0).trans b03
  replace b04 := (hc _ 4 L0).trans b04
  replace b05 := (hc _ 5 L0).trans b05
  replace b06 := (hc _ 6 L0).trans b06
  replace b07 := (hc _ 7 L0).trans b07
  replace b08 := (hc _ 8 L0).trans b08
  replace FV := Lib.hid (RowAt.below FV.out hb)
  replace L0 := Nat.lt_of_lt_of_le L0 hz
  clear hc hf hz hb
  go_wp2_with fail
  go_loopw [4, 16] (fun v i wr => ∃ (k g cp : Nat), i = .int .i64 k ∧ v = .slice (some ⟨g, 0, none⟩) (k + 1) cp ∧ k ≤ l.length ∧ Hid (∀ j, j < k → seg4 (rlAt x0 x1 x2 x3 x4 x5 x6 x7 l j) = true) ∧ Hid (wr.ownsRow V.heap.size 38 4 (.slice (some ⟨g, 0, none⟩) (k + 1) cp) (k + 1) (lflat ((x0, x1, x2, x3) :: rls x0 x1 x2 x3 x4 x5 x6 x7 l k))) ∧ V.heap.size ≤ g ∧ g < wr.heap.size ∧ Below V.heap.size V wr) (fun _ i _ => l.length - (intOf i).toNat)
  case atStart => exact ⟨0, V.heap.size, 1, rfl, rfl, Nat.zero_le _, Lib.hid (fun j hj => by omega), Lib.hid (World.ownsRow_lit V #[.int .i64 x0, .int .i64 x1, .int .i64 x2, .int .i64 x3] 1 (Nat.le_refl _) (by unfold maxLen; omega) rfl), Nat.le_refl _, by simp, (by repeat (first | with_reducible exact Below.refl _ _ | with_reducible assumption | with_reducible refine Below.drew ?_ | with_reducible refine Below.alloc ?_ (by first | exact Nat.le_refl _ | (simp; done) | (simp; omega) | omega) _ | with_reducible refine Below.setCell ?_ (by first | exact Nat.le_refl _ | (simp; done) | (simp; omega) | omega) _ | with_reducible refine Below.trans ?_ (Below.mono (by with_reducible assumption) (by first | exact Nat.le_refl _ | (simp; done) | (simp; omega) | omega))))⟩
  case round =>
    obtain ⟨k, g, cp, rfl, rfl, hk, hI, hor, hg1, hg2, hbl⟩ := hrel
    have hb := hbl
    have HVV := HD
    replace HD := HD.trans (hb.mono HD.size)
    obtain ⟨hc, hf⟩ := bcell hb
    have hz := hb.size
    replace b00 := (hc _ 0 L0).trans b00
    replace b01 := (hc _ 1 L0).trans b01
    replace b02 := (hc _ 2 L0).trans b02
    replace b03 := (hc _ 3 L0).trans b03
    replace b04 := (hc _ 4 L0).trans b04
    replace b05 := (hc _ 5 L0).trans b05
    replace b06 := (hc _ 6 L0).trans b06
    replace b07 := (hc _ 7 L0).trans b07
    replace b08 := (hc _ 8 L0).trans b08
    replace FV := Lib.hid (RowAt.below FV.out hb)
    replace L0 := Nat.lt_of_lt_of_le L0 hz
    clear hc hf hz hb
    replace hbl := Lib.hid hbl
    by_cases h : k < l.length
    case pos =>
      have h' : (k : Int) < (l.length : Int) := by omega
      have hS := Lib.hid (rls_succ x0 x1 x2 x3 x4 x5 x6 x7 l k)
      have CR := Lib.hid (fun w hw => roundingLine_c x0 x1 x2 x3 x4 x5 x6 x7 a cap l k w h hcp hw)
      have HN := Lib.hid (fun (hh : seg4 (rlAt x0 x1 x2 x3 x4 x5 x6 x7 l k) = false) => lnOK_no (fun (hp : LnP x0 x1 x2 x3 x4 x5 x6 x7 l) => by have := hp k h; rw [hh] at this; cases this))
      have HY := Lib.hid (fun (hh : seg4 (rlAt x0 x1 x2 x3 x4 x5 x6 x7 l k) = true) (j : Nat) (hj : j < k + 1) => (show seg4 (rlAt x0 x1 x2 x3 x4 x5 x6 x7 l j) = true by rcases Nat.lt_or_eq_of_le (Nat.le_of_lt_succ hj) with e | e; exact hI.out j e; rw [e]; exact hh))
      generalize rlAt x0 x1 x2 x3 x4 x5 x6 x7 l k = R at *
      obtain ⟨r0, r1, r2, r3⟩ := R
      simp only at CR
      cases e4 : isSeg r0 r1 r2 r3
      case false =>
        have e5 : seg4 (r0, r1, r2, r3) = false := e4
        have cc := CR.out wr FV.out
        go_wp2_with fail
        refine (cc).mono ?_
        rintro e X1 ⟨rfl, hb⟩
        clear cc
        replace HD := HD.trans (hb.mono HD.size)
        obtain ⟨hc, hf⟩ := bcell hb
        have hz := hb.size
        replace b00 := (hc _ 0 L0).trans b00
        replace b01 := (hc _ 1 L0).trans b01
        replace b02 := (hc _ 2 L0).trans b02
        replace b03 := (hc _ 3 L0).trans b03
        replace b04 := (hc _ 4 L0).trans b04
        replace b05 := (hc _ 5 L0).trans b05
        replace b06 := (hc _ 6 L0).trans b06
        replace b07 := (hc _ 7 L0).trans b07
        replace b08 := (hc _ 8 L0).trans b08
        replace FV := Lib.hid (RowAt.below FV.out hb)
        replace hor := Lib.hid (pown_below hor.out hb)
        replace hbl := Lib.hid (hbl.out.trans (hb.mono hbl.out.size))
        replace L0 := Nat.lt_of_lt_of_le L0 hz
        replace hg2 := Nat.lt_of_lt_of_le hg2 hz
        clear hc hf hz hb
        go_wp2_with fail
        have HF := Lib.hid (HN.out e5)
        obtain ⟨X2, hX2⟩ : ∃ x, x = X1.alloc (.cells #[.int .i64 r0, .int .i64 r1, .int .i64 r2, .int .i64 r3] 38) := ⟨_, rfl⟩
        have hb : Below X1.heap.size X1 X2 := by subst hX2; exact (Below.refl _ _).alloc (Nat.le_refl _) _
        have k30 : X2.cell? ⟨X1.heap.size, 0, none⟩ = some (.int .i64 r0) := by subst hX2; simp [go_sem]
        have k31 : X2.cell? ⟨X1.heap.size, 1, none⟩ = some (.int .i64 r1) := by subst hX2; simp [go_sem]
        have k32 : X2.cell? ⟨X1.heap.size, 2, none⟩ = some (.int .i64 r2) := by subst hX2; simp [go_sem]
        have k33 : X2.cell? ⟨X1.heap.size, 3, none⟩ = some (.int .i64 r3) := by subst hX2; simp [go_sem]
        have K3 : X1.heap.size < X2.heap.size := by subst hX2; simp
        have hS3 := Lib.hid (show X2.heap.size = X1.heap.size + 1 by subst hX2; simp)
        rw [← hX2]
        clear hX2
        replace HD := HD.trans (hb.mono HD.size)
        obtain ⟨hc, hf⟩ := bcell hb
        have hz := hb.size
        replace b00 := (hc _ 0 L0).trans b00
        replace b01 := (hc _ 1 L0).trans b01
        replace b02 := (hc _ 2 L0).trans b02
        replace b03 := (hc _ 3 L0).trans b03
        replace b04 := (hc _ 4 L0).trans b04
        replace b05 := (hc _ 5 L0).trans b05
        replace b06 := (hc _ 6 L0).trans b06
        replace b07 := (hc _ 7 L0).trans b07
        replace b08 := (hc _ 8 L0).trans b08
        replace FV := Lib.hid (RowAt.below FV.out hb)
        replace hor := Lib.hid (pown_below hor.out hb)
        replace hbl := Lib.hid (hbl.out.trans (hb.mono hbl.out.size))
        replace L0 := Nat.lt_of_lt_of_le L0 hz
        replace hg2 := Nat.lt_of_lt_of_le hg2 hz
        clear hc hf hz hb
        obtain ⟨C3, hC3⟩ : ∃ x, x = X1.heap.size := ⟨_, rfl⟩
        rw [← hC3] at k30 k31 k32 k33 K3
        try rw [← hC3]
        replace hC3 := Lib.hid hC3
        have cl := isLine_c r0 r1 r2 r3 X2
        rw [e4] at cl
        clear e4 e5
        go_wp2_with fail
        refine (cl).mono ?_
        rintro e X3 ⟨rfl, hb⟩
        clear cl
        replace HD := HD.trans (hb.mono HD.size)
        obtain ⟨hc, hf⟩ := bcell hb
        have hz := hb.size
        replace b00 := (hc _ 0 L0).trans b00
        replace b01 := (hc _ 1 L0).trans b01
        replace b02 := (hc _ 2 L0).trans b02
        replace b03 := (hc _ 3 L0).trans b03
        replace b04 := (hc _ 4 L0).trans b04
        replace b05 := (hc _ 5 L0).trans b05
        replace b06 := (hc _ 6 L0).trans b06
        replace b07 := (hc _ 7 L0).trans b07
        replace b08 := (hc _ 8 L0).trans b08
        replace k30 := (hc _ 0 K3).trans k30
        replace k31 := (hc _ 1 K3).trans k31
        replace k32 := (hc _ 2 K3).trans k32
        replace k33 := (hc _ 3 K3).trans k33
        replace FV := Lib.hid (RowAt.below FV.out hb)
        replace hor := Lib.hid (pown_below hor.out hb)
        replace hbl := Lib.hid (hbl.out.trans (hb.mono hbl.out.size))
        replace L0 := Nat.lt_of_lt_of_le L0 hz
        replace hg2 := Nat.lt_of_lt_of_le hg2 hz
        replace K3 := Nat.lt_of_lt_of_le K3 hz
        clear hc hf hz hb
        go_wp2_with fail
        exact bodyPost_ret (v := .tuple #[.slice none 0 0, .int .i64 2]) (by simp [results, Tryz.results37, go_sem]) rfl ⟨⟨fun h9 => (by rw [HF.out] at h9; cases h9), fun _ => ⟨none, 0, rfl, World.ownsRow_nil _ _ _ _⟩⟩, HD⟩
      case true =>
        have e5 : seg4 (r0, r1, r2, r3) = true := e4
        have cc := CR.out wr FV.out
        go_wp2_with fail
        refine (cc).mono ?_
        rintro e X1 ⟨rfl, hb⟩
        clear cc
        replace HD := HD.trans (hb.mono HD.size)
        obtain ⟨hc, hf⟩ := bcell hb
        have hz := hb.size
        replace b00 := (hc _ 0 L0).trans b00
        replace b01 := (hc _ 1 L0).trans b01
        replace b02 := (hc _ 2 L0).trans b02
        replace b03 := (hc _ 3 L0).trans b03
        replace b04 := (hc _ 4 L0).trans b04
        replace b05 := (hc _ 5 L0).trans b05
        replace b06 := (hc _ 6 L0).trans b06
        replace b07 := (hc _ 7 L0).trans b07
        replace b08 := (hc _ 8 L0).trans b08
        replace FV := Lib.hid (RowAt.below FV.out hb)
        replace hor := Lib.hid (pown_below hor.out hb)
        replace hbl := Lib.hid (hbl.out.trans (hb.mono hbl.out.size))
        replace L0 := Nat.lt_of_lt_of_le L0 hz
        replace hg2 := Nat.lt_of_lt_of_le hg2 hz
        clear hc hf hz hb
        go_wp2_with fail
        have hI2 := Lib.hid (HY.out e5)
        obtain ⟨X2, hX2⟩ : ∃ x, x = X1.alloc (.cells #[.int .i64 r0, .int .i64 r1, .int .i64 r2, .int .i64 r3] 38) := ⟨_, rfl⟩
        have hb : Below X1.heap.size X1 X2 := by subst hX2; exact (Below.refl _ _).alloc (Nat.le_refl _) _
        have k30 : X2.cell? ⟨X1.heap.size, 0, none⟩ = some (.int .i64 r0) := by subst hX2; simp [go_sem]
        have k31 : X2.cell? ⟨X1.heap.size, 1, none⟩ = some (.int .i64 r1) := by subst hX2; simp [go_sem]
        have k32 : X2.cell? ⟨X1.heap.size, 2, none⟩ = some (.int .i64 r2) := by subst hX2; simp [go_sem]
        have k33 : X2.cell? ⟨X1.heap.size, 3, none⟩ = some (.int .i64 r3) := by subst hX2; simp [go_sem]
        have K3 : X1.heap.size < X2.heap.size := by subst hX2; simp
        have hS3 := Lib.hid (show X2.heap.size = X1.heap.size + 1 by subst hX2; simp)
        rw [← hX2]
        clear hX2
        replace HD := HD.trans (hb.mono HD.size)
        obtain ⟨hc, hf⟩ := bcell hb
        have hz := hb.size
        replace b00 := (hc _ 0 L0).trans b00
        replace b01 := (hc _ 1 L0).trans b01
        replace b02 := (hc _ 2 L0).trans b02
        replace b03 := (hc _ 3 L0).trans b03
        replace b04 := (hc _ 4 L0).trans b04
        replace b05 := (hc _ 5 L0).trans b05
        replace b06 := (hc _ 6 L0).trans b06
        replace b07 := (hc _ 7 L0).trans b07
        replace b08 := (hc _ 8 L0).trans b08
        replace FV := Lib.hid (RowAt.below FV.out hb)
        replace hor := Lib.hid (pown_below hor.out hb)
        replace hbl := Lib.hid (hbl.out.trans (hb.mono hbl.out.size))
        replace L0 := Nat.lt_of_lt_of_le L0 hz
        replace hg2 := Nat.lt_of_lt_of_le hg2 hz
        clear hc hf hz hb
        obtain ⟨C3, hC3⟩ : ∃ x, x = X1.heap.size := ⟨_, rfl⟩
        rw [← hC3] at k30 k31 k32 k33 K3
        try rw [← hC3]
        replace hC3 := Lib.hid hC3
        have cl := isLine_c r0 r1 r2 r3 X2
        rw [e4] at cl
        clear e4 e5
        go_wp2_with fail
        refine (cl).mono ?_
        rintro e X3 ⟨rfl, hb⟩
        clear cl
        replace HD := HD.trans (hb.mono HD.size)
        obtain ⟨hc, hf⟩ := bcell hb
        have hz := hb.size
        replace b00 := (hc _ 0 L0).trans b00
        replace b01 := (hc _ 1 L0).trans b01
        replace b02 := (hc _ 2 L0).trans b02
        replace b03 := (hc _ 3 L0).trans b03
        replace b04 := (hc _ 4 L0).trans b04
        replace b05 := (hc _ 5 L0).trans b05
        replace b06 := (hc _ 6 L0).trans b06
        replace b07 := (hc _ 7 L0).trans b07
        replace b08 := (hc _ 8 L0).trans b08
        replace k30 := (hc _ 0 K3).trans k30
        replace k31 := (hc _ 1 K3).trans k31
        replace k32 := (hc _ 2 K3).trans k32
        replace k33 := (hc _ 3 K3).trans k33
        replace FV := Lib.hid (RowAt.below FV.out hb)
        replace hor := Lib.hid (pown_below hor.out hb)
        replace hbl := Lib.hid (hbl.out.trans (hb.mono hbl.out.size))
        replace L0 := Nat.lt_of_lt_of_le L0 hz
        replace hg2 := Nat.lt_of_lt_of_le hg2 hz
        replace K3 := Nat.lt_of_lt_of_le K3 hz
        clear hc hf hz hb
        have hzz := hbl.out.size
        go_wp2_with (at_builtin; refine wpList_append_lies _ rfl _ _ 72 rfl V.heap.size 38 i0 _ 4 32 Tryz.underlying72 hi ti0 ti1 ti2 rfl (by decide) (.slice (some ⟨g, 0, none⟩) (k + 1) cp) (k + 1) (lflat ((x0, x1, x2, x3) :: rls x0 x1 x2 x3 x4 x5 x6 x7 l k)) rfl (by repeat (first | with_reducible exact hor.out | with_reducible refine World.ownsRow.alloc ?_ _ | with_reducible refine World.ownsRow.drew ?_)) ⟨X3.heap.size, 0, none⟩ 1 1 [.int .i64 r0, .int .i64 r1, .int .i64 r2, .int .i64 r3] rfl rfl (World.news_of_block (pheap_new (by simp))) (one4 _ _ _ _) (by decide) (by unfold maxLen; omega) (by omega) (by simp; omega) (X3.heap.size + 1) (by simp) ?_; intro g' cp' w1 hown1 hgrow1 hat1 hlt1)
        have hG := pgrown_below (base := V.heap.size) hgrow1 (by simp; omega) (by intro j e; simp [Value.ownBlock] at e; omega)
        have HB1 : Below V.heap.size V w1 := Below.trans (hbl.out.alloc hbl.out.size _) hG
        have hga : V.heap.size ≤ g' := by rcases hat1 with e | e; (simp [Value.ownBlock] at e; omega); omega
        clear hG hgrow1 hat1
        go_wp2
        refine ⟨⟨k + 1, g', cp', by simp, rfl, by omega, hI2, Lib.hid ?_, hga, hlt1, HB1⟩, by simp [intOf]; omega⟩
        rw [hS.out]
        have := hown1
        rw [show lflat ((x0, x1, x2, x3) :: rls x0 x1 x2 x3 x4 x5 x6 x7 l k) ++ [.int .i64 r0, .int .i64 r1, .int .i64 r2, .int .i64 r3] = lflat ((x0, x1, x2, x3) :: (rls x0 x1 x2 x3 x4 x5 x6 x7 l k ++ [(r0, r1, r2, r3)])) by rw [← List.cons_append, lflat_append]; rfl] at this
        exact this
    case neg =>
      have h' : (l.length : Int) ≤ (k : Int) := by omega
      have h'' : ¬ (k : Int) < (l.length : Int) := by omega
      have hkl := Lib.hid (show k = l.length by omega)
      have HF := Lib.hid (lnOK_yes (fun j hj => hI.out j (by omega) : LnP x0 x1 x2 x3 x4 x5 x6 x7 l))
      have hzz := hbl.out.size
      go_wp2_with (at_builtin; refine wpList_append_lies _ rfl _ _ 72 rfl V.heap.size 38 i0 _ 4 32 Tryz.underlying72 hi ti0 ti1 ti2 rfl (by decide) (.slice (some ⟨g, 0, none⟩) (k + 1) cp) (k + 1) (lflat ((x0, x1, x2, x3) :: rls x0 x1 x2 x3 x4 x5 x6 x7 l k)) rfl (by repeat (first | with_reducible exact hor.out | with_reducible refine World.ownsRow.alloc ?_ _ | with_reducible refine World.ownsRow.drew ?_)) ⟨wr.heap.size, 0, none⟩ 1 1 [.int .i64 x4, .int .i64 x5, .int .i64 x6, .int .i64 x7] rfl rfl (World.news_of_block (pheap_new (by simp))) (one4 _ _ _ _) (by decide) (by unfold maxLen; omega) (by omega) (by simp; omega) (wr.heap.size + 1) (by simp) ?_; intro g' cp' w1 hown1 hgrow1 hat1 hlt1)
      have hG := pgrown_below (base := V.heap.size) hgrow1 (by simp; omega) (by intro j e; simp [Value.ownBlock] at e; omega)
      have HB1 : Below V.heap.size V w1 := Below.trans (hbl.out.alloc hbl.out.size _) hG
      clear hG hgrow1
      rw [show lflat ((x0, x1, x2, x3) :: rls x0 x1 x2 x3 x4 x5 x6 x7 l k) ++ [.int .i64 x4, .int .i64 x5, .int .i64 x6, .int .i64 x7] = lflat (lnz x0 x1 x2 x3 x4 x5 x6 x7 l) by rw [hkl.out, lnz, show ((x0, x1, x2, x3) :: (rls x0 x1 x2 x3 x4 x5 x6 x7 l l.length ++ [(x4, x5, x6, x7)])) = ((x0, x1, x2, x3) :: rls x0 x1 x2 x3 x4 x5 x6 x7 l l.length) ++ [(x4, x5, x6, x7)] from rfl, lflat_append]; rfl] at hown1
      go_wp2_with fail
      refine bodyPost_ret (v := .tuple #[.slice (some ⟨g', 0, none⟩) (k + 1 + 1) cp', .int .i64 0]) (by simp [results, Tryz.results37, go_sem]) rfl ?_
      exact ⟨⟨fun _ => ⟨g', cp', congrArg (fun n : Nat => Ending.returned (Value.tuple #[.slice (some ⟨g', 0, none⟩) (n + 2) cp', .int .i64 0])) hkl.out, by rw [← hkl.out]; exact pown_mono hown1 HVV.size⟩, fun h9 => (by rw [HF.out] at h9; cases h9)⟩, HVV.trans (HB1.mono HVV.size)⟩
set_option maxRecDepth 100000 in
set_option maxHeartbeats 4000000 in
theorem l06Lines_c (x0 x1 x2 x3 x4 x5 x6 x7 : Int) (a : Option Addr) (cap : Nat) (l : List Mk) (w : World) (h : RowAt w a (mflat l)) (hcp : CourseP x0 x1 x2 x3 x4 x5 x6 x7 l) :
    Calls Tryz.prog 31 #[.agg #[.int .i64 x0, .int .i64 x1, .int .i64 x2, .int .i64 x3, .int .i64 x4, .int .i64 x5, .int .i64 x6, .int .i64 x7, .slice a l.length cap]] w fun e w' => ((lnOK x0 x1 x2 x3 x4 x5 x6 x7 l = true → ∃ (g cp' : Nat), e = .returned (.tuple #[.slice (some ⟨g, 0, none⟩) (l.length + 2) cp', .bool true]) ∧ w'.ownsRow w.heap.size 38 4 (.slice (some ⟨g, 0, none⟩) (l.length + 2) cp') (l.length + 2) (lflat (lnz x0 x1 x2 x3 x4 x5 x6 x7 l))) ∧ (lnOK x0 x1 x2 x3 x4 x5 x6 x7 l = false → ∃ (a' : Option Addr) (cp' : Nat), e = .returned (.tuple #[.slice a' 0 cp', .bool false]) ∧ w'.ownsRow w.heap.size 38 4 (.slice a' 0 cp') 0 [])) ∧ Below w.heap.size w w' := by
  obtain ⟨i0, hi, ti0, ti1, ti2⟩ := info_parts infoLn
  have H0 := Lib.hid h
  have hl8 := hcp.2.2.2.1
  clear h
  go_enter Tryz.func31, Tryz.ntmps31
  go_upto_region 1 with fail
  obtain ⟨W, hW⟩ : ∃ W, W = (w.alloc (.cells #[.int .i64 x0, .int .i64 x1, .int .i64 x2, .int .i64 x3, .int .i64 x4, .int .i64 x5, .int .i64 x6, .int .i64 x7, .slice a l.length cap] 41)) := ⟨_, rfl⟩
  have HD : Below w.heap.size w W := by subst hW; exact (by repeat (first | with_reducible exact Below.refl _ _ | with_reducible assumption | with_reducible refine Below.drew ?_ | with_reducible refine Below.alloc ?_ (by first | exact Nat.le_refl _ | (simp; done) | (simp; omega) | omega) _ | with_reducible refine Below.setCell ?_ (by first | exact Nat.le_refl _ | (simp; done) | (simp; omega) | omega) _ | with_reducible refine Below.trans ?_ (Below.mono (by with_reducible assumption) (by first | exact Nat.le_refl _ | (simp; done) | (simp; omega) | omega))))
  have b00 : W.cell? ⟨w.heap.size, 0, none⟩ = some (.int .i64 x0) := by subst hW; simp [go_sem]
  have b01 : W.cell? ⟨w.heap.size, 1, none⟩ = some (.int .i64 x1) := by subst hW; simp [go_sem]
  have b02 : W.cell? ⟨w.heap.size, 2, none⟩ = some (.int .i64 x2) := by subst hW; simp [go_sem]
  have b03 : W.cell? ⟨w.heap.size, 3, none⟩ = some (.int .i64 x3) := by subst hW; simp [go_sem]
  have b04 : W.cell? ⟨w.heap.size, 4, none⟩ = some (.int .i64 x4) := by subst hW; simp [go_sem]
  have b05 : W.cell? ⟨w.heap.size, 5, none⟩ = some (.int .i64 x5) := by subst hW; simp [go_sem]
  have b06 : W.cell? ⟨w.heap.size, 6, none⟩ = some (.int .i64 x6) := by subst hW; simp [go_sem]
  have b07 : W.cell? ⟨w.heap.size, 7, none⟩ = some (.int .i64 x7) := by subst hW; simp [go_sem]
  have b08 : W.cell? ⟨w.heap.size, 8, none⟩ = some (.slice a l.length cap) := by subst hW; simp [go_sem]
  have L0 : w.heap.size < W.heap.size := by subst hW; first | (simp; done) | (simp; omega)
  rw [← hW]
  clear hW
  obtain ⟨B0, hB0⟩ : ∃ B, B = w.heap.size := ⟨_, rfl⟩
  rw [← hB0] at b00 b01 b02 b03 b04 b05 b06 b07 b08 L0
  try rw [← hB0]
  replace hB0 := Lib.hid hB0
  have FV := Lib.hid (H0.out.below HD)
  clear H0
  go_wp2_with fail
  go_loopw [4, 5] (fun v i wr => ∃ (k g cp : Nat), i = .int .i64 k ∧ v = .slice (some ⟨g, 0, none⟩) (k + 1) cp ∧ k ≤ l.length ∧ Hid (∀ j, j < k → seg4 (rlAt x0 x1 x2 x3 x4 x5 x6 x7 l j) = true) ∧ Hid (wr.ownsRow W.heap.size 38 4 (.slice (some ⟨g, 0, none⟩) (k + 1) cp) (k + 1) (lflat ((x0, x1, x2, x3) :: rls x0 x1 x2 x3 x4 x5 x6 x7 l k))) ∧ W.heap.size ≤ g ∧ g < wr.heap.size ∧ Below W.heap.size W wr) (fun _ i _ => l.length - (intOf i).toNat)
  case atStart => exact ⟨0, W.heap.size, 1, rfl, rfl, Nat.zero_le _, Lib.hid (fun j hj => by omega), Lib.hid (World.ownsRow_lit W #[.int .i64 x0, .int .i64 x1, .int .i64 x2, .int .i64 x3] 1 (Nat.le_refl _) (by unfold maxLen; omega) rfl), Nat.le_refl _, by simp, (by repeat (first | with_reducible exact Below.refl _ _ | with_reducible assumption | with_reducible refine Below.drew ?_ | with_reducible refine Below.alloc ?_ (by first | exact Nat.le_refl _ | (simp; done) | (simp; omega) | omega) _ | with_reducible refine Below.setCell ?_ (by first | exact Nat.le_refl _ | (simp; done) | (simp; omega) | omega) _ | with_reducible refine Below.trans ?_ (Below.mono (by with_reducible assumption) (by first | exact Nat.le_refl _ | (simp; done) | (simp; omega) | omega))))⟩
  case round =>
    obtain ⟨k, g, cp, rfl, rfl, hk, hI, hor, hg1, hg2, hbl⟩ := hrel
    have hb := hbl
    have HVV := HD
    replace HD := HD.trans (hb.mono HD.size)
    obtain ⟨hc, hf⟩ := bcell hb
    have hz := hb.size
    replace b00 := (hc _ 0 L0).trans b00
    replace b01 := (hc _ 1 L0).trans b01
    replace b02 := (hc _ 2 L0).trans b02
    replace b03 := (hc _ 3 L0).trans b03
    replace b04 := (hc _ 4 L0).trans b04
    replace b05 := (hc _ 5 L0).trans b05
    replace b06 := (hc _ 6 L0).trans b06
    replace b07 := (hc _ 7 L0).trans b07
    replace b08 := (hc _ 8 L0).trans b08
    replace FV := Lib.hid (RowAt.below FV.out hb)
    replace L0 := Nat.lt_of_lt_of_le L0 hz
    clear hc hf hz hb
    replace hbl := Lib.hid hbl
    by_cases h : k < l.length
    case pos =>
      have h' : (k : Int) < (l.length : Int) := by omega
      have hS := Lib.hid (rls_succ x0 x1 x2 x3 x4 x5 x6 x7 l k)
      have CR := Lib.hid (fun w hw => l06Line_c x0 x1 x2 x3 x4 x5 x6 x7 a cap l k w h hcp hw)
      have HN := Lib.hid (fun (hh : seg4 (rlAt x0 x1 x2 x3 x4 x5 x6 x7 l k) = false) => lnOK_no (fun (hp : LnP x0 x1 x2 x3 x4 x5 x6 x7 l) => by have := hp k h; rw [hh] at this; cases this))
      have HY := Lib.hid (fun (hh : seg4 (rlAt x0 x1 x2 x3 x4 x5 x6 x7 l k) = true) (j : Nat) (hj : j < k + 1) => (show seg4 (rlAt x0 x1 x2 x3 x4 x5 x6 x7 l j) = true by rcases Nat.lt_or_eq_of_le (Nat.le_of_lt_succ hj) with e | e; exact hI.out j e; rw [e]; exact hh))
      generalize rlAt x0 x1 x2 x3 x4 x5 x6 x7 l k = R at *
      obtain ⟨r0, r1, r2, r3⟩ := R
      simp only at CR
      cases e4 : isSeg r0 r1 r2 r3
      case false =>
        have e5 : seg4 (r0, r1, r2, r3) = false := e4
        have cc := CR.out wr FV.out
        simp only [e4] at cc
        go_wp2_with fail
        refine (cc).mono ?_
        rintro e X1 ⟨rfl, hb⟩
        clear cc
        replace HD := HD.trans (hb.mono HD.size)
        obtain ⟨hc, hf⟩ := bcell hb
        have hz := hb.size
        replace b00 := (hc _ 0 L0).trans b00
        replace b01 := (hc _ 1 L0).trans b01
        replace b02 := (hc _ 2 L0).trans b02
        replace b03 := (hc _ 3 L0).trans b03
        replace b04 := (hc _ 4 L0).trans b04
        replace b05 := (hc _ 5 L0).trans b05
        replace b06 := (hc _ 6 L0).trans b06
        replace b07 := (hc _ 7 L0).trans b07
        replace b08 := (hc _ 8 L0).trans b08
        replace FV := Lib.hid (RowAt.below FV.out hb)
        replace hor := Lib.hid (pown_below hor.out hb)
        replace hbl := Lib.hid (hbl.out.trans (hb.mono hbl.out.size))
        replace L0 := Nat.lt_of_lt_of_le L0 hz
        replace hg2 := Nat.lt_of_lt_of_le hg2 hz
        clear hc hf hz hb
        go_wp2_with fail
        have HF := Lib.hid (HN.out e5)
        obtain ⟨X2, hX2⟩ : ∃ x, x = X1.alloc (.cells #[.int .i64 r0, .int .i64 r1, .int .i64 r2, .int .i64 r3] 38) := ⟨_, rfl⟩
        have hb : Below X1.heap.size X1 X2 := by subst hX2; exact (Below.refl _ _).alloc (Nat.le_refl _) _
        have k30 : X2.cell? ⟨X1.heap.size, 0, none⟩ = some (.int .i64 r0) := by subst hX2; simp [go_sem]
        have k31 : X2.cell? ⟨X1.heap.size, 1, none⟩ = some (.int .i64 r1) := by subst hX2; simp [go_sem]
        have k32 : X2.cell? ⟨X1.heap.size, 2, none⟩ = some (.int .i64 r2) := by subst hX2; simp [go_sem]
        have k33 : X2.cell? ⟨X1.heap.size, 3, none⟩ = some (.int .i64 r3) := by subst hX2; simp [go_sem]
        have K3 : X1.heap.size < X2.heap.size := by subst hX2; simp
        have hS3 := Lib.hid (show X2.heap.size = X1.heap.size + 1 by subst hX2; simp)
        rw [← hX2]
        clear hX2
        replace HD := HD.trans (hb.mono HD.size)
        obtain ⟨hc, hf⟩ := bcell hb
        have hz := hb.size
        replace b00 := (hc _ 0 L0).trans b00
        replace b01 := (hc _ 1 L0).trans b01
        replace b02 := (hc _ 2 L0).trans b02
        replace b03 := (hc _ 3 L0).trans b03
        replace b04 := (hc _ 4 L0).trans b04
        replace b05 := (hc _ 5 L0).trans b05
        replace b06 := (hc _ 6 L0).trans b06
        replace b07 := (hc _ 7 L0).trans b07
        replace b08 := (hc _ 8 L0).trans b08
        replace FV := Lib.hid (RowAt.below FV.out hb)
        replace hor := Lib.hid (pown_below hor.out hb)
        replace hbl := Lib.hid (hbl.out.trans (hb.mono hbl.out.size))
        replace L0 := Nat.lt_of_lt_of_le L0 hz
        replace hg2 := Nat.lt_of_lt_of_le hg2 hz
        clear hc hf hz hb
        obtain ⟨C3, hC3⟩ : ∃ x, x = X1.heap.size := ⟨_, rfl⟩
        rw [← hC3] at k30 k31 k32 k33 K3
        try rw [← hC3]
        replace hC3 := Lib.hid hC3
        clear e4 e5
        go_wp2_with fail
        exact bodyPost_ret (v := .tuple #[.slice none 0 0, .bool false]) (by simp [results, Tryz.results31, go_sem]) rfl ⟨⟨fun h9 => (by rw [HF.out] at h9; cases h9), fun _ => ⟨none, 0, rfl, World.ownsRow_nil _ _ _ _⟩⟩, HD⟩
      case true =>
        have e5 : seg4 (r0, r1, r2, r3) = true := e4
        have cc := CR.out wr FV.out
        simp only [e4] at cc
        go_wp2_with fail
        refine (cc).mono ?_
        rintro e X1 ⟨rfl, hb⟩
        clear cc
        replace HD := HD.trans (hb.mono HD.size)
        obtain ⟨hc, hf⟩ := bcell hb
        have hz := hb.size
        replace b00 := (hc _ 0 L0).trans b00
        replace b01 := (hc _ 1 L0).trans b01
        replace b02 := (hc _ 2 L0).trans b02
        replace b03 := (hc _ 3 L0).trans b03
        replace b04 := (hc _ 4 L0).trans b04
        replace b05 := (hc _ 5 L0).trans b05
        replace b06 := (hc _ 6 L0).trans b06
        replace b07 := (hc _ 7 L0).trans b07
        replace b08 := (hc _ 8 L0).trans b08
        replace FV := Lib.hid (RowAt.below FV.out hb)
        replace hor := Lib.hid (pown_below hor.out hb)
        replace hbl := Lib.hid (hbl.out.trans (hb.mono hbl.out.size))
        replace L0 := Nat.lt_of_lt_of_le L0 hz
        replace hg2 := Nat.lt_of_lt_of_le hg2 hz
        clear hc hf hz hb
        go_upto_region 8 with fail
        have hI2 := Lib.hid (HY.out e5)
        obtain ⟨X2, hX2⟩ : ∃ x, x = X1.alloc (.cells #[.int .i64 r0, .int .i64 r1, .int .i64 r2, .int .i64 r3] 38) := ⟨_, rfl⟩
        have hb : Below X1.heap.size X1 X2 := by subst hX2; exact (Below.refl _ _).alloc (Nat.le_refl _) _
        have k30 : X2.cell? ⟨X1.heap.size, 0, none⟩ = some (.int .i64 r0) := by subst hX2; simp [go_sem]
        have k31 : X2.cell? ⟨X1.heap.size, 1, none⟩ = some (.int .i64 r1) := by subst hX2; simp [go_sem]
        have k32 : X2.cell? ⟨X1.heap.size, 2, none⟩ = some (.int .i64 r2) := by subst hX2; simp [go_sem]
        have k33 : X2.cell? ⟨X1.heap.size, 3, none⟩ = some (.int .i64 r3) := by subst hX2; simp [go_sem]
        have K3 : X1.heap.size < X2.heap.size := by subst hX2; simp
        have hS3 := Lib.hid (show X2.heap.size = X1.heap.size + 1 by subst hX2; simp)
        rw [← hX2]
        clear hX2
        replace HD := HD.trans (hb.mono HD.size)
        obtain ⟨hc, hf⟩ := bcell hb
        have hz := hb.size
        replace b00 := (hc _ 0 L0).trans b00
        replace b01 := (hc _ 1 L0).trans b01
        replace b02 := (hc _ 2 L0).trans b02
        replace b03 := (hc _ 3 L0).trans b03
        replace b04 := (hc _ 4 L0).trans b04
        replace b05 := (hc _ 5 L0).trans b05
        replace b06 := (hc _ 6 L0).trans b06
        replace b07 := (hc _ 7 L0).trans b07
        replace b08 := (hc _ 8 L0).trans b08
        replace FV := Lib.hid (RowAt.below FV.out hb)
        replace hor := Lib.hid (pown_below hor.out hb)
        replace hbl := Lib.hid (hbl.out.trans (hb.mono hbl.out.size))
        replace L0 := Nat.lt_of_lt_of_le L0 hz
        replace hg2 := Nat.lt_of_lt_of_le hg2 hz
        clear hc hf hz hb
        obtain ⟨C3, hC3⟩ : ∃ x, x = X1.heap.size := ⟨_, rfl⟩
        rw [← hC3] at k30 k31 k32 k33 K3
        try rw [← hC3]
        replace hC3 := Lib.hid hC3
        clear e4 e5
        have hzz := hbl.out.size
        go_wp2_with (at_builtin; refine wpList_append_lies _ rfl _ _ 72 rfl W.heap.size 38 i0 _ 4 32 Tryz.underlying72 hi ti0 ti1 ti2 rfl (by decide) (.slice (some ⟨g, 0, none⟩) (k + 1) cp) (k + 1) (lflat ((x0, x1, x2, x3) :: rls x0 x1 x2 x3 x4 x5 x6 x7 l k)) rfl (by repeat (first | with_reducible exact hor.out | with_reducible refine World.ownsRow.alloc ?_ _ | with_reducible refine World.ownsRow.drew ?_)) ⟨X2.heap.size, 0, none⟩ 1 1 [.int .i64 r0, .int .i64 r1, .int .i64 r2, .int .i64 r3] rfl rfl (World.news_of_block (pheap_new (by simp))) (one4 _ _ _ _) (by decide) (by unfold maxLen; omega) (by omega) (by simp; omega) (X2.heap.size + 1) (by simp) ?_; intro g' cp' w1 hown1 hgrow1 hat1 hlt1)
        have hG := pgrown_below (base := W.heap.size) hgrow1 (by simp; omega) (by intro j e; simp [Value.ownBlock] at e; omega)
        have HB1 : Below W.heap.size W w1 := Below.trans (hbl.out.alloc hbl.out.size _) hG
        have hga : W.heap.size ≤ g' := by rcases hat1 with e | e; (simp [Value.ownBlock] at e; omega); omega
        clear hG hgrow1 hat1
        go_wp2
        refine ⟨⟨k + 1, g', cp', by simp, rfl, by omega, hI2, Lib.hid ?_, hga, hlt1, HB1⟩, by simp [intOf]; omega⟩
        rw [hS.out]
        have := hown1
        rw [show lflat ((x0, x1, x2, x3) :: rls x0 x1 x2 x3 x4 x5 x6 x7 l k) ++ [.int .i64 r0, .int .i64 r1, .int .i64 r2, .int .i64 r3] = lflat ((x0, x1, x2, x3) :: (rls x0 x1 x2 x3 x4 x5 x6 x7 l k ++ [(r0, r1, r2, r3)])) by rw [← List.cons_append, lflat_append]; rfl] at this
        exact this
    case neg =>
      have h' : (l.length : Int) ≤ (k : Int) := by omega
      have h'' : ¬ (k : Int) < (l.length : Int) := by omega
      have hkl := Lib.hid (show k = l.length by omega)
      have HF := Lib.hid (lnOK_yes (fun j hj => hI.out j (by omega) : LnP x0 x1 x2 x3 x4 x5 x6 x7 l))
      have hzz := hbl.out.size
      go_wp2_with (at_builtin; refine wpList_append_lies _ rfl _ _ 72 rfl W.heap.size 38 i0 _ 4 32 Tryz.underlying72 hi ti0 ti1 ti2 rfl (by decide) (.slice (some ⟨g, 0, none⟩) (k + 1) cp) (k + 1) (lflat ((x0, x1, x2, x3) :: rls x0 x1 x2 x3 x4 x5 x6 x7 l k)) rfl (by repeat (first | with_reducible exact hor.out | with_reducible refine World.ownsRow.alloc ?_ _ | with_reducible refine World.ownsRow.drew ?_)) ⟨wr.heap.size, 0, none⟩ 1 1 [.int .i64 x4, .int .i64 x5, .int .i64 x6, .int .i64 x7] rfl rfl (World.news_of_block (pheap_new (by simp))) (one4 _ _ _ _) (by decide) (by unfold maxLen; omega) (by omega) (by simp; omega) (wr.heap.size + 1) (by simp) ?_; intro g' cp' w1 hown1 hgrow1 hat1 hlt1)
      have hG := pgrown_below (base := W.heap.size) hgrow1 (by simp; omega) (by intro j e; simp [Value.ownBlock] at e; omega)
      have HB1 : Below W.heap.size W w1 := Below.trans (hbl.out.alloc hbl.out.size _) hG
      clear hG hgrow1
      rw [show lflat ((x0, x1, x2, x3) :: rls x0 x1 x2 x3 x4 x5 x6 x7 l k) ++ [.int .i64 x4, .int .i64 x5, .int .i64 x6, .int .i64 x7] = lflat (lnz x0 x1 x2 x3 x4 x5 x6 x7 l) by rw [hkl.out, lnz, show ((x0, x1, x2, x3) :: (rls x0 x1 x2 x3 x4 x5 x6 x7 l l.length ++ [(x4, x5, x6, x7)])) = ((x0, x1, x2, x3) :: rls x0 x1 x2 x3 x4 x5 x6 x7 l l.length) ++ [(x4, x5, x6, x7)] from rfl, lflat_append]; rfl] at hown1
      go_wp2_with fail
      refine bodyPost_ret (v := .tuple #[.slice (some ⟨g', 0, none⟩) (k + 1 + 1) cp', .bool true]) (by simp [results, Tryz.results31, go_sem]) rfl ?_
      exact ⟨⟨fun _ => ⟨g', cp', congrArg (fun n : Nat => Ending.returned (Value.tuple #[.slice (some ⟨g', 0, none⟩) (n + 2) cp', .bool true])) hkl.out, by rw [← hkl.out]; exact pown_mono hown1 HVV.size⟩, fun h9 => (by rw [HF.out] at h9; cases h9)⟩, HVV.trans (HB1.mono HVV.size)⟩
end

section
set_option linter.unusedVariables false
open Go.RowKit Go.Deep

/-- the first crossing of a line from a time on -/
def fxl (l : List Fx) (p : Int × Int × Int × Int) (f : Int) : Cr × Bool := firstT (crL l p.1 p.2.1 p.2.2.1 p.2.2.2) 1 f
/-- the times at which lines are crossed -/
def acr (l : List Fx) : List (Int × Int × Int × Int) → Int → List Int
  | [], _ => []
  | p :: L, f => if (fxl l p f).2 = true then (fxl l p f).1.t :: acr l L (fxl l p f).1.t else []
def ln (L : List (Int × Int × Int × Int)) (k : Nat) : Int × Int × Int × Int := L.getD k (0, 0, 0, 0)
theorem ln_of {L : List (Int × Int × Int × Int)} {k : Nat} (h : k < L.length) : L[k]? = some (ln L k) := by
  unfold ln
  rw [List.getD_eq_getElem?_getD, List.getElem?_eq_getElem h]; rfl
theorem ln_drop {L : List (Int × Int × Int × Int)} {k : Nat} (h : k < L.length) : L.drop k = ln L k :: L.drop (k + 1) := by
  rw [List.drop_eq_getElem_cons h]
  congr 1
  have := ln_of h
  rw [List.getElem?_eq_getElem h] at this
  exact Option.some.inj this
theorem lflat_get : ∀ (L : List (Int × Int × Int × Int)) (i : Nat) (p : Int × Int × Int × Int), L[i]? = some p → (lflat L)[i * 4]? = some (.int .i64 p.1) ∧ (lflat L)[i * 4 + 1]? = some (.int .i64 p.2.1) ∧ (lflat L)[i * 4 + 2]? = some (.int .i64 p.2.2.1) ∧ (lflat L)[i * 4 + 3]? = some (.int .i64 p.2.2.2)
  | [], i, p, h => by simp at h
  | c :: L, 0, p, h => by simp at h; subst h; exact ⟨rfl, rfl, rfl, rfl⟩
  | c :: L, i + 1, p, h => by
    have := lflat_get L i p (by simpa using h)
    rw [show (i + 1) * 4 = i * 4 + 1 + 1 + 1 + 1 by omega]
    simpa [lflat] using this
theorem ln_cell {w : World} {a : Option Addr} {k : Nat} {L : List (Int × Int × Int × Int)} (h : RowAt w a (lflat L)) (hk : k < L.length) : ∃ b off, a = some ⟨b, off, none⟩ ∧ b < w.heap.size ∧ w.cell? ⟨b, off + k * 4, none⟩ = some (.int .i64 (ln L k).1) ∧ w.cell? ⟨b, off + k * 4 + 1, none⟩ = some (.int .i64 (ln L k).2.1) ∧ w.cell? ⟨b, off + k * 4 + 2, none⟩ = some (.int .i64 (ln L k).2.2.1) ∧ w.cell? ⟨b, off + k * 4 + 3, none⟩ = some (.int .i64 (ln L k).2.2.2) := by
  obtain ⟨f0, f1, f2, f3⟩ := lflat_get L k _ (ln_of hk)
  obtain ⟨b, off, rfl, hlt, hc⟩ := h.head (by rw [lflat_length]; omega)
  exact ⟨b, off, rfl, hlt, hc _ _ f0, hc _ _ f1, hc _ _ f2, hc _ _ f3⟩
theorem acr_yes {l : List Fx} {L : List (Int × Int × Int × Int)} {k : Nat} {f : Int} {S : List Int} (h : k < L.length) (hS : S ++ acr l (L.drop k) f = acr l L 0) (h1 : (fxl l (ln L k) f).2 = true) : (S ++ [(fxl l (ln L k) f).1.t]) ++ acr l (L.drop (k + 1)) (fxl l (ln L k) f).1.t = acr l L 0 := by
  rw [← hS, ln_drop h, acr, if_pos h1, List.append_assoc]; rfl
theorem acr_no {l : List Fx} {L : List (Int × Int × Int × Int)} {k : Nat} {f : Int} {S : List Int} (h : k < L.length) (hS : S ++ acr l (L.drop k) f = acr l L 0) (h1 : (fxl l (ln L k) f).2 = false) : acr l L 0 = S := by
  rw [← hS, ln_drop h, acr, if_neg (by rw [h1]; decide), List.append_nil]
theorem acr_end {l : List Fx} {L : List (Int × Int × Int × Int)} {k : Nat} {f : Int} {S : List Int} (h : ¬ k < L.length) (hS : S ++ acr l (L.drop k) f = acr l L 0) : acr l L 0 = S := by
  rw [← hS, List.drop_eq_nil_of_le (by omega), acr, List.append_nil]
theorem firstCr_ge : ∀ (L : List Cr) (y f : Int) (c : Cr), firstCr y f L = some c → f ≤ c.t
  | [], y, f, c, h => by simp [firstCr] at h
  | d :: L, y, f, c, h => by
    unfold firstCr at h
    split at h
    · rename_i h1
      cases h
      exact h1.2
    · exact firstCr_ge L y f c h
theorem fx_ge {l : List Fx} {p : Int × Int × Int × Int} {f : Int} (h : (fxl l p f).2 = true) : f ≤ (fxl l p f).1.t := by
  unfold fxl firstT at *
  split at h
  · rename_i c hc
    exact firstCr_ge _ _ _ _ hc
  · cases h
theorem acr_ge (l : List Fx) : ∀ (L : List (Int × Int × Int × Int)) (f : Int), ∀ t ∈ acr l L f, f ≤ t
  | [], f, t, h => by simp [acr] at h
  | p :: L, f, t, h => by
    unfold acr at h
    split at h
    · rename_i h1
      have h2 := fx_ge h1
      rcases List.mem_cons.1 h with rfl | h3
      · exact h2
      · exact Int.le_trans h2 (acr_ge l L _ t h3)
    · cases h
theorem acr_le (l : List Fx) : ∀ (L : List (Int × Int × Int × Int)) (f : Int), (acr l L f).length ≤ L.length
  | [], f => by simp [acr]
  | p :: L, f => by
    unfold acr
    split
    · simp [acr_le l L]
    · simp
/-- how many are at or before a time, up to the first that is not -/
def rch (t : Int) : List Int → Nat
  | [] => 0
  | x :: S => if x ≤ t then rch t S + 1 else 0
/-- how many are at or before a time -/
def cnt (t : Int) : List Int → Nat
  | [] => 0
  | x :: S => (if x ≤ t then 1 else 0) + cnt t S
theorem cnt_none (t : Int) : ∀ S : List Int, (∀ x ∈ S, t < x) → cnt t S = 0
  | [], _ => rfl
  | x :: S, h => by
    have h1 := h x (List.mem_cons_self ..)
    rw [cnt, if_neg (by omega), cnt_none t S (fun y hy => h y (List.mem_cons_of_mem _ hy))]
theorem acr_cnt (l : List Fx) (t : Int) : ∀ (L : List (Int × Int × Int × Int)) (f : Int), cnt t (acr l L f) = rch t (acr l L f)
  | [], f => by simp [acr, cnt, rch]
  | p :: L, f => by
    unfold acr
    split
    · rename_i h1
      rw [cnt, rch]
      split
      · rw [acr_cnt l t L]; omega
      · rw [cnt_none]
        intro x hx
        have := acr_ge l L _ x hx
        omega
    · rfl
theorem rch_le (t : Int) : ∀ S : List Int, rch t S ≤ S.length
  | [] => by simp [rch]
  | x :: S => by
    rw [rch]
    split
    · simp [rch_le t S]
    · simp
theorem nm_of {S : List Int} {i : Nat} (h : i < S.length) : S.drop i = S.getD i 0 :: S.drop (i + 1) := by
  rw [List.drop_eq_getElem_cons h]
  congr 1
  rw [List.getD_eq_getElem?_getD, List.getElem?_eq_getElem h]; rfl
theorem rch_yes {t : Int} {S : List Int} {i : Nat} (h : i < S.length) (hi : i + rch t (S.drop i) = rch t S) (h1 : S.getD i 0 ≤ t) : i + 1 + rch t (S.drop (i + 1)) = rch t S := by
  rw [← hi, nm_of h, rch, if_pos h1]; omega
theorem rch_no {t : Int} {S : List Int} {i : Nat} (h : i < S.length) (hi : i + rch t (S.drop i) = rch t S) (h1 : ¬ S.getD i 0 ≤ t) : rch t S = i := by
  rw [← hi, nm_of h, rch, if_neg h1]; omega
theorem rch_end {t : Int} {S : List Int} {i : Nat} (h : ¬ i < S.length) (hi : i + rch t (S.drop i) = rch t S) : rch t S = i := by
  rw [← hi, List.drop_eq_nil_of_le (by omega), rch]; omega
theorem cnt_yes {t : Int} {S : List Int} {i n : Nat} (h : i < S.length) (hi : n + cnt t (S.drop i) = cnt t S) (h1 : S.getD i 0 ≤ t) : n + 1 + cnt t (S.drop (i + 1)) = cnt t S := by
  rw [← hi, nm_of h, cnt, if_pos h1]; omega
theorem cnt_no {t : Int} {S : List Int} {i n : Nat} (h : i < S.length) (hi : n + cnt t (S.drop i) = cnt t S) (h1 : ¬ S.getD i 0 ≤ t) : n + cnt t (S.drop (i + 1)) = cnt t S := by
  rw [← hi, nm_of h, cnt, if_neg h1]; omega
theorem cnt_end {t : Int} {S : List Int} {i n : Nat} (h : ¬ i < S.length) (hi : n + cnt t (S.drop i) = cnt t S) : cnt t S = n := by
  rw [← hi, List.drop_eq_nil_of_le (by omega), cnt]; omega
theorem nflat_snoc (S : List Int) (x : Int) : nflat S ++ [Value.int .i64 x] = nflat (S ++ [x]) := by simp [nflat]
theorem lnz_seg {x0 x1 x2 x3 x4 x5 x6 x7 : Int} {l : List Mk} (hcp : CourseP x0 x1 x2 x3 x4 x5 x6 x7 l) (h : LnP x0 x1 x2 x3 x4 x5 x6 x7 l) : ∀ k, k < (lnz x0 x1 x2 x3 x4 x5 x6 x7 l).length → seg4 (ln (lnz x0 x1 x2 x3 x4 x5 x6 x7 l) k) = true := by
  intro k hk
  rw [lnz_len] at hk
  rcases k with _ | k
  · exact hcp.1
  · unfold ln lnz
    rw [List.getD_cons_succ]
    by_cases h1 : k < l.length
    · have h2 : (rls x0 x1 x2 x3 x4 x5 x6 x7 l l.length)[k]? = some (rlAt x0 x1 x2 x3 x4 x5 x6 x7 l k) := by simp [rls, h1]
      rw [List.getD_eq_getElem?_getD, List.getElem?_append_left (by rw [rls_len]; exact h1), h2]
      exact h k h1
    · rw [List.getD_eq_getElem?_getD, List.getElem?_append_right (by rw [rls_len]; omega), rls_len, show k - l.length = 0 by omega]
      exact hcp.2.1
/-- the times of a course and a track, and a code -/
noncomputable def sailR (x0 x1 x2 x3 x4 x5 x6 x7 : Int) (m : List Mk) (l : List Fx) : List Int × Int := if isTrk l = true ∧ courseOK x0 x1 x2 x3 x4 x5 x6 x7 m = true then (if lnOK x0 x1 x2 x3 x4 x5 x6 x7 m = true then (acr l (lnz x0 x1 x2 x3 x4 x5 x6 x7 m) 0, 0) else ([], 2)) else ([], 1)
noncomputable def finR (x0 x1 x2 x3 x4 x5 x6 x7 : Int) (m : List Mk) (l : List Fx) : Int × Int := if (sailR x0 x1 x2 x3 x4 x5 x6 x7 m l).2 = 0 then (if (sailR x0 x1 x2 x3 x4 x5 x6 x7 m l).1.length < m.length + 2 then (0, 4) else ((sailR x0 x1 x2 x3 x4 x5 x6 x7 m l).1.getD ((sailR x0 x1 x2 x3 x4 x5 x6 x7 m l).1.length - 1) 0, 0)) else (0, (sailR x0 x1 x2 x3 x4 x5 x6 x7 m l).2)
noncomputable def rchR (x0 x1 x2 x3 x4 x5 x6 x7 : Int) (m : List Mk) (l : List Fx) (t : Int) : Int × Int := ((rch t (sailR x0 x1 x2 x3 x4 x5 x6 x7 m l).1 : Int), (sailR x0 x1 x2 x3 x4 x5 x6 x7 m l).2)
theorem sailR_len (x0 x1 x2 x3 x4 x5 x6 x7 : Int) (m : List Mk) (l : List Fx) : (sailR x0 x1 x2 x3 x4 x5 x6 x7 m l).1.length ≤ m.length + 2 := by
  unfold sailR
  split
  · split
    · rw [← lnz_len x0 x1 x2 x3 x4 x5 x6 x7 m]
      exact acr_le _ _ _
    · simp
  · simp
theorem lnOK_true {x0 x1 x2 x3 x4 x5 x6 x7 : Int} {l : List Mk} (h : lnOK x0 x1 x2 x3 x4 x5 x6 x7 l = true) : LnP x0 x1 x2 x3 x4 x5 x6 x7 l := @of_decide_eq_true _ (Classical.propDecidable _) h
theorem own_lit1 (w : World) (o : Obj) (e : TypeId) {base : Nat} (hb : base ≤ w.heap.size) : ((w.alloc o).alloc (.cells #[] e)).ownsRow base e 1 (.slice (some ⟨w.heap.size + 1, 0, none⟩) 0 0) 0 [] := by
  have h := World.ownsRow_lit (base := base) (e := e) (size := 1) (w.alloc o) #[] 0 (by simp; omega) (by unfold maxLen; omega) rfl
  rw [show (w.alloc o).heap.size = w.heap.size + 1 by simp] at h
  exact h
end

section
set_option linter.unusedVariables false
open Go.RowKit Go.Deep

set_option maxRecDepth 100000 in
set_option maxHeartbeats 4000000 in
theorem timesAcross_c (ra : Option Addr) (rc : Nat) (L : List (Int × Int × Int × Int)) (a : Option Addr) (cap : Nat) (l : List Fx) (w : World) (hn : L.length ≤ 1000) (hL : ∀ k, k < L.length → seg4 (ln L k) = true) (hr : RowAt w ra (lflat L)) (hl : l.length ≤ 4611686018427387904) (e1 : isTrk l = true) (hf : FixAt w a l) :
    Calls Tryz.prog 38 #[.slice ra L.length rc, .agg #[.slice a l.length cap]] w fun e w' => (∃ (g cp : Nat), e = .returned (.slice (some ⟨g, 0, none⟩) (acr l L 0).length cp) ∧ w'.ownsRow w.heap.size 2 1 (.slice (some ⟨g, 0, none⟩) (acr l L 0).length cp) (acr l L 0).length (nflat (acr l L 0))) ∧ Below w.heap.size w w' := by
  obtain ⟨i0, hi, ti0, ti1, ti2⟩ := info_parts infoI
  have HF0 := Lib.hid hf
  have HR0 := Lib.hid hr
  have HL := Lib.hid hL
  clear hf hr hL
  go_enter Tryz.func38, Tryz.ntmps38
  go_wp2_with fail
  go_loopw [5, 6, 14] (fun v fr i wr => ∃ (k g cp : Nat) (S : List Int) (f : Int), i = .int .i64 k ∧ v = .slice (some ⟨g, 0, none⟩) S.length cp ∧ fr = .int .i64 f ∧ k ≤ L.length ∧ S.length ≤ k ∧ Hid (S ++ acr l (L.drop k) f = acr l L 0) ∧ Hid (wr.ownsRow w.heap.size 2 1 (.slice (some ⟨g, 0, none⟩) S.length cp) S.length (nflat S)) ∧ wr.cell? ⟨w.heap.size, 0, none⟩ = some (.slice a l.length cap) ∧ w.heap.size < wr.heap.size ∧ w.heap.size ≠ g ∧ Below w.heap.size w wr) (fun _ _ i _ => L.length - (intOf i).toNat)
  case atStart => exact ⟨0, w.heap.size + 1, 0, [], 0, rfl, rfl, rfl, Nat.zero_le _, Nat.le_refl _, Lib.hid rfl, Lib.hid (own_lit1 w _ _ (Nat.le_refl _)), by simp [go_sem], by simp; omega, by omega, (by repeat (first | with_reducible exact Below.refl _ _ | with_reducible assumption | with_reducible refine Below.drew ?_ | with_reducible refine Below.alloc ?_ (by first | exact Nat.le_refl _ | (simp; done) | (simp; omega) | omega) _ | with_reducible refine Below.setCell ?_ (by first | exact Nat.le_refl _ | (simp; done) | (simp; omega) | omega) _ | with_reducible refine Below.trans ?_ (Below.mono (by with_reducible assumption) (by first | exact Nat.le_refl _ | (simp; done) | (simp; omega) | omega))))⟩
  case round =>
    obtain ⟨k, g, cp, S, f, rfl, rfl, rfl, hk, hS1, hS, hO, bT, LT, hTg, HD⟩ := hrel
    have FV := Lib.hid (FixAt.below HF0.out HD)
    have hg2 := (hO.out.lt g rfl).2
    have hg1 := (hO.out.lt g rfl).1
    by_cases h : k < L.length
    case pos =>
      have h' : (k : Int) < (L.length : Int) := by omega
      obtain ⟨b, off, rfl, hlt, c0, c1, c2, c3⟩ := ln_cell (HR0.out.below HD) h
      have hseg := HL.out k h
      have CF : Hid (∀ (ww : World), FixAt ww a l → Calls Tryz.prog 57 #[.agg #[.slice a l.length cap], .agg #[.int .i64 (ln L k).1, .int .i64 (ln L k).2.1, .int .i64 (ln L k).2.2.1, .int .i64 (ln L k).2.2.2], .int .i64 1, .int .i64 f] ww fun e w' => e = .returned (.tuple #[.agg #[.int .i64 (fxl l (ln L k) f).1.t, .int .i64 (fxl l (ln L k) f).1.leg, .int .i64 (fxl l (ln L k) f).1.way, .int .i64 (fxl l (ln L k) f).1.num, .int .i64 (fxl l (ln L k) f).1.den], .bool (fxl l (ln L k) f).2]) ∧ Below ww.heap.size ww w') := Lib.hid (fun ww hw => firstCrossing_c a cap l _ _ _ _ 1 f ww hl e1 hseg hw)
      have HY := Lib.hid (acr_yes h hS.out)
      have HN := Lib.hid (acr_no h hS.out)
      clear hseg
      generalize (fxl l (ln L k) f) = X at *
      generalize (ln L k) = p at *
      obtain ⟨⟨t, g1, g2, g3, g4⟩, ok⟩ := X
      obtain ⟨p0, p1, p2, p3⟩ := p
      dsimp only at c0 c1 c2 c3 CF HY HN
      go_wp2_with fail
      obtain ⟨X1, hX1⟩ : ∃ x, x = wr.alloc (.cells #[.int .i64 p0, .int .i64 p1, .int .i64 p2, .int .i64 p3] 38) := ⟨_, rfl⟩
      have hb : Below wr.heap.size wr X1 := by subst hX1; exact (Below.refl _ _).alloc (Nat.le_refl _) _
      have k30 : X1.cell? ⟨wr.heap.size, 0, none⟩ = some (.int .i64 p0) := by subst hX1; simp [go_sem]
      have k31 : X1.cell? ⟨wr.heap.size, 1, none⟩ = some (.int .i64 p1) := by subst hX1; simp [go_sem]
      have k32 : X1.cell? ⟨wr.heap.size, 2, none⟩ = some (.int .i64 p2) := by subst hX1; simp [go_sem]
      have k33 : X1.cell? ⟨wr.heap.size, 3, none⟩ = some (.int .i64 p3) := by subst hX1; simp [go_sem]
      have K3 : wr.heap.size < X1.heap.size := by subst hX1; simp
      have hS3 := Lib.hid (show X1.heap.size = wr.heap.size + 1 by subst hX1; simp)
      rw [← hX1]
      clear hX1
      replace HD := HD.trans (hb.mono HD.size)
      obtain ⟨hc, hf⟩ := bcell hb
      have hz := hb.size
      replace bT := (hc _ 0 LT).trans bT
      replace FV := Lib.hid (FixAt.below FV.out hb)
      replace hO := Lib.hid (pown_below hO.out hb)
      replace LT := Nat.lt_of_lt_of_le LT hz
      replace hg2 := Nat.lt_of_lt_of_le hg2 hz
      replace hlt := Nat.lt_of_lt_of_le hlt hz
      clear hc hf hz hb
      obtain ⟨C3, hC3⟩ : ∃ x, x = wr.heap.size := ⟨_, rfl⟩
      rw [← hC3] at k30 k31 k32 k33 K3
      try rw [← hC3]
      replace hC3 := Lib.hid hC3
      go_wp2_with fail
      refine (CF.out _ FV.out).mono ?_
      rintro e X2 ⟨rfl, hb⟩
      clear CF
      replace HD := HD.trans (hb.mono HD.size)
      obtain ⟨hc, hf⟩ := bcell hb
      have hz := hb.size
      replace bT := (hc _ 0 LT).trans bT
      replace k30 := (hc _ 0 K3).trans k30
      replace k31 := (hc _ 1 K3).trans k31
      replace k32 := (hc _ 2 K3).trans k32
      replace k33 := (hc _ 3 K3).trans k33
      replace FV := Lib.hid (FixAt.below FV.out hb)
      replace hO := Lib.hid (pown_below hO.out hb)
      replace LT := Nat.lt_of_lt_of_le LT hz
      replace hg2 := Nat.lt_of_lt_of_le hg2 hz
      replace hlt := Nat.lt_of_lt_of_le hlt hz
      replace K3 := Nat.lt_of_lt_of_le K3 hz
      clear hc hf hz hb
      go_upto_region 6 with fail
      have hgo := hg2
      obtain ⟨X3, hX3⟩ : ∃ x, x = X2.alloc (.cells #[.int .i64 t, .int .i64 g1, .int .i64 g2, .int .i64 g3, .int .i64 g4] 78) := ⟨_, rfl⟩
      have hb : Below X2.heap.size X2 X3 := by subst hX3; exact (Below.refl _ _).alloc (Nat.le_refl _) _
      have k40 : X3.cell? ⟨X2.heap.size, 0, none⟩ = some (.int .i64 t) := by subst hX3; simp [go_sem]
      have k41 : X3.cell? ⟨X2.heap.size, 1, none⟩ = some (.int .i64 g1) := by subst hX3; simp [go_sem]
      have k42 : X3.cell? ⟨X2.heap.size, 2, none⟩ = some (.int .i64 g2) := by subst hX3; simp [go_sem]
      have k43 : X3.cell? ⟨X2.heap.size, 3, none⟩ = some (.int .i64 g3) := by subst hX3; simp [go_sem]
      have k44 : X3.cell? ⟨X2.heap.size, 4, none⟩ = some (.int .i64 g4) := by subst hX3; simp [go_sem]
      have K4 : X2.heap.size < X3.heap.size := by subst hX3; simp
      have hS4 := Lib.hid (show X3.heap.size = X2.heap.size + 1 by subst hX3; simp)
      rw [← hX3]
      clear hX3
      replace HD := HD.trans (hb.mono HD.size)
      obtain ⟨hc, hf⟩ := bcell hb
      have hz := hb.size
      replace bT := (hc _ 0 LT).trans bT
      replace k30 := (hc _ 0 K3).trans k30
      replace k31 := (hc _ 1 K3).trans k31
      replace k32 := (hc _ 2 K3).trans k32
      replace k33 := (hc _ 3 K3).trans k33
      replace FV := Lib.hid (FixAt.below FV.out hb)
      replace hO := Lib.hid (pown_below hO.out hb)
      replace LT := Nat.lt_of_lt_of_le LT hz
      replace hg2 := Nat.lt_of_lt_of_le hg2 hz
      replace hlt := Nat.lt_of_lt_of_le hlt hz
      replace K3 := Nat.lt_of_lt_of_le K3 hz
      clear hc hf hz hb
      obtain ⟨C4, hC4⟩ : ∃ x, x = X2.heap.size := ⟨_, rfl⟩
      rw [← hC4] at k40 k41 k42 k43 k44 K4
      try rw [← hC4]
      replace hC4 := Lib.hid hC4
      have hCg : C4 ≠ g := by have := hC4.out; omega
      clear hgo
      cases ok
      case false =>
        have HE := Lib.hid (HN.out rfl)
        go_wp2_with fail
        exact bodyPost_ret (v := .slice (some ⟨g, 0, none⟩) S.length cp) (by simp [results, Tryz.results38, go_sem]) rfl ⟨⟨g, cp, by rw [HE.out], by rw [HE.out]; exact hO.out⟩, HD⟩
      case true =>
        have HE := Lib.hid (HY.out rfl)
        have HDh := Lib.hid HD
        have hwz := HD.size
        clear HD
        go_wp2_with fail
        go_region_held3 (fun wx => Kept g X3 wx ∧ ∀ b o, b < X3.heap.size → b ≠ g → wx.cell? ⟨b, o, none⟩ = X3.cell? ⟨b, o, none⟩)
          (first | with_reducible assumption | exact sK (Kept.refl _ _).drew | exact sK (Kept.trans (And.left (by with_reducible assumption)) (Kept.of hb)) | exact sK (Kept.alloc (And.left (by with_reducible assumption)) _) | exact sK (Kept.trans (And.left (by with_reducible assumption)) (kept_grown hgrow1)))
          (first | (refine step_append_lies _ (by rfl) (.tmp 27) (.tmp 30) 55 (by rfl) w.heap.size 2 i0 _ 1 8 Tryz.underlying55 hi ti0 ti1 ti2 rfl (by decide) (.slice (some ⟨g, 0, none⟩) S.length cp) S.length (nflat S) (by rfl) ((hO.out.alloc _).drew) ⟨X3.heap.size, 0, none⟩ 1 1 [.int .i64 t] (by rfl) rfl (World.news_of_block (heap_newP (by rfl))) (one1 _) (by decide) (by unfold maxLen; omega) (by omega) (by simp; omega) _ rfl ?_; intro g' cp' U1 hown1 hgrow1 hat1 hlt1))
        have hkS : Kept g X3 _ := And.left (by assumption)
        have hD2 := HDh.out.trans (hkS.below hg1 hwz)
        have bT2 := ((kcell hkS).1 w.heap.size 0 LT hTg).trans bT
        have LT2 := Nat.lt_of_lt_of_le LT hkS.size
        go_wp2_with fail
        exact ⟨⟨k + 1, g', cp', S ++ [t], t, by simp, by simp, rfl, by omega, by simp; omega, HE, Lib.hid (by rw [show (S ++ [t]).length = S.length + 1 by simp, ← nflat_snoc]; exact hown1), bT2, LT2, by rcases hat1 with e | e; (have e3 : g = g' := Option.some.inj e; omega); first | omega | (simp at e; omega), hD2⟩, by simp [intOf]; omega⟩
    case neg =>
      have h' : (L.length : Int) ≤ (k : Int) := by omega
      have h'' : ¬ (k : Int) < (L.length : Int) := by omega
      have HE := Lib.hid (acr_end h hS.out)
      go_wp2_with fail
      exact bodyPost_ret (v := .slice (some ⟨g, 0, none⟩) S.length cp) (by simp [results, Tryz.results38, go_sem]) rfl ⟨⟨g, cp, by rw [HE.out], by rw [HE.out]; exact hO.out⟩, HD⟩
set_option maxRecDepth 100000 in
set_option maxHeartbeats 4000000 in
theorem l06Times_c (x0 x1 x2 x3 x4 x5 x6 x7 : Int) (ma : Option Addr) (mcap : Nat) (ml : List Mk) (a : Option Addr) (cap : Nat) (l : List Fx) (w : World) (h : RowAt w ma (mflat ml)) (hcp : CourseP x0 x1 x2 x3 x4 x5 x6 x7 ml) (hok : lnOK x0 x1 x2 x3 x4 x5 x6 x7 ml = true) (hl : l.length ≤ 4611686018427387904) (e1 : isTrk l = true) (hf : FixAt w a l) :
    Calls Tryz.prog 18 #[.agg #[.int .i64 x0, .int .i64 x1, .int .i64 x2, .int .i64 x3, .int .i64 x4, .int .i64 x5, .int .i64 x6, .int .i64 x7, .slice ma ml.length mcap], .agg #[.slice a l.length cap]] w fun e w' => (∃ (g cp : Nat), e = .returned (.slice (some ⟨g, 0, none⟩) (acr l (lnz x0 x1 x2 x3 x4 x5 x6 x7 ml) 0).length cp) ∧ w'.ownsRow w.heap.size 2 1 (.slice (some ⟨g, 0, none⟩) (acr l (lnz x0 x1 x2 x3 x4 x5 x6 x7 ml) 0).length cp) (acr l (lnz x0 x1 x2 x3 x4 x5 x6 x7 ml) 0).length (nflat (acr l (lnz x0 x1 x2 x3 x4 x5 x6 x7 ml) 0))) ∧ Below w.heap.size w w' := by
  obtain ⟨i0, hi, ti0, ti1, ti2⟩ := info_parts infoI
  have HF0 := Lib.hid hf
  have H0 := Lib.hid h
  have HL := Lib.hid (lnz_seg hcp (lnOK_true hok))
  have CL := Lib.hid (fun w h => (l06Lines_c x0 x1 x2 x3 x4 x5 x6 x7 ma mcap ml w h hcp).mono (fun e w' h9 => And.intro (h9.1.1 hok) h9.2))
  clear h hf
  have hll := lnz_len x0 x1 x2 x3 x4 x5 x6 x7 ml
  have hn : ml.length + 2 ≤ 1000 := by have := hcp.2.2.2.1; omega
  rw [← hll] at hn CL
  replace hll := Lib.hid hll
  generalize lnz x0 x1 x2 x3 x4 x5 x6 x7 ml = L at *
  go_enter Tryz.func18, Tryz.ntmps18
  go_wp2_with fail
  obtain ⟨W, hW⟩ : ∃ W, W = ((w.alloc (.cells #[.int .i64 x0, .int .i64 x1, .int .i64 x2, .int .i64 x3, .int .i64 x4, .int .i64 x5, .int .i64 x6, .int .i64 x7, .slice ma ml.length mcap] 41)).alloc (.cells #[.slice a l.length cap] 45)) := ⟨_, rfl⟩
  have HD : Below w.heap.size w W := by subst hW; exact (by repeat (first | with_reducible exact Below.refl _ _ | with_reducible assumption | with_reducible refine Below.drew ?_ | with_reducible refine Below.alloc ?_ (by first | exact Nat.le_refl _ | (simp; done) | (simp; omega) | omega) _ | with_reducible refine Below.setCell ?_ (by first | exact Nat.le_refl _ | (simp; done) | (simp; omega) | omega) _ | with_reducible refine Below.trans ?_ (Below.mono (by with_reducible assumption) (by first | exact Nat.le_refl _ | (simp; done) | (simp; omega) | omega))))
  have b00 : W.cell? ⟨w.heap.size, 0, none⟩ = some (.int .i64 x0) := by subst hW; simp [go_sem]
  have b01 : W.cell? ⟨w.heap.size, 1, none⟩ = some (.int .i64 x1) := by subst hW; simp [go_sem]
  have b02 : W.cell? ⟨w.heap.size, 2, none⟩ = some (.int .i64 x2) := by subst hW; simp [go_sem]
  have b03 : W.cell? ⟨w.heap.size, 3, none⟩ = some (.int .i64 x3) := by subst hW; simp [go_sem]
  have b04 : W.cell? ⟨w.heap.size, 4, none⟩ = some (.int .i64 x4) := by subst hW; simp [go_sem]
  have b05 : W.cell? ⟨w.heap.size, 5, none⟩ = some (.int .i64 x5) := by subst hW; simp [go_sem]
  have b06 : W.cell? ⟨w.heap.size, 6, none⟩ = some (.int .i64 x6) := by subst hW; simp [go_sem]
  have b07 : W.cell? ⟨w.heap.size, 7, none⟩ = some (.int .i64 x7) := by subst hW; simp [go_sem]
  have b08 : W.cell? ⟨w.heap.size, 8, none⟩ = some (.slice ma ml.length mcap) := by subst hW; simp [go_sem]
  have L0 : w.heap.size < W.heap.size := by subst hW; first | (simp; done) | (simp; omega)
  have b10 : W.cell? ⟨w.heap.size + 1, 0, none⟩ = some (.slice a l.length cap) := by subst hW; simp [go_sem]
  have L1 : w.heap.size + 1 < W.heap.size := by subst hW; first | (simp; done) | (simp; omega)
  rw [← hW]
  clear hW
  generalize w.heap.size + 1 = B1 at *
  obtain ⟨B0, hB0⟩ : ∃ B, B = w.heap.size := ⟨_, rfl⟩
  rw [← hB0] at b00 b01 b02 b03 b04 b05 b06 b07 b08 L0
  try rw [← hB0]
  replace hB0 := Lib.hid hB0
  have HV := Lib.hid (H0.out.below HD)
  clear H0
  refine (CL.out W HV.out).mono ?_
  rintro e V ⟨⟨r, rc, rfl, ho⟩, hb⟩
  have hR0 := pown_mono ho HD.size
  have hrl := (ho.lt r rfl).2
  have hr9 := (ho.lt r rfl).1
  clear HV ho CL
  replace HD := HD.trans (hb.mono HD.size)
  obtain ⟨hc, hf⟩ := bcell hb
  have hz := hb.size
  replace b00 := (hc _ 0 L0).trans b00
  replace b01 := (hc _ 1 L0).trans b01
  replace b02 := (hc _ 2 L0).trans b02
  replace b03 := (hc _ 3 L0).trans b03
  replace b04 := (hc _ 4 L0).trans b04
  replace b05 := (hc _ 5 L0).trans b05
  replace b06 := (hc _ 6 L0).trans b06
  replace b07 := (hc _ 7 L0).trans b07
  replace b08 := (hc _ 8 L0).trans b08
  replace b10 := (hc _ 0 L1).trans b10
  replace L0 := Nat.lt_of_lt_of_le L0 hz
  replace L1 := Nat.lt_of_lt_of_le L1 hz
  clear hc hf hz hb
  go_wp2_with fail
  go_loopw [7, 8, 9] (fun v fr i wr => ∃ (k g cp : Nat) (S : List Int) (f : Int), i = .int .i64 k ∧ v = .slice (some ⟨g, 0, none⟩) S.length cp ∧ fr = .int .i64 f ∧ k ≤ L.length ∧ S.length ≤ k ∧ Hid (S ++ acr l (L.drop k) f = acr l L 0) ∧ Hid (wr.ownsRow w.heap.size 2 1 (.slice (some ⟨g, 0, none⟩) S.length cp) S.length (nflat S)) ∧ Hid (wr.ownsRow w.heap.size 38 4 (.slice (some ⟨r, 0, none⟩) L.length rc) L.length (lflat L)) ∧ r ≠ g ∧ wr.cell? ⟨B1, 0, none⟩ = some (.slice a l.length cap) ∧ B1 < wr.heap.size ∧ B1 ≠ g ∧ Below w.heap.size w wr) (fun _ _ i _ => L.length - (intOf i).toNat)
  case atStart => exact ⟨0, V.heap.size, 0, [], 0, rfl, rfl, rfl, Nat.zero_le _, Nat.le_refl _, Lib.hid rfl, Lib.hid (World.ownsRow_lit V #[] 0 HD.size (by unfold maxLen; omega) rfl), Lib.hid (hR0.alloc _), by omega, (((Below.refl V.heap.size V).alloc (Nat.le_refl _) _).cell (p := ⟨B1, 0, none⟩) L1).trans b10, (by first | omega | (simp; omega)), (by omega), HD.alloc HD.size _⟩
  case round =>
    clear HD b10 L0 L1 hR0 hrl hr9 b00 b01 b02 b03 b04 b05 b06 b07 b08
    obtain ⟨k, g, cp, S, f, rfl, rfl, rfl, hk, hS1, hS, hO, hR, hrg, bT, LT, hTg, HD⟩ := hrel
    have FV := Lib.hid (FixAt.below HF0.out HD)
    have hg2 := (hO.out.lt g rfl).2
    have hg1 := (hO.out.lt g rfl).1
    by_cases h : k < L.length
    case pos =>
      have h' : (k : Int) < (L.length : Int) := by omega
      obtain ⟨b, off, hbo, hlt, c0, c1, c2, c3⟩ := ln_cell (rowAt_own hR.out) h
      simp at hbo
      obtain ⟨rfl, rfl⟩ := hbo
      simp only [Nat.zero_add] at c0 c1 c2 c3
      have hseg := HL.out k h
      have CF : Hid (∀ (ww : World), FixAt ww a l → Calls Tryz.prog 32 #[.agg #[.slice a l.length cap], .agg #[.int .i64 (ln L k).1, .int .i64 (ln L k).2.1, .int .i64 (ln L k).2.2.1, .int .i64 (ln L k).2.2.2], .int .i64 1, .int .i64 f] ww fun e w' => e = .returned (.tuple #[.agg #[.int .i64 (fxl l (ln L k) f).1.t, .int .i64 (fxl l (ln L k) f).1.leg, .int .i64 (fxl l (ln L k) f).1.way, .int .i64 (fxl l (ln L k) f).1.num, .int .i64 (fxl l (ln L k) f).1.den], .bool (fxl l (ln L k) f).2]) ∧ Below ww.heap.size ww w') := Lib.hid (fun ww hw => l05First_c a cap l _ _ _ _ 1 f ww hl e1 hseg hw)
      have HY := Lib.hid (acr_yes h hS.out)
      have HN := Lib.hid (acr_no h hS.out)
      clear hseg
      generalize (fxl l (ln L k) f) = X at *
      generalize (ln L k) = p at *
      obtain ⟨⟨t, g1, g2, g3, g4⟩, ok⟩ := X
      obtain ⟨p0, p1, p2, p3⟩ := p
      dsimp only at c0 c1 c2 c3 CF HY HN
      go_wp2_with fail
      have hgo := hg2
      go_cut [10, 11] (fun sp sc wx => ∃ g : Nat, sp = .pointer (some ⟨g, 0, none⟩) ∧ sc = .bool ok ∧ wx.cell? ⟨g, 0, none⟩ = some (.int .i64 t) ∧ wx.cell? ⟨g, 1, none⟩ = some (.int .i64 g1) ∧ wx.cell? ⟨g, 2, none⟩ = some (.int .i64 g2) ∧ wx.cell? ⟨g, 3, none⟩ = some (.int .i64 g3) ∧ wx.cell? ⟨g, 4, none⟩ = some (.int .i64 g4) ∧ g < wx.heap.size ∧ wr.heap.size ≤ g ∧ Below wr.heap.size wr wx)
      case first =>
        go_region_held3 (fun wx => Below wr.heap.size wr wx ∧ ∀ b o, b < wr.heap.size → wx.cell? ⟨b, o, none⟩ = wr.cell? ⟨b, o, none⟩)
          (first | with_reducible exact held_step (by assumption) hb | with_reducible exact held_alloc (by assumption) _ | with_reducible exact (held_set (by with_reducible assumption) (by first | exact Nat.le_refl _ | (simp; done) | (simp; omega) | omega) _) | with_reducible exact (held_set (held_set (by with_reducible assumption) (by first | exact Nat.le_refl _ | (simp; done) | (simp; omega) | omega) _) (by first | exact Nat.le_refl _ | (simp; done) | (simp; omega) | omega) _) | with_reducible exact (held_set (held_set (held_set (by with_reducible assumption) (by first | exact Nat.le_refl _ | (simp; done) | (simp; omega) | omega) _) (by first | exact Nat.le_refl _ | (simp; done) | (simp; omega) | omega) _) (by first | exact Nat.le_refl _ | (simp; done) | (simp; omega) | omega) _) | with_reducible exact (held_set (held_set (held_set (held_set (by with_reducible assumption) (by first | exact Nat.le_refl _ | (simp; done) | (simp; omega) | omega) _) (by first | exact Nat.le_refl _ | (simp; done) | (simp; omega) | omega) _) (by first | exact Nat.le_refl _ | (simp; done) | (simp; omega) | omega) _) (by first | exact Nat.le_refl _ | (simp; done) | (simp; omega) | omega) _) | with_reducible exact (held_set (held_set (held_set (held_set (held_set (by with_reducible assumption) (by first | exact Nat.le_refl _ | (simp; done) | (simp; omega) | omega) _) (by first | exact Nat.le_refl _ | (simp; done) | (simp; omega) | omega) _) (by first | exact Nat.le_refl _ | (simp; done) | (simp; omega) | omega) _) (by first | exact Nat.le_refl _ | (simp; done) | (simp; omega) | omega) _) (by first | exact Nat.le_refl _ | (simp; done) | (simp; omega) | omega) _) | with_reducible exact held_realloc (by assumption) (by first | exact Nat.le_refl _ | (simp; done) | (simp; omega) | omega) _ | with_reducible exact held_start _ _ | with_reducible exact held_begin _)
          (first | (go_at_call 32; refine (CF.out _ (FixAt.below FV.out (And.left (by with_reducible assumption)))).mono ?_; rintro e w1 ⟨rfl, hb⟩; have hz := held_size (by with_reducible assumption) hb; (try simp at hz); have hs := hb.size; (try simp at hs); obtain ⟨hc, hf⟩ := bcell hb; (try have hl := below_lt hb); (try simp at hl); (try have hlW : wr.heap.size < w1.heap.size := by first | omega | (simp; omega))))
        all_goals (go_wp2_with fail; go_meet; exact ⟨_, rfl, rfl, (by go_light; go_simp), (by go_light; go_simp), (by go_light; go_simp), (by go_light; go_simp), (by go_light; go_simp), (by go_light; first | (simp; done) | (simp; omega) | omega), (by go_light; first | exact Nat.le_refl _ | (simp; done) | (simp; omega) | omega), (held_of (by with_reducible exact And.left (by with_reducible assumption))).1⟩)
      case rest =>
        obtain ⟨C4, rfl, rfl, k40, k41, k42, k43, k44, K4, W4, hb⟩ := hcut
        obtain ⟨X3, rfl⟩ : ∃ x : World, x = wc := ⟨_, rfl⟩
        replace HD := HD.trans (hb.mono HD.size)
        obtain ⟨hc, hf⟩ := bcell hb
        have hz := hb.size
        replace bT := (hc _ 0 LT).trans bT
        replace FV := Lib.hid (FixAt.below FV.out hb)
        replace hO := Lib.hid (pown_below hO.out hb)
        replace hR := Lib.hid (pown_below hR.out hb)
        replace LT := Nat.lt_of_lt_of_le LT hz
        replace hg2 := Nat.lt_of_lt_of_le hg2 hz
        replace hlt := Nat.lt_of_lt_of_le hlt hz
        clear hc hf hz hb
        have hCg : C4 ≠ g := by omega
        clear hgo CF
        cases ok
        case false =>
          have HE := Lib.hid (HN.out rfl)
          go_wp2_with fail
          exact bodyPost_ret (v := .slice (some ⟨g, 0, none⟩) S.length cp) (by simp [results, Tryz.results18, go_sem]) rfl ⟨⟨g, cp, by rw [HE.out], by rw [HE.out]; exact hO.out⟩, HD⟩
        case true =>
          have HE := Lib.hid (HY.out rfl)
          have HDh := Lib.hid HD
          have hwz := HD.size
          clear HD
          go_upto_region 9 with fail
          go_wp2_with (at_builtin; refine wpList_append_lies _ rfl _ _ 55 rfl w.heap.size 2 i0 _ 1 8 Tryz.underlying55 hi ti0 ti1 ti2 rfl (by decide) (.slice (some ⟨g, 0, none⟩) S.length cp) S.length (nflat S) rfl (by repeat (first | with_reducible exact hO.out | with_reducible refine World.ownsRow.alloc ?_ _ | with_reducible refine World.ownsRow.drew ?_)) ⟨X3.heap.size, 0, none⟩ 1 1 [.int .i64 t] rfl rfl (World.news_of_block (pheap_new (by simp))) (one1 _) (by decide) (by unfold maxLen; omega) (by omega) (by simp; omega) (X3.heap.size + 1) (by simp) ?_; intro g' cp' w1 hown1 hgrow1 hat1 hlt1; have q0 : w1.cell? ⟨C4, 0, none⟩ = some (.int .i64 t) := hgrow1.cell ((((Below.refl X3.heap.size X3).alloc (Nat.le_refl _) _).cell (p := ⟨C4, 0, none⟩) K4).trans k40) (fun e => by simp [Value.ownBlock] at e; omega))
          have hkS : Kept g X3 w1 := Kept.trans (Kept.alloc (Kept.refl _ _) _) (kept_grown hgrow1)
          have hD2 := HDh.out.trans (hkS.below hg1 hwz)
          have bT2 := ((kcell hkS).1 B1 0 LT hTg).trans bT
          have LT2 := Nat.lt_of_lt_of_le LT hkS.size
          have hR2 := own_keptP hR.out (kg hkS) (fun k e e2 => by have h9 : r = k := Option.some.inj e; have h10 : g = k := Option.some.inj e2; omega)
          go_wp2_with fail
          exact ⟨⟨k + 1, g', cp', S ++ [t], t, by simp, by simp, rfl, by omega, by simp; omega, HE, Lib.hid (by rw [show (S ++ [t]).length = S.length + 1 by simp, ← nflat_snoc]; exact hown1), Lib.hid hR2, by rcases hat1 with e | e; (have e3 : g = g' := Option.some.inj e; omega); first | omega | (simp at e; omega), bT2, LT2, by rcases hat1 with e | e; (have e3 : g = g' := Option.some.inj e; omega); first | omega | (simp at e; omega), hD2⟩, by simp [intOf]; omega⟩
    case neg =>
      have h' : (L.length : Int) ≤ (k : Int) := by omega
      have h'' : ¬ (k : Int) < (L.length : Int) := by omega
      have HE := Lib.hid (acr_end h hS.out)
      go_wp2_with fail
      exact bodyPost_ret (v := .slice (some ⟨g, 0, none⟩) S.length cp) (by simp [results, Tryz.results18, go_sem]) rfl ⟨⟨g, cp, by rw [HE.out], by rw [HE.out]; exact hO.out⟩, HD⟩
end

section
set_option linter.unusedVariables false
open Go.RowKit Go.Deep

theorem numF_cell {w : World} {a : Option Addr} {k : Nat} {L : List Int} (h : RowAt w a (nflat L)) (hk : k < L.length) : ∃ b off, a = some ⟨b, off, none⟩ ∧ b < w.heap.size ∧ w.cell? ⟨b, off + k, none⟩ = some (.int .i64 (L.getD k 0)) := by
  have hv : (nflat L)[k]? = some (.int .i64 (L.getD k 0)) := by simp [nflat, hk]
  obtain ⟨b, off, ha, hlt, hc⟩ := h k _ hv
  exact ⟨b, off, ha, hlt, hc⟩
set_option maxRecDepth 100000 in
set_option maxHeartbeats 2000000 in
theorem szMarkSB_c (a : Option Addr) (cap : Nat) (l : List Mk) (left : Int) (w : World) (hn : l.length ≤ 9223372036854775807) (h : RowAt w a (mflat l)) (hs : ∀ i, i < l.length → (mk l i).name.size ≤ maxLen) (h0 : 0 ≤ left) (h1 : left ≤ 1048576) : Calls Tryz.prog 15 #[.slice a l.length cap, .int .i64 left] w fun e w' => (∃ z : Int, e = .returned (.int .i64 z) ∧ (0 ≤ z → (l.length : Int) ≤ left) ∧ z ≤ 1048576) ∧ Below w.heap.size w w' := by
  have HS := Lib.hid (And.intro h hs)
  clear h hs
  by_cases hc : left - (l.length : Int) < 0
  · go_enter Tryz.func15, Tryz.ntmps15
    go_wp2_with fail
    go_ret
    exact ⟨⟨-1, rfl, by omega, by omega⟩, Below.refl _ _⟩
  · have HL := Lib.hid (show (l.length : Int) ≤ left by omega)
    have hl2 : (l.length : Int) ≤ 1048576 := by omega
    go_enter Tryz.func15, Tryz.ntmps15
    go_wp2_with fail
    generalize hq : left - (l.length : Int) = q at *
    have hq1 : 0 ≤ q := by omega
    have hq2 : q ≤ 1048576 := by omega
    clear hq hc h0 h1
    go_loopw [1, 5] (fun y x wr => ∃ (k : Nat) (z : Int), x = .int .i64 k ∧ y = .int .i64 z ∧ 0 ≤ z ∧ z ≤ 1048576 ∧ k ≤ l.length ∧ Below w.heap.size w wr) (fun _ x _ => l.length - (intOf x).toNat)
    case atStart => exact ⟨0, q, rfl, rfl, hq1, hq2, Nat.zero_le _, Below.refl _ _⟩
    case round =>
      obtain ⟨k, z, rfl, rfl, hz1, hz2, hk, hbl⟩ := hrel
      by_cases hlt : k < l.length
      · have h' : (k : Int) < (l.length : Int) := by omega
        obtain ⟨b, off, rfl, hb, c0, c1, c2, c3, c4⟩ := mark_cell (HS.out.1.below hbl) hlt
        have hsz := HS.out.2 k hlt
        generalize mk l k = m at *
        have hcall := fun w => szMark_c m z w hsz hz1 hz2
        obtain ⟨n0, u0, u1, u2, u3⟩ := m
        dsimp only at c0 c1 c2 c3 c4 hcall
        clear hsz
        go_wp2_with (go_at_call 28; refine (hcall _).mono ?_; rintro e w1 ⟨⟨z', rfl, hz3, hz4⟩, hb1⟩)
        all_goals first
          | (go_ret; exact ⟨⟨-1, rfl, fun _ => HL.out, by omega⟩, hbl.trans (hb1.mono hbl.size)⟩)
          | exact ⟨⟨k + 1, z', by simp, rfl, by omega, by omega, by omega, hbl.trans (hb1.mono hbl.size)⟩, by simp [intOf]; omega⟩
      · have h' : ¬ (k : Int) < (l.length : Int) := by omega
        go_wp2_with fail
        go_ret
        exact ⟨⟨z, rfl, fun _ => HL.out, hz2⟩, hbl⟩
set_option maxRecDepth 100000 in
set_option maxHeartbeats 2000000 in
theorem szCourseB_c (x0 x1 x2 x3 x4 x5 x6 x7 : Int) (a : Option Addr) (cap : Nat) (l : List Mk) (left : Int) (w : World) (hn : l.length ≤ 9223372036854775807) (h : RowAt w a (mflat l)) (hs : ∀ i, i < l.length → (mk l i).name.size ≤ maxLen) (h0 : 0 ≤ left) (h1 : left ≤ 1048576) :
    Calls Tryz.prog 5 #[.agg #[.int .i64 x0, .int .i64 x1, .int .i64 x2, .int .i64 x3, .int .i64 x4, .int .i64 x5, .int .i64 x6, .int .i64 x7, .slice a l.length cap], .int .i64 left] w fun e w' => (∃ z : Int, e = .returned (.int .i64 z) ∧ (0 ≤ z → (l.length : Int) ≤ left) ∧ z ≤ 1048576) ∧ Below w.heap.size w w' := by
  obtain ⟨W, hW⟩ : ∃ W, W = w.alloc (.cells #[.int .i64 x0, .int .i64 x1, .int .i64 x2, .int .i64 x3, .int .i64 x4, .int .i64 x5, .int .i64 x6, .int .i64 x7, .slice a l.length cap] 28) := ⟨_, rfl⟩
  have HD : Below w.heap.size w W := by subst hW; exact (by repeat (first | with_reducible exact Below.refl _ _ | with_reducible assumption | with_reducible refine Below.drew ?_ | with_reducible refine Below.alloc ?_ (by first | exact Nat.le_refl _ | (simp; done) | (simp; omega) | omega) _ | with_reducible refine Below.setCell ?_ (by first | exact Nat.le_refl _ | (simp; done) | (simp; omega) | omega) _ | with_reducible refine Below.trans ?_ (Below.mono (by with_reducible assumption) (by first | exact Nat.le_refl _ | (simp; done) | (simp; omega) | omega))))
  have b8 : W.cell? ⟨w.heap.size, 8, none⟩ = some (.slice a l.length cap) := by subst hW; simp [go_sem]
  go_enter Tryz.func5, Tryz.ntmps5
  go_wp2_with fail
  rw [← hW]
  clear hW
  refine (szMarkSB_c a cap l left W hn (h.below HD) hs h0 h1).mono ?_
  rintro e V ⟨⟨z, rfl, hz, hz9⟩, hb⟩
  go_wp2_with fail
  · go_ret
    exact ⟨⟨-1, rfl, by omega, by omega⟩, HD.trans (hb.mono HD.size)⟩
  · go_ret
    exact ⟨⟨z, rfl, hz, hz9⟩, HD.trans (hb.mono HD.size)⟩
set_option maxHeartbeats 2000000 in
theorem reachedAt_c (a : Option Addr) (cap : Nat) (S : List Int) (t : Int) (w : World) (hl : S.length ≤ 4611686018427387904) (h : RowAt w a (nflat S)) : Calls Tryz.prog 27 #[.slice a S.length cap, .int .i64 t] w fun e w' => e = .returned (.int .i64 (rch t S)) ∧ Below w.heap.size w w' := by
  have H0 := Lib.hid h
  clear h
  go_enter Tryz.func27, Tryz.ntmps27
  go_wp2_with fail
  go_loopw [5] (fun x wr => ∃ k : Nat, x = .int .i64 k ∧ k ≤ S.length ∧ Hid (k + rch t (S.drop k) = rch t S) ∧ Below w.heap.size w wr) (fun x _ => S.length - (intOf x).toNat)
  case atStart => exact ⟨0, rfl, Nat.zero_le _, Lib.hid (by simp), Below.refl _ _⟩
  case round =>
    obtain ⟨k, rfl, hk, hr, hbl⟩ := hrel
    by_cases h : k < S.length
    · obtain ⟨b, off, rfl, hlt, c0⟩ := numF_cell (H0.out.below hbl) h
      have h' : (k : Int) < (S.length : Int) := by omega
      have HY := Lib.hid (rch_yes h hr.out)
      have HN := Lib.hid (rch_no h hr.out)
      generalize S.getD k 0 = x at *
      by_cases h2 : x ≤ t
      · have HE := Lib.hid (HY.out h2)
        go_wp2_with fail
        exact ⟨⟨k + 1, by simp, by omega, HE, hbl⟩, by simp [intOf]; omega⟩
      · have HE := Lib.hid (HN.out h2)
        go_wp2_with fail
        go_ret
        exact ⟨by rw [HE.out]; rfl, hbl⟩
    · have h' : ¬ (k : Int) < (S.length : Int) := by omega
      have HE := Lib.hid (rch_end h hr.out)
      go_wp2_with fail
      go_ret
      exact ⟨by rw [HE.out]; rfl, hbl⟩
set_option maxHeartbeats 2000000 in
theorem l06Reached_c (a : Option Addr) (cap : Nat) (S : List Int) (t : Int) (w : World) (hl : S.length ≤ 4611686018427387904) (h : RowAt w a (nflat S)) : Calls Tryz.prog 26 #[.slice a S.length cap, .int .i64 t] w fun e w' => e = .returned (.int .i64 (cnt t S)) ∧ Below w.heap.size w w' := by
  have H0 := Lib.hid h
  clear h
  go_enter Tryz.func26, Tryz.ntmps26
  go_wp2_with fail
  go_loopw [5, 6] (fun y x wr => ∃ n k : Nat, y = .int .i64 n ∧ x = .int .i64 k ∧ n ≤ k ∧ k ≤ S.length ∧ Hid (n + cnt t (S.drop k) = cnt t S) ∧ Below w.heap.size w wr) (fun _ x _ => S.length - (intOf x).toNat)
  case atStart => exact ⟨0, 0, rfl, rfl, Nat.le_refl _, Nat.zero_le _, Lib.hid (by simp), Below.refl _ _⟩
  case round =>
    obtain ⟨n, k, rfl, rfl, hnk, hk, hr, hbl⟩ := hrel
    by_cases h : k < S.length
    · obtain ⟨b, off, rfl, hlt, c0⟩ := numF_cell (H0.out.below hbl) h
      have h' : (k : Int) < (S.length : Int) := by omega
      have HY := Lib.hid (cnt_yes h hr.out)
      have HN := Lib.hid (cnt_no h hr.out)
      generalize S.getD k 0 = x at *
      by_cases h2 : x ≤ t
      · have HE := Lib.hid (HY.out h2)
        have hw : IntKind.i64.wrap ((n : Int) + 1) = (n : Int) + 1 := by rw [IntKind.wrap_i64]; omega
        go_wp2_with fail
        exact ⟨⟨n + 1, k + 1, by simp, by simp, by omega, by omega, HE, hbl⟩, by simp [intOf]; omega⟩
      · have HE := Lib.hid (HN.out h2)
        go_wp2_with fail
        exact ⟨⟨n, k + 1, by simp, by simp, by omega, by omega, HE, hbl⟩, by simp [intOf]; omega⟩
    · have h' : ¬ (k : Int) < (S.length : Int) := by omega
      have HE := Lib.hid (cnt_end h hr.out)
      go_wp2_with fail
      go_ret
      exact ⟨by rw [HE.out]; rfl, hbl⟩
set_option maxRecDepth 100000 in
set_option maxHeartbeats 4000000 in
theorem courseLines_n (x0 x1 x2 x3 x4 x5 x6 x7 : Int) (ma : Option Addr) (mcap : Nat) (ml : List Mk) (w : World) (hml : ml.length ≤ 4611686018427387904) (h : RowAt w ma (mflat ml)) (hs : ∀ i, i < ml.length → (mk ml i).name.size ≤ maxLen) (hcap : ml.length ≤ mcap) (e0 : courseOK x0 x1 x2 x3 x4 x5 x6 x7 ml = false) :
    Calls Tryz.prog 37 #[.agg #[.int .i64 x0, .int .i64 x1, .int .i64 x2, .int .i64 x3, .int .i64 x4, .int .i64 x5, .int .i64 x6, .int .i64 x7, .slice ma ml.length mcap]] w fun e w' => e = .returned (.tuple #[.slice none 0 0, .int .i64 1]) ∧ Below w.heap.size w w' := by
  have H0 := Lib.hid h
  have HS := Lib.hid hs
  clear h hs
  go_enter Tryz.func37, Tryz.ntmps37
  go_wp2_with fail
  obtain ⟨W, hW⟩ : ∃ W, W = (w.alloc (.cells #[.int .i64 x0, .int .i64 x1, .int .i64 x2, .int .i64 x3, .int .i64 x4, .int .i64 x5, .int .i64 x6, .int .i64 x7, .slice ma ml.length mcap] 41)) := ⟨_, rfl⟩
  have HD : Below w.heap.size w W := by subst hW; exact (by repeat (first | with_reducible exact Below.refl _ _ | with_reducible assumption | with_reducible refine Below.drew ?_ | with_reducible refine Below.alloc ?_ (by first | exact Nat.le_refl _ | (simp; done) | (simp; omega) | omega) _ | with_reducible refine Below.setCell ?_ (by first | exact Nat.le_refl _ | (simp; done) | (simp; omega) | omega) _ | with_reducible refine Below.trans ?_ (Below.mono (by with_reducible assumption) (by first | exact Nat.le_refl _ | (simp; done) | (simp; omega) | omega))))
  have b00 : W.cell? ⟨w.heap.size, 0, none⟩ = some (.int .i64 x0) := by subst hW; simp [go_sem]
  have b01 : W.cell? ⟨w.heap.size, 1, none⟩ = some (.int .i64 x1) := by subst hW; simp [go_sem]
  have b02 : W.cell? ⟨w.heap.size, 2, none⟩ = some (.int .i64 x2) := by subst hW; simp [go_sem]
  have b03 : W.cell? ⟨w.heap.size, 3, none⟩ = some (.int .i64 x3) := by subst hW; simp [go_sem]
  have b04 : W.cell? ⟨w.heap.size, 4, none⟩ = some (.int .i64 x4) := by subst hW; simp [go_sem]
  have b05 : W.cell? ⟨w.heap.size, 5, none⟩ = some (.int .i64 x5) := by subst hW; simp [go_sem]
  have b06 : W.cell? ⟨w.heap.size, 6, none⟩ = some (.int .i64 x6) := by subst hW; simp [go_sem]
  have b07 : W.cell? ⟨w.heap.size, 7, none⟩ = some (.int .i64 x7) := by subst hW; simp [go_sem]
  have b08 : W.cell? ⟨w.heap.size, 8, none⟩ = some (.slice ma ml.length mcap) := by subst hW; simp [go_sem]
  have L0 : w.heap.size < W.heap.size := by subst hW; first | (simp; done) | (simp; omega)
  rw [← hW]
  clear hW
  obtain ⟨B0, hB0⟩ : ∃ B, B = w.heap.size := ⟨_, rfl⟩
  rw [← hB0] at b00 b01 b02 b03 b04 b05 b06 b07 b08 L0
  try rw [← hB0]
  replace hB0 := Lib.hid hB0
  have RV := Lib.hid (H0.out.below HD)
  clear H0
  have cc := IsCourse_c x0 x1 x2 x3 x4 x5 x6 x7 ma mcap ml W hml RV.out HS.out hcap
  rw [e0] at cc
  clear e0
  refine (cc).mono ?_
  rintro e V1 ⟨rfl, hb⟩
  clear cc
  replace HD := HD.trans (hb.mono HD.size)
  obtain ⟨hc, hf⟩ := bcell hb
  have hz := hb.size
  replace b00 := (hc _ 0 L0).trans b00
  replace b01 := (hc _ 1 L0).trans b01
  replace b02 := (hc _ 2 L0).trans b02
  replace b03 := (hc _ 3 L0).trans b03
  replace b04 := (hc _ 4 L0).trans b04
  replace b05 := (hc _ 5 L0).trans b05
  replace b06 := (hc _ 6 L0).trans b06
  replace b07 := (hc _ 7 L0).trans b07
  replace b08 := (hc _ 8 L0).trans b08
  replace L0 := Nat.lt_of_lt_of_le L0 hz
  clear hc hf hz hb
  go_wp2_with fail
  exact bodyPost_ret (v := .tuple #[.slice none 0 0, .int .i64 1]) (by simp [results, Tryz.results37, go_sem]) rfl ⟨rfl, HD⟩
set_option maxRecDepth 100000 in
set_option maxHeartbeats 4000000 in
theorem sailed_c (x0 x1 x2 x3 x4 x5 x6 x7 : Int) (ma : Option Addr) (mcap : Nat) (ml : List Mk) (a : Option Addr) (cap : Nat) (l : List Fx) (w : World) (hml : ml.length ≤ 4611686018427387904) (h : RowAt w ma (mflat ml)) (hs : ∀ i, i < ml.length → (mk ml i).name.size ≤ maxLen) (hcap : ml.length ≤ mcap) (hl : l.length ≤ 4611686018427387904) (hf : FixAt w a l) :
    Calls Tryz.prog 22 #[.agg #[.int .i64 x0, .int .i64 x1, .int .i64 x2, .int .i64 x3, .int .i64 x4, .int .i64 x5, .int .i64 x6, .int .i64 x7, .slice ma ml.length mcap], .agg #[.slice a l.length cap]] w fun e w' => (∃ (a' : Option Addr) (cap' : Nat), e = .returned (.tuple #[.slice a' (sailR x0 x1 x2 x3 x4 x5 x6 x7 ml l).1.length cap', .int .i64 (sailR x0 x1 x2 x3 x4 x5 x6 x7 ml l).2]) ∧ w'.ownsRow w.heap.size 2 1 (.slice a' (sailR x0 x1 x2 x3 x4 x5 x6 x7 ml l).1.length cap') (sailR x0 x1 x2 x3 x4 x5 x6 x7 ml l).1.length (nflat (sailR x0 x1 x2 x3 x4 x5 x6 x7 ml l).1)) ∧ Below w.heap.size w w' := by
  have H0 := Lib.hid h
  have HS := Lib.hid hs
  have HF0 := Lib.hid hf
  clear h hs hf
  go_enter Tryz.func22, Tryz.ntmps22
  go_wp2_with fail
  obtain ⟨W, hW⟩ : ∃ W, W = ((w.alloc (.cells #[.int .i64 x0, .int .i64 x1, .int .i64 x2, .int .i64 x3, .int .i64 x4, .int .i64 x5, .int .i64 x6, .int .i64 x7, .slice ma ml.length mcap] 41)).alloc (.cells #[.slice a l.length cap] 45)) := ⟨_, rfl⟩
  have HD : Below w.heap.size w W := by subst hW; exact (by repeat (first | with_reducible exact Below.refl _ _ | with_reducible assumption | with_reducible refine Below.drew ?_ | with_reducible refine Below.alloc ?_ (by first | exact Nat.le_refl _ | (simp; done) | (simp; omega) | omega) _ | with_reducible refine Below.setCell ?_ (by first | exact Nat.le_refl _ | (simp; done) | (simp; omega) | omega) _ | with_reducible refine Below.trans ?_ (Below.mono (by with_reducible assumption) (by first | exact Nat.le_refl _ | (simp; done) | (simp; omega) | omega))))
  have b00 : W.cell? ⟨w.heap.size, 0, none⟩ = some (.int .i64 x0) := by subst hW; simp [go_sem]
  have b01 : W.cell? ⟨w.heap.size, 1, none⟩ = some (.int .i64 x1) := by subst hW; simp [go_sem]
  have b02 : W.cell? ⟨w.heap.size, 2, none⟩ = some (.int .i64 x2) := by subst hW; simp [go_sem]
  have b03 : W.cell? ⟨w.heap.size, 3, none⟩ = some (.int .i64 x3) := by subst hW; simp [go_sem]
  have b04 : W.cell? ⟨w.heap.size, 4, none⟩ = some (.int .i64 x4) := by subst hW; simp [go_sem]
  have b05 : W.cell? ⟨w.heap.size, 5, none⟩ = some (.int .i64 x5) := by subst hW; simp [go_sem]
  have b06 : W.cell? ⟨w.heap.size, 6, none⟩ = some (.int .i64 x6) := by subst hW; simp [go_sem]
  have b07 : W.cell? ⟨w.heap.size, 7, none⟩ = some (.int .i64 x7) := by subst hW; simp [go_sem]
  have b08 : W.cell? ⟨w.heap.size, 8, none⟩ = some (.slice ma ml.length mcap) := by subst hW; simp [go_sem]
  have L0 : w.heap.size < W.heap.size := by subst hW; first | (simp; done) | (simp; omega)
  have b10 : W.cell? ⟨w.heap.size + 1, 0, none⟩ = some (.slice a l.length cap) := by subst hW; simp [go_sem]
  have L1 : w.heap.size + 1 < W.heap.size := by subst hW; first | (simp; done) | (simp; omega)
  rw [← hW]
  clear hW
  generalize w.heap.size + 1 = B1 at *
  obtain ⟨B0, hB0⟩ : ∃ B, B = w.heap.size := ⟨_, rfl⟩
  rw [← hB0] at b00 b01 b02 b03 b04 b05 b06 b07 b08 L0
  try rw [← hB0]
  replace hB0 := Lib.hid hB0
  have RV := Lib.hid (H0.out.below HD)
  have FV := Lib.hid (FixAt.below HF0.out HD)
  clear H0 HF0
  cases e1 : isTrk l
  case false =>
    have HF := Lib.hid (show sailR x0 x1 x2 x3 x4 x5 x6 x7 ml l = ([], 1) by unfold sailR; rw [if_neg (by rw [e1]; simp)])
    have cc := IsTrack_c a cap l W hl FV.out
    rw [e1] at cc
    clear e1
    refine (cc).mono ?_
    rintro e V1 ⟨rfl, hb⟩
    clear cc
    replace HD := HD.trans (hb.mono HD.size)
    obtain ⟨hc, hf⟩ := bcell hb
    have hz := hb.size
    replace b00 := (hc _ 0 L0).trans b00
    replace b01 := (hc _ 1 L0).trans b01
    replace b02 := (hc _ 2 L0).trans b02
    replace b03 := (hc _ 3 L0).trans b03
    replace b04 := (hc _ 4 L0).trans b04
    replace b05 := (hc _ 5 L0).trans b05
    replace b06 := (hc _ 6 L0).trans b06
    replace b07 := (hc _ 7 L0).trans b07
    replace b08 := (hc _ 8 L0).trans b08
    replace b10 := (hc _ 0 L1).trans b10
    replace RV := Lib.hid (RowAt.below RV.out hb)
    replace FV := Lib.hid (FixAt.below FV.out hb)
    replace L0 := Nat.lt_of_lt_of_le L0 hz
    replace L1 := Nat.lt_of_lt_of_le L1 hz
    clear hc hf hz hb
    go_wp2_with fail
    exact bodyPost_ret (v := .tuple #[.slice none 0 0, .int .i64 1]) (by simp [results, Tryz.results22, go_sem]) rfl ⟨⟨none, 0, by rw [HF.out]; rfl, by rw [HF.out]; exact World.ownsRow_nil _ _ _ _⟩, HD⟩
  case true =>
    have cc := IsTrack_c a cap l W hl FV.out
    rw [e1] at cc
    refine (cc).mono ?_
    rintro e V1 ⟨rfl, hb⟩
    clear cc
    replace HD := HD.trans (hb.mono HD.size)
    obtain ⟨hc, hf⟩ := bcell hb
    have hz := hb.size
    replace b00 := (hc _ 0 L0).trans b00
    replace b01 := (hc _ 1 L0).trans b01
    replace b02 := (hc _ 2 L0).trans b02
    replace b03 := (hc _ 3 L0).trans b03
    replace b04 := (hc _ 4 L0).trans b04
    replace b05 := (hc _ 5 L0).trans b05
    replace b06 := (hc _ 6 L0).trans b06
    replace b07 := (hc _ 7 L0).trans b07
    replace b08 := (hc _ 8 L0).trans b08
    replace b10 := (hc _ 0 L1).trans b10
    replace RV := Lib.hid (RowAt.below RV.out hb)
    replace FV := Lib.hid (FixAt.below FV.out hb)
    replace L0 := Nat.lt_of_lt_of_le L0 hz
    replace L1 := Nat.lt_of_lt_of_le L1 hz
    clear hc hf hz hb
    go_wp2_with fail
    cases e : courseOK x0 x1 x2 x3 x4 x5 x6 x7 ml
    case false =>
      have HF := Lib.hid (show sailR x0 x1 x2 x3 x4 x5 x6 x7 ml l = ([], 1) by unfold sailR; rw [if_neg (by rw [e]; simp)])
      have cc := courseLines_n x0 x1 x2 x3 x4 x5 x6 x7 ma mcap ml V1 hml RV.out HS.out hcap e
      clear e e1
      refine (cc).mono ?_
      rintro e V2 ⟨rfl, hb⟩
      clear cc
      replace HD := HD.trans (hb.mono HD.size)
      obtain ⟨hc, hf⟩ := bcell hb
      have hz := hb.size
      replace b00 := (hc _ 0 L0).trans b00
      replace b01 := (hc _ 1 L0).trans b01
      replace b02 := (hc _ 2 L0).trans b02
      replace b03 := (hc _ 3 L0).trans b03
      replace b04 := (hc _ 4 L0).trans b04
      replace b05 := (hc _ 5 L0).trans b05
      replace b06 := (hc _ 6 L0).trans b06
      replace b07 := (hc _ 7 L0).trans b07
      replace b08 := (hc _ 8 L0).trans b08
      replace b10 := (hc _ 0 L1).trans b10
      replace RV := Lib.hid (RowAt.below RV.out hb)
      replace FV := Lib.hid (FixAt.below FV.out hb)
      replace L0 := Nat.lt_of_lt_of_le L0 hz
      replace L1 := Nat.lt_of_lt_of_le L1 hz
      clear hc hf hz hb
      go_wp2_with fail
      exact bodyPost_ret (v := .tuple #[.slice none 0 0, .int .i64 1]) (by simp [results, Tryz.results22, go_sem]) rfl ⟨⟨none, 0, by rw [HF.out]; rfl, by rw [HF.out]; exact World.ownsRow_nil _ _ _ _⟩, HD⟩
    case true =>
      have hcp := courseOK_true e
      have hm8 := hcp.2.2.2.1
      have cc := courseLines_c x0 x1 x2 x3 x4 x5 x6 x7 ma mcap ml V1 hml RV.out HS.out hcap hcp
      cases e3 : lnOK x0 x1 x2 x3 x4 x5 x6 x7 ml
      case false =>
        have HF := Lib.hid (show sailR x0 x1 x2 x3 x4 x5 x6 x7 ml l = ([], 2) by unfold sailR; rw [if_pos ⟨e1, e⟩, if_neg (by rw [e3]; decide)])
        skip
        refine (cc).mono ?_
        rintro e V2 ⟨⟨_, hV⟩, hb⟩
        obtain ⟨a9, c9, rfl, ho9⟩ := hV e3
        clear cc ho9 hV e e1 e3
        replace HD := HD.trans (hb.mono HD.size)
        obtain ⟨hc, hf⟩ := bcell hb
        have hz := hb.size
        replace b00 := (hc _ 0 L0).trans b00
        replace b01 := (hc _ 1 L0).trans b01
        replace b02 := (hc _ 2 L0).trans b02
        replace b03 := (hc _ 3 L0).trans b03
        replace b04 := (hc _ 4 L0).trans b04
        replace b05 := (hc _ 5 L0).trans b05
        replace b06 := (hc _ 6 L0).trans b06
        replace b07 := (hc _ 7 L0).trans b07
        replace b08 := (hc _ 8 L0).trans b08
        replace b10 := (hc _ 0 L1).trans b10
        replace RV := Lib.hid (RowAt.below RV.out hb)
        replace FV := Lib.hid (FixAt.below FV.out hb)
        replace L0 := Nat.lt_of_lt_of_le L0 hz
        replace L1 := Nat.lt_of_lt_of_le L1 hz
        clear hc hf hz hb
        go_wp2_with fail
        exact bodyPost_ret (v := .tuple #[.slice none 0 0, .int .i64 2]) (by simp [results, Tryz.results22, go_sem]) rfl ⟨⟨none, 0, by rw [HF.out]; rfl, by rw [HF.out]; exact World.ownsRow_nil _ _ _ _⟩, HD⟩
      case true =>
        have HF := Lib.hid (show sailR x0 x1 x2 x3 x4 x5 x6 x7 ml l = (acr l (lnz x0 x1 x2 x3 x4 x5 x6 x7 ml) 0, 0) by unfold sailR; rw [if_pos ⟨e1, e⟩, if_pos e3])
        replace cc := cc.mono (fun e w' h => And.intro (h.1.1 e3) h.2)
        have hll := lnz_len x0 x1 x2 x3 x4 x5 x6 x7 ml
        have HL := Lib.hid (lnz_seg hcp (lnOK_true e3))
        clear e e3
        rw [← hll] at cc
        generalize lnz x0 x1 x2 x3 x4 x5 x6 x7 ml = L at *
        have hn9 : L.length ≤ 1000 := by omega
        replace hll := Lib.hid hll
        refine (cc).mono ?_
        rintro e V2 ⟨⟨g, rc, rfl, ho⟩, hb⟩
        clear cc
        have RL := Lib.hid (rowAt_own ho)
        clear ho
        replace HD := HD.trans (hb.mono HD.size)
        obtain ⟨hc, hf⟩ := bcell hb
        have hz := hb.size
        replace b00 := (hc _ 0 L0).trans b00
        replace b01 := (hc _ 1 L0).trans b01
        replace b02 := (hc _ 2 L0).trans b02
        replace b03 := (hc _ 3 L0).trans b03
        replace b04 := (hc _ 4 L0).trans b04
        replace b05 := (hc _ 5 L0).trans b05
        replace b06 := (hc _ 6 L0).trans b06
        replace b07 := (hc _ 7 L0).trans b07
        replace b08 := (hc _ 8 L0).trans b08
        replace b10 := (hc _ 0 L1).trans b10
        replace RV := Lib.hid (RowAt.below RV.out hb)
        replace FV := Lib.hid (FixAt.below FV.out hb)
        replace L0 := Nat.lt_of_lt_of_le L0 hz
        replace L1 := Nat.lt_of_lt_of_le L1 hz
        clear hc hf hz hb
        go_wp2_with fail
        refine (timesAcross_c (some ⟨g, 0, none⟩) rc L a cap l V2 hn9 HL.out RL.out hl e1 FV.out).mono ?_
        rintro e V3 ⟨⟨g2, c2, rfl, ho⟩, hb⟩
        have hO := Lib.hid (pown_mono ho HD.size)
        clear ho
        replace HD := HD.trans (hb.mono HD.size)
        obtain ⟨hc, hf⟩ := bcell hb
        have hz := hb.size
        replace b00 := (hc _ 0 L0).trans b00
        replace b01 := (hc _ 1 L0).trans b01
        replace b02 := (hc _ 2 L0).trans b02
        replace b03 := (hc _ 3 L0).trans b03
        replace b04 := (hc _ 4 L0).trans b04
        replace b05 := (hc _ 5 L0).trans b05
        replace b06 := (hc _ 6 L0).trans b06
        replace b07 := (hc _ 7 L0).trans b07
        replace b08 := (hc _ 8 L0).trans b08
        replace b10 := (hc _ 0 L1).trans b10
        replace RV := Lib.hid (RowAt.below RV.out hb)
        replace FV := Lib.hid (FixAt.below FV.out hb)
        replace RL := Lib.hid (RowAt.below RL.out hb)
        replace L0 := Nat.lt_of_lt_of_le L0 hz
        replace L1 := Nat.lt_of_lt_of_le L1 hz
        clear hc hf hz hb
        go_wp2_with fail
        exact bodyPost_ret (v := .tuple #[.slice (some ⟨g2, 0, none⟩) (acr l L 0).length c2, .int .i64 0]) (by simp [results, Tryz.results22, go_sem]) rfl ⟨⟨some ⟨g2, 0, none⟩, c2, by rw [HF.out], by rw [HF.out]; exact hO.out⟩, HD⟩
set_option maxRecDepth 100000 in
set_option maxHeartbeats 4000000 in
theorem l06Code_c (x0 x1 x2 x3 x4 x5 x6 x7 : Int) (ma : Option Addr) (mcap : Nat) (ml : List Mk) (a : Option Addr) (cap : Nat) (l : List Fx) (w : World) (hml : ml.length ≤ 4611686018427387904) (h : RowAt w ma (mflat ml)) (hs : ∀ i, i < ml.length → (mk ml i).name.size ≤ maxLen) (hl : l.length ≤ 4611686018427387904) (hf : FixAt w a l) :
    Calls Tryz.prog 17 #[.agg #[.int .i64 x0, .int .i64 x1, .int .i64 x2, .int .i64 x3, .int .i64 x4, .int .i64 x5, .int .i64 x6, .int .i64 x7, .slice ma ml.length mcap], .agg #[.slice a l.length cap]] w fun e w' => e = .returned (.int .i64 (sailR x0 x1 x2 x3 x4 x5 x6 x7 ml l).2) ∧ Below w.heap.size w w' := by
  have H0 := Lib.hid h
  have HS := Lib.hid hs
  have HF0 := Lib.hid hf
  clear h hs hf
  go_enter Tryz.func17, Tryz.ntmps17
  go_wp2_with fail
  obtain ⟨W, hW⟩ : ∃ W, W = ((w.alloc (.cells #[.int .i64 x0, .int .i64 x1, .int .i64 x2, .int .i64 x3, .int .i64 x4, .int .i64 x5, .int .i64 x6, .int .i64 x7, .slice ma ml.length mcap] 41)).alloc (.cells #[.slice a l.length cap] 45)) := ⟨_, rfl⟩
  have HD : Below w.heap.size w W := by subst hW; exact (by repeat (first | with_reducible exact Below.refl _ _ | with_reducible assumption | with_reducible refine Below.drew ?_ | with_reducible refine Below.alloc ?_ (by first | exact Nat.le_refl _ | (simp; done) | (simp; omega) | omega) _ | with_reducible refine Below.setCell ?_ (by first | exact Nat.le_refl _ | (simp; done) | (simp; omega) | omega) _ | with_reducible refine Below.trans ?_ (Below.mono (by with_reducible assumption) (by first | exact Nat.le_refl _ | (simp; done) | (simp; omega) | omega))))
  have b00 : W.cell? ⟨w.heap.size, 0, none⟩ = some (.int .i64 x0) := by subst hW; simp [go_sem]
  have b01 : W.cell? ⟨w.heap.size, 1, none⟩ = some (.int .i64 x1) := by subst hW; simp [go_sem]
  have b02 : W.cell? ⟨w.heap.size, 2, none⟩ = some (.int .i64 x2) := by subst hW; simp [go_sem]
  have b03 : W.cell? ⟨w.heap.size, 3, none⟩ = some (.int .i64 x3) := by subst hW; simp [go_sem]
  have b04 : W.cell? ⟨w.heap.size, 4, none⟩ = some (.int .i64 x4) := by subst hW; simp [go_sem]
  have b05 : W.cell? ⟨w.heap.size, 5, none⟩ = some (.int .i64 x5) := by subst hW; simp [go_sem]
  have b06 : W.cell? ⟨w.heap.size, 6, none⟩ = some (.int .i64 x6) := by subst hW; simp [go_sem]
  have b07 : W.cell? ⟨w.heap.size, 7, none⟩ = some (.int .i64 x7) := by subst hW; simp [go_sem]
  have b08 : W.cell? ⟨w.heap.size, 8, none⟩ = some (.slice ma ml.length mcap) := by subst hW; simp [go_sem]
  have L0 : w.heap.size < W.heap.size := by subst hW; first | (simp; done) | (simp; omega)
  have b10 : W.cell? ⟨w.heap.size + 1, 0, none⟩ = some (.slice a l.length cap) := by subst hW; simp [go_sem]
  have L1 : w.heap.size + 1 < W.heap.size := by subst hW; first | (simp; done) | (simp; omega)
  rw [← hW]
  clear hW
  generalize w.heap.size + 1 = B1 at *
  obtain ⟨B0, hB0⟩ : ∃ B, B = w.heap.size := ⟨_, rfl⟩
  rw [← hB0] at b00 b01 b02 b03 b04 b05 b06 b07 b08 L0
  try rw [← hB0]
  replace hB0 := Lib.hid hB0
  have RV := Lib.hid (H0.out.below HD)
  have FV := Lib.hid (FixAt.below HF0.out HD)
  clear H0 HF0
  have cc := IsCourseS_c x0 x1 x2 x3 x4 x5 x6 x7 ma mcap ml W hml RV.out HS.out
  cases e : courseOK x0 x1 x2 x3 x4 x5 x6 x7 ml
  case false =>
    have HF := Lib.hid (show (sailR x0 x1 x2 x3 x4 x5 x6 x7 ml l).2 = 1 by unfold sailR; rw [if_neg (by rw [e]; simp)])
    rw [e] at cc
    clear e
    refine (cc).mono ?_
    rintro e V1 ⟨rfl, hb⟩
    clear cc
    replace HD := HD.trans (hb.mono HD.size)
    obtain ⟨hc, hf⟩ := bcell hb
    have hz := hb.size
    replace b00 := (hc _ 0 L0).trans b00
    replace b01 := (hc _ 1 L0).trans b01
    replace b02 := (hc _ 2 L0).trans b02
    replace b03 := (hc _ 3 L0).trans b03
    replace b04 := (hc _ 4 L0).trans b04
    replace b05 := (hc _ 5 L0).trans b05
    replace b06 := (hc _ 6 L0).trans b06
    replace b07 := (hc _ 7 L0).trans b07
    replace b08 := (hc _ 8 L0).trans b08
    replace b10 := (hc _ 0 L1).trans b10
    replace RV := Lib.hid (RowAt.below RV.out hb)
    replace FV := Lib.hid (FixAt.below FV.out hb)
    replace L0 := Nat.lt_of_lt_of_le L0 hz
    replace L1 := Nat.lt_of_lt_of_le L1 hz
    clear hc hf hz hb
    go_wp2_with fail
    exact bodyPost_ret (v := .int .i64 1) (by simp [results, Tryz.results17, go_sem]) rfl ⟨by rw [HF.out], HD⟩
  case true =>
    rw [e] at cc
    refine (cc).mono ?_
    rintro e V1 ⟨rfl, hb⟩
    clear cc
    replace HD := HD.trans (hb.mono HD.size)
    obtain ⟨hc, hf⟩ := bcell hb
    have hz := hb.size
    replace b00 := (hc _ 0 L0).trans b00
    replace b01 := (hc _ 1 L0).trans b01
    replace b02 := (hc _ 2 L0).trans b02
    replace b03 := (hc _ 3 L0).trans b03
    replace b04 := (hc _ 4 L0).trans b04
    replace b05 := (hc _ 5 L0).trans b05
    replace b06 := (hc _ 6 L0).trans b06
    replace b07 := (hc _ 7 L0).trans b07
    replace b08 := (hc _ 8 L0).trans b08
    replace b10 := (hc _ 0 L1).trans b10
    replace RV := Lib.hid (RowAt.below RV.out hb)
    replace FV := Lib.hid (FixAt.below FV.out hb)
    replace L0 := Nat.lt_of_lt_of_le L0 hz
    replace L1 := Nat.lt_of_lt_of_le L1 hz
    clear hc hf hz hb
    go_wp2_with fail
    have cc := IsTrackS_c a cap l V1 hl FV.out
    cases e1 : isTrk l
    case false =>
      have HF := Lib.hid (show (sailR x0 x1 x2 x3 x4 x5 x6 x7 ml l).2 = 1 by unfold sailR; rw [if_neg (by rw [e1]; simp)])
      rw [e1] at cc
      clear e1 e
      refine (cc).mono ?_
      rintro e V2 ⟨rfl, hb⟩
      clear cc
      replace HD := HD.trans (hb.mono HD.size)
      obtain ⟨hc, hf⟩ := bcell hb
      have hz := hb.size
      replace b00 := (hc _ 0 L0).trans b00
      replace b01 := (hc _ 1 L0).trans b01
      replace b02 := (hc _ 2 L0).trans b02
      replace b03 := (hc _ 3 L0).trans b03
      replace b04 := (hc _ 4 L0).trans b04
      replace b05 := (hc _ 5 L0).trans b05
      replace b06 := (hc _ 6 L0).trans b06
      replace b07 := (hc _ 7 L0).trans b07
      replace b08 := (hc _ 8 L0).trans b08
      replace b10 := (hc _ 0 L1).trans b10
      replace RV := Lib.hid (RowAt.below RV.out hb)
      replace FV := Lib.hid (FixAt.below FV.out hb)
      replace L0 := Nat.lt_of_lt_of_le L0 hz
      replace L1 := Nat.lt_of_lt_of_le L1 hz
      clear hc hf hz hb
      go_wp2_with fail
      exact bodyPost_ret (v := .int .i64 1) (by simp [results, Tryz.results17, go_sem]) rfl ⟨by rw [HF.out], HD⟩
    case true =>
      rw [e1] at cc
      refine (cc).mono ?_
      rintro e V2 ⟨rfl, hb⟩
      clear cc
      replace HD := HD.trans (hb.mono HD.size)
      obtain ⟨hc, hf⟩ := bcell hb
      have hz := hb.size
      replace b00 := (hc _ 0 L0).trans b00
      replace b01 := (hc _ 1 L0).trans b01
      replace b02 := (hc _ 2 L0).trans b02
      replace b03 := (hc _ 3 L0).trans b03
      replace b04 := (hc _ 4 L0).trans b04
      replace b05 := (hc _ 5 L0).trans b05
      replace b06 := (hc _ 6 L0).trans b06
      replace b07 := (hc _ 7 L0).trans b07
      replace b08 := (hc _ 8 L0).trans b08
      replace b10 := (hc _ 0 L1).trans b10
      replace RV := Lib.hid (RowAt.below RV.out hb)
      replace FV := Lib.hid (FixAt.below FV.out hb)
      replace L0 := Nat.lt_of_lt_of_le L0 hz
      replace L1 := Nat.lt_of_lt_of_le L1 hz
      clear hc hf hz hb
      go_wp2_with fail
      have cc := l06Lines_c x0 x1 x2 x3 x4 x5 x6 x7 ma mcap ml V2 RV.out (courseOK_true e)
      cases e3 : lnOK x0 x1 x2 x3 x4 x5 x6 x7 ml
      case false =>
        have HF := Lib.hid (show (sailR x0 x1 x2 x3 x4 x5 x6 x7 ml l).2 = 2 by unfold sailR; rw [if_pos ⟨e1, e⟩, if_neg (by rw [e3]; decide)])
        skip
        refine (cc).mono ?_
        rintro e V3 ⟨⟨_, hV⟩, hb⟩
        obtain ⟨a9, c9, rfl, ho9⟩ := hV e3
        clear cc ho9 hV e e1 e3
        replace HD := HD.trans (hb.mono HD.size)
        obtain ⟨hc, hf⟩ := bcell hb
        have hz := hb.size
        replace b00 := (hc _ 0 L0).trans b00
        replace b01 := (hc _ 1 L0).trans b01
        replace b02 := (hc _ 2 L0).trans b02
        replace b03 := (hc _ 3 L0).trans b03
        replace b04 := (hc _ 4 L0).trans b04
        replace b05 := (hc _ 5 L0).trans b05
        replace b06 := (hc _ 6 L0).trans b06
        replace b07 := (hc _ 7 L0).trans b07
        replace b08 := (hc _ 8 L0).trans b08
        replace b10 := (hc _ 0 L1).trans b10
        replace RV := Lib.hid (RowAt.below RV.out hb)
        replace FV := Lib.hid (FixAt.below FV.out hb)
        replace L0 := Nat.lt_of_lt_of_le L0 hz
        replace L1 := Nat.lt_of_lt_of_le L1 hz
        clear hc hf hz hb
        go_wp2_with fail
        exact bodyPost_ret (v := .int .i64 2) (by simp [results, Tryz.results17, go_sem]) rfl ⟨by rw [HF.out], HD⟩
      case true =>
        have HF := Lib.hid (show (sailR x0 x1 x2 x3 x4 x5 x6 x7 ml l).2 = 0 by unfold sailR; rw [if_pos ⟨e1, e⟩, if_pos e3])
        replace cc := cc.mono (fun e w' h => And.intro (h.1.1 e3) h.2)
        clear e e1 e3
        refine (cc).mono ?_
        rintro e V3 ⟨⟨a9, c9, rfl, ho9⟩, hb⟩
        clear cc ho9
        replace HD := HD.trans (hb.mono HD.size)
        obtain ⟨hc, hf⟩ := bcell hb
        have hz := hb.size
        replace b00 := (hc _ 0 L0).trans b00
        replace b01 := (hc _ 1 L0).trans b01
        replace b02 := (hc _ 2 L0).trans b02
        replace b03 := (hc _ 3 L0).trans b03
        replace b04 := (hc _ 4 L0).trans b04
        replace b05 := (hc _ 5 L0).trans b05
        replace b06 := (hc _ 6 L0).trans b06
        replace b07 := (hc _ 7 L0).trans b07
        replace b08 := (hc _ 8 L0).trans b08
        replace b10 := (hc _ 0 L1).trans b10
        replace RV := Lib.hid (RowAt.below RV.out hb)
        replace FV := Lib.hid (FixAt.below FV.out hb)
        replace L0 := Nat.lt_of_lt_of_le L0 hz
        replace L1 := Nat.lt_of_lt_of_le L1 hz
        clear hc hf hz hb
        go_wp2_with fail
        exact bodyPost_ret (v := .int .i64 0) (by simp [results, Tryz.results17, go_sem]) rfl ⟨by rw [HF.out], HD⟩
theorem sailR_ok {x0 x1 x2 x3 x4 x5 x6 x7 : Int} {ml : List Mk} {l : List Fx} (h : (sailR x0 x1 x2 x3 x4 x5 x6 x7 ml l).2 = 0) : isTrk l = true ∧ courseOK x0 x1 x2 x3 x4 x5 x6 x7 ml = true ∧ lnOK x0 x1 x2 x3 x4 x5 x6 x7 ml = true ∧ (sailR x0 x1 x2 x3 x4 x5 x6 x7 ml l).1 = acr l (lnz x0 x1 x2 x3 x4 x5 x6 x7 ml) 0 := by
  unfold sailR at *
  split at h
  · rename_i h1
    split at h
    · rename_i h2
      rw [if_pos h1, if_pos h2]
      exact ⟨h1.1, h1.2, h2, rfl⟩
    · cases h
  · cases h
theorem sailR_nil {x0 x1 x2 x3 x4 x5 x6 x7 : Int} {ml : List Mk} {l : List Fx} (h : (sailR x0 x1 x2 x3 x4 x5 x6 x7 ml l).2 ≠ 0) : (sailR x0 x1 x2 x3 x4 x5 x6 x7 ml l).1 = [] := by
  unfold sailR at *
  split
  · rename_i h1
    rw [if_pos h1] at h
    split
    · rename_i h2
      rw [if_pos h2] at h
      exact absurd rfl h
    · rfl
  · rfl
theorem rchR_no {x0 x1 x2 x3 x4 x5 x6 x7 : Int} {ml : List Mk} {l : List Fx} (t : Int) (h : (sailR x0 x1 x2 x3 x4 x5 x6 x7 ml l).2 ≠ 0) : rchR x0 x1 x2 x3 x4 x5 x6 x7 ml l t = (0, (sailR x0 x1 x2 x3 x4 x5 x6 x7 ml l).2) := by
  unfold rchR
  rw [sailR_nil h]; rfl
set_option maxRecDepth 100000 in
set_option maxHeartbeats 4000000 in
theorem FinishTime_c (x0 x1 x2 x3 x4 x5 x6 x7 : Int) (ma : Option Addr) (mcap : Nat) (ml : List Mk) (a : Option Addr) (cap : Nat) (l : List Fx) (w : World) (hml : ml.length ≤ 4611686018427387904) (h : RowAt w ma (mflat ml)) (hs : ∀ i, i < ml.length → (mk ml i).name.size ≤ maxLen) (hcap : ml.length ≤ mcap) (hl : l.length ≤ 4611686018427387904) (hf : FixAt w a l) :
    Calls Tryz.prog 10 #[.agg #[.int .i64 x0, .int .i64 x1, .int .i64 x2, .int .i64 x3, .int .i64 x4, .int .i64 x5, .int .i64 x6, .int .i64 x7, .slice ma ml.length mcap], .agg #[.slice a l.length cap]] w fun e w' => e = .returned (.tuple #[.int .i64 (finR x0 x1 x2 x3 x4 x5 x6 x7 ml l).1, .int .i64 (finR x0 x1 x2 x3 x4 x5 x6 x7 ml l).2]) ∧ Below w.heap.size w w' := by
  have H0 := Lib.hid h
  have HS := Lib.hid hs
  have HF0 := Lib.hid hf
  clear h hs hf
  go_enter Tryz.func10, Tryz.ntmps10
  go_wp2_with fail
  obtain ⟨W, hW⟩ : ∃ W, W = ((w.alloc (.cells #[.int .i64 x0, .int .i64 x1, .int .i64 x2, .int .i64 x3, .int .i64 x4, .int .i64 x5, .int .i64 x6, .int .i64 x7, .slice ma ml.length mcap] 41)).alloc (.cells #[.slice a l.length cap] 45)) := ⟨_, rfl⟩
  have HD : Below w.heap.size w W := by subst hW; exact (by repeat (first | with_reducible exact Below.refl _ _ | with_reducible assumption | with_reducible refine Below.drew ?_ | with_reducible refine Below.alloc ?_ (by first | exact Nat.le_refl _ | (simp; done) | (simp; omega) | omega) _ | with_reducible refine Below.setCell ?_ (by first | exact Nat.le_refl _ | (simp; done) | (simp; omega) | omega) _ | with_reducible refine Below.trans ?_ (Below.mono (by with_reducible assumption) (by first | exact Nat.le_refl _ | (simp; done) | (simp; omega) | omega))))
  have b00 : W.cell? ⟨w.heap.size, 0, none⟩ = some (.int .i64 x0) := by subst hW; simp [go_sem]
  have b01 : W.cell? ⟨w.heap.size, 1, none⟩ = some (.int .i64 x1) := by subst hW; simp [go_sem]
  have b02 : W.cell? ⟨w.heap.size, 2, none⟩ = some (.int .i64 x2) := by subst hW; simp [go_sem]
  have b03 : W.cell? ⟨w.heap.size, 3, none⟩ = some (.int .i64 x3) := by subst hW; simp [go_sem]
  have b04 : W.cell? ⟨w.heap.size, 4, none⟩ = some (.int .i64 x4) := by subst hW; simp [go_sem]
  have b05 : W.cell? ⟨w.heap.size, 5, none⟩ = some (.int .i64 x5) := by subst hW; simp [go_sem]
  have b06 : W.cell? ⟨w.heap.size, 6, none⟩ = some (.int .i64 x6) := by subst hW; simp [go_sem]
  have b07 : W.cell? ⟨w.heap.size, 7, none⟩ = some (.int .i64 x7) := by subst hW; simp [go_sem]
  have b08 : W.cell? ⟨w.heap.size, 8, none⟩ = some (.slice ma ml.length mcap) := by subst hW; simp [go_sem]
  have L0 : w.heap.size < W.heap.size := by subst hW; first | (simp; done) | (simp; omega)
  have b10 : W.cell? ⟨w.heap.size + 1, 0, none⟩ = some (.slice a l.length cap) := by subst hW; simp [go_sem]
  have L1 : w.heap.size + 1 < W.heap.size := by subst hW; first | (simp; done) | (simp; omega)
  rw [← hW]
  clear hW
  generalize w.heap.size + 1 = B1 at *
  obtain ⟨B0, hB0⟩ : ∃ B, B = w.heap.size := ⟨_, rfl⟩
  rw [← hB0] at b00 b01 b02 b03 b04 b05 b06 b07 b08 L0
  try rw [← hB0]
  replace hB0 := Lib.hid hB0
  have RV := Lib.hid (H0.out.below HD)
  have FV := Lib.hid (FixAt.below HF0.out HD)
  clear H0 HF0
  have hln := sailR_len x0 x1 x2 x3 x4 x5 x6 x7 ml l
  skip
  by_cases e : (sailR x0 x1 x2 x3 x4 x5 x6 x7 ml l).2 = 0
  case neg =>
    have HF := Lib.hid (show finR x0 x1 x2 x3 x4 x5 x6 x7 ml l = (0, (sailR x0 x1 x2 x3 x4 x5 x6 x7 ml l).2) by unfold finR; rw [if_neg e])
    have cc := sailed_c x0 x1 x2 x3 x4 x5 x6 x7 ma mcap ml a cap l W hml RV.out HS.out hcap hl FV.out
    generalize sailR x0 x1 x2 x3 x4 x5 x6 x7 ml l = R at *
    obtain ⟨S, c⟩ := R
    dsimp only at *
    refine (cc).mono ?_
    rintro e V1 ⟨⟨a9, c9, rfl, ho9⟩, hb⟩
    clear cc ho9
    replace HD := HD.trans (hb.mono HD.size)
    obtain ⟨hc, hf⟩ := bcell hb
    have hz := hb.size
    replace b00 := (hc _ 0 L0).trans b00
    replace b01 := (hc _ 1 L0).trans b01
    replace b02 := (hc _ 2 L0).trans b02
    replace b03 := (hc _ 3 L0).trans b03
    replace b04 := (hc _ 4 L0).trans b04
    replace b05 := (hc _ 5 L0).trans b05
    replace b06 := (hc _ 6 L0).trans b06
    replace b07 := (hc _ 7 L0).trans b07
    replace b08 := (hc _ 8 L0).trans b08
    replace b10 := (hc _ 0 L1).trans b10
    replace RV := Lib.hid (RowAt.below RV.out hb)
    replace FV := Lib.hid (FixAt.below FV.out hb)
    replace L0 := Nat.lt_of_lt_of_le L0 hz
    replace L1 := Nat.lt_of_lt_of_le L1 hz
    clear hc hf hz hb
    have e' : (c == 0) = false := by simpa using e
    go_wp2_with fail
    exact bodyPost_ret (v := .tuple #[.int .i64 0, .int .i64 c]) (by simp [results, Tryz.results10, go_sem]) rfl ⟨by rw [HF.out], HD⟩
  case pos =>
    obtain ⟨e1, e2, e3, e4⟩ := sailR_ok e
    have hm8 := (courseOK_true e2).2.2.2.1
    have HG := Lib.hid (show finR x0 x1 x2 x3 x4 x5 x6 x7 ml l = if (sailR x0 x1 x2 x3 x4 x5 x6 x7 ml l).1.length < ml.length + 2 then (0, 4) else ((sailR x0 x1 x2 x3 x4 x5 x6 x7 ml l).1.getD ((sailR x0 x1 x2 x3 x4 x5 x6 x7 ml l).1.length - 1) 0, 0) by unfold finR; rw [if_pos e])
    have cc := sailed_c x0 x1 x2 x3 x4 x5 x6 x7 ma mcap ml a cap l W hml RV.out HS.out hcap hl FV.out
    clear e1 e2 e3 e4
    rw [e] at cc
    clear e
    generalize (sailR x0 x1 x2 x3 x4 x5 x6 x7 ml l).1 = S at *
    refine (cc).mono ?_
    rintro e V1 ⟨⟨sa, sc, rfl, ho⟩, hb⟩
    clear cc
    have SV := Lib.hid (row_ownP ho (nflat_length S))
    clear ho
    replace HD := HD.trans (hb.mono HD.size)
    obtain ⟨hc, hf⟩ := bcell hb
    have hz := hb.size
    replace b00 := (hc _ 0 L0).trans b00
    replace b01 := (hc _ 1 L0).trans b01
    replace b02 := (hc _ 2 L0).trans b02
    replace b03 := (hc _ 3 L0).trans b03
    replace b04 := (hc _ 4 L0).trans b04
    replace b05 := (hc _ 5 L0).trans b05
    replace b06 := (hc _ 6 L0).trans b06
    replace b07 := (hc _ 7 L0).trans b07
    replace b08 := (hc _ 8 L0).trans b08
    replace b10 := (hc _ 0 L1).trans b10
    replace RV := Lib.hid (RowAt.below RV.out hb)
    replace FV := Lib.hid (FixAt.below FV.out hb)
    replace L0 := Nat.lt_of_lt_of_le L0 hz
    replace L1 := Nat.lt_of_lt_of_le L1 hz
    clear hc hf hz hb
    have hw1 : IntKind.i64.wrap ((ml.length : Int) + 2) = (ml.length : Int) + 2 := by rw [IntKind.wrap_i64]; omega
    by_cases h5 : S.length < ml.length + 2
    case pos =>
      have HF := Lib.hid (HG.out.trans (if_pos h5))
      have h6 : (S.length : Int) < (ml.length : Int) + 2 := by omega
      go_wp2_with fail
      exact bodyPost_ret (v := .tuple #[.int .i64 0, .int .i64 4]) (by simp [results, Tryz.results10, go_sem]) rfl ⟨by rw [HF.out], HD⟩
    case neg =>
      have HF := Lib.hid (HG.out.trans (if_neg h5))
      have h6 : ¬ (S.length : Int) < (ml.length : Int) + 2 := by omega
      obtain ⟨b, off, hbo, hlt, c0⟩ := numF_cell SV.out (show S.length - 1 < S.length by omega)
      subst hbo
      obtain ⟨j, hj⟩ : ∃ j, j = S.length - 1 := ⟨_, rfl⟩
      rw [← hj] at c0 HF
      have hw2 : IntKind.i64.wrap ((S.length : Int) - 1) = (j : Int) := by rw [IntKind.wrap_i64]; omega
      have h7 : (j : Int) < (S.length : Int) := by omega
      replace hj := Lib.hid hj
      generalize S.getD j 0 = x at *
      go_wp2_with fail
      exact bodyPost_ret (v := .tuple #[.int .i64 x, .int .i64 0]) (by simp [results, Tryz.results10, go_sem]) rfl ⟨by rw [HF.out], HD⟩
set_option maxRecDepth 100000 in
set_option maxHeartbeats 4000000 in
theorem FinishTimeS_c (x0 x1 x2 x3 x4 x5 x6 x7 : Int) (ma : Option Addr) (mcap : Nat) (ml : List Mk) (a : Option Addr) (cap : Nat) (l : List Fx) (w : World) (hml : ml.length ≤ 4611686018427387904) (h : RowAt w ma (mflat ml)) (hs : ∀ i, i < ml.length → (mk ml i).name.size ≤ maxLen)  (hl : l.length ≤ 4611686018427387904) (hf : FixAt w a l) :
    Calls Tryz.prog 7 #[.agg #[.int .i64 x0, .int .i64 x1, .int .i64 x2, .int .i64 x3, .int .i64 x4, .int .i64 x5, .int .i64 x6, .int .i64 x7, .slice ma ml.length mcap], .agg #[.slice a l.length cap]] w fun e w' => e = .returned (.tuple #[.int .i64 (finR x0 x1 x2 x3 x4 x5 x6 x7 ml l).1, .int .i64 (finR x0 x1 x2 x3 x4 x5 x6 x7 ml l).2]) ∧ Below w.heap.size w w' := by
  have H0 := Lib.hid h
  have HS := Lib.hid hs
  have HF0 := Lib.hid hf
  clear h hs hf
  go_enter Tryz.func7, Tryz.ntmps7
  go_wp2_with fail
  obtain ⟨W, hW⟩ : ∃ W, W = ((w.alloc (.cells #[.int .i64 x0, .int .i64 x1, .int .i64 x2, .int .i64 x3, .int .i64 x4, .int .i64 x5, .int .i64 x6, .int .i64 x7, .slice ma ml.length mcap] 41)).alloc (.cells #[.slice a l.length cap] 45)) := ⟨_, rfl⟩
  have HD : Below w.heap.size w W := by subst hW; exact (by repeat (first | with_reducible exact Below.refl _ _ | with_reducible assumption | with_reducible refine Below.drew ?_ | with_reducible refine Below.alloc ?_ (by first | exact Nat.le_refl _ | (simp; done) | (simp; omega) | omega) _ | with_reducible refine Below.setCell ?_ (by first | exact Nat.le_refl _ | (simp; done) | (simp; omega) | omega) _ | with_reducible refine Below.trans ?_ (Below.mono (by with_reducible assumption) (by first | exact Nat.le_refl _ | (simp; done) | (simp; omega) | omega))))
  have b00 : W.cell? ⟨w.heap.size, 0, none⟩ = some (.int .i64 x0) := by subst hW; simp [go_sem]
  have b01 : W.cell? ⟨w.heap.size, 1, none⟩ = some (.int .i64 x1) := by subst hW; simp [go_sem]
  have b02 : W.cell? ⟨w.heap.size, 2, none⟩ = some (.int .i64 x2) := by subst hW; simp [go_sem]
  have b03 : W.cell? ⟨w.heap.size, 3, none⟩ = some (.int .i64 x3) := by subst hW; simp [go_sem]
  have b04 : W.cell? ⟨w.heap.size, 4, none⟩ = some (.int .i64 x4) := by subst hW; simp [go_sem]
  have b05 : W.cell? ⟨w.heap.size, 5, none⟩ = some (.int .i64 x5) := by subst hW; simp [go_sem]
  have b06 : W.cell? ⟨w.heap.size, 6, none⟩ = some (.int .i64 x6) := by subst hW; simp [go_sem]
  have b07 : W.cell? ⟨w.heap.size, 7, none⟩ = some (.int .i64 x7) := by subst hW; simp [go_sem]
  have b08 : W.cell? ⟨w.heap.size, 8, none⟩ = some (.slice ma ml.length mcap) := by subst hW; simp [go_sem]
  have L0 : w.heap.size < W.heap.size := by subst hW; first | (simp; done) | (simp; omega)
  have b10 : W.cell? ⟨w.heap.size + 1, 0, none⟩ = some (.slice a l.length cap) := by subst hW; simp [go_sem]
  have L1 : w.heap.size + 1 < W.heap.size := by subst hW; first | (simp; done) | (simp; omega)
  rw [← hW]
  clear hW
  generalize w.heap.size + 1 = B1 at *
  obtain ⟨B0, hB0⟩ : ∃ B, B = w.heap.size := ⟨_, rfl⟩
  rw [← hB0] at b00 b01 b02 b03 b04 b05 b06 b07 b08 L0
  try rw [← hB0]
  replace hB0 := Lib.hid hB0
  have RV := Lib.hid (H0.out.below HD)
  have FV := Lib.hid (FixAt.below HF0.out HD)
  clear H0 HF0
  have hln := sailR_len x0 x1 x2 x3 x4 x5 x6 x7 ml l
  skip
  by_cases e : (sailR x0 x1 x2 x3 x4 x5 x6 x7 ml l).2 = 0
  case neg =>
    have HF := Lib.hid (show finR x0 x1 x2 x3 x4 x5 x6 x7 ml l = (0, (sailR x0 x1 x2 x3 x4 x5 x6 x7 ml l).2) by unfold finR; rw [if_neg e])
    have cc := l06Code_c x0 x1 x2 x3 x4 x5 x6 x7 ma mcap ml a cap l W hml RV.out HS.out hl FV.out
    generalize sailR x0 x1 x2 x3 x4 x5 x6 x7 ml l = R at *
    obtain ⟨S, c⟩ := R
    dsimp only at *
    refine (cc).mono ?_
    rintro e V1 ⟨rfl, hb⟩
    clear cc
    replace HD := HD.trans (hb.mono HD.size)
    obtain ⟨hc, hf⟩ := bcell hb
    have hz := hb.size
    replace b00 := (hc _ 0 L0).trans b00
    replace b01 := (hc _ 1 L0).trans b01
    replace b02 := (hc _ 2 L0).trans b02
    replace b03 := (hc _ 3 L0).trans b03
    replace b04 := (hc _ 4 L0).trans b04
    replace b05 := (hc _ 5 L0).trans b05
    replace b06 := (hc _ 6 L0).trans b06
    replace b07 := (hc _ 7 L0).trans b07
    replace b08 := (hc _ 8 L0).trans b08
    replace b10 := (hc _ 0 L1).trans b10
    replace RV := Lib.hid (RowAt.below RV.out hb)
    replace FV := Lib.hid (FixAt.below FV.out hb)
    replace L0 := Nat.lt_of_lt_of_le L0 hz
    replace L1 := Nat.lt_of_lt_of_le L1 hz
    clear hc hf hz hb
    have e' : (c == 0) = false := by simpa using e
    go_wp2_with fail
    exact bodyPost_ret (v := .tuple #[.int .i64 0, .int .i64 c]) (by simp [results, Tryz.results7, go_sem]) rfl ⟨by rw [HF.out], HD⟩
  case pos =>
    obtain ⟨e1, e2, e3, e4⟩ := sailR_ok e
    have hm8 := (courseOK_true e2).2.2.2.1
    have HG := Lib.hid (show finR x0 x1 x2 x3 x4 x5 x6 x7 ml l = if (sailR x0 x1 x2 x3 x4 x5 x6 x7 ml l).1.length < ml.length + 2 then (0, 4) else ((sailR x0 x1 x2 x3 x4 x5 x6 x7 ml l).1.getD ((sailR x0 x1 x2 x3 x4 x5 x6 x7 ml l).1.length - 1) 0, 0) by unfold finR; rw [if_pos e])
    have cc := l06Code_c x0 x1 x2 x3 x4 x5 x6 x7 ma mcap ml a cap l W hml RV.out HS.out hl FV.out
    rw [e] at cc
    refine (cc).mono ?_
    rintro e V0 ⟨rfl, hb⟩
    clear cc
    replace HD := HD.trans (hb.mono HD.size)
    obtain ⟨hc, hf⟩ := bcell hb
    have hz := hb.size
    replace b00 := (hc _ 0 L0).trans b00
    replace b01 := (hc _ 1 L0).trans b01
    replace b02 := (hc _ 2 L0).trans b02
    replace b03 := (hc _ 3 L0).trans b03
    replace b04 := (hc _ 4 L0).trans b04
    replace b05 := (hc _ 5 L0).trans b05
    replace b06 := (hc _ 6 L0).trans b06
    replace b07 := (hc _ 7 L0).trans b07
    replace b08 := (hc _ 8 L0).trans b08
    replace b10 := (hc _ 0 L1).trans b10
    replace RV := Lib.hid (RowAt.below RV.out hb)
    replace FV := Lib.hid (FixAt.below FV.out hb)
    replace L0 := Nat.lt_of_lt_of_le L0 hz
    replace L1 := Nat.lt_of_lt_of_le L1 hz
    clear hc hf hz hb
    go_wp2_with fail
    have cc := l06Times_c x0 x1 x2 x3 x4 x5 x6 x7 ma mcap ml a cap l V0 RV.out (courseOK_true e2) e3 hl e1 FV.out
    rw [← e4] at cc
    clear e1 e2 e3 e4 e
    generalize (sailR x0 x1 x2 x3 x4 x5 x6 x7 ml l).1 = S at *
    refine (cc).mono ?_
    rintro e V1 ⟨⟨g, sc, rfl, ho⟩, hb⟩
    clear cc
    have SV := Lib.hid (row_ownP ho (nflat_length S))
    clear ho
    replace HD := HD.trans (hb.mono HD.size)
    obtain ⟨hc, hf⟩ := bcell hb
    have hz := hb.size
    replace b00 := (hc _ 0 L0).trans b00
    replace b01 := (hc _ 1 L0).trans b01
    replace b02 := (hc _ 2 L0).trans b02
    replace b03 := (hc _ 3 L0).trans b03
    replace b04 := (hc _ 4 L0).trans b04
    replace b05 := (hc _ 5 L0).trans b05
    replace b06 := (hc _ 6 L0).trans b06
    replace b07 := (hc _ 7 L0).trans b07
    replace b08 := (hc _ 8 L0).trans b08
    replace b10 := (hc _ 0 L1).trans b10
    replace RV := Lib.hid (RowAt.below RV.out hb)
    replace FV := Lib.hid (FixAt.below FV.out hb)
    replace L0 := Nat.lt_of_lt_of_le L0 hz
    replace L1 := Nat.lt_of_lt_of_le L1 hz
    clear hc hf hz hb
    have hw1 : IntKind.i64.wrap ((ml.length : Int) + 2) = (ml.length : Int) + 2 := by rw [IntKind.wrap_i64]; omega
    by_cases h5 : S.length < ml.length + 2
    case pos =>
      have HF := Lib.hid (HG.out.trans (if_pos h5))
      have h6 : (S.length : Int) < (ml.length : Int) + 2 := by omega
      go_wp2_with fail
      exact bodyPost_ret (v := .tuple #[.int .i64 0, .int .i64 4]) (by simp [results, Tryz.results7, go_sem]) rfl ⟨by rw [HF.out], HD⟩
    case neg =>
      have HF := Lib.hid (HG.out.trans (if_neg h5))
      have h6 : ¬ (S.length : Int) < (ml.length : Int) + 2 := by omega
      obtain ⟨b, off, hbo, hlt, c0⟩ := numF_cell SV.out (show S.length - 1 < S.length by omega)
      simp at hbo
      obtain ⟨rfl, rfl⟩ := hbo
      simp only [Nat.zero_add] at c0
      obtain ⟨j, hj⟩ : ∃ j, j = S.length - 1 := ⟨_, rfl⟩
      rw [← hj] at c0 HF
      have hw2 : IntKind.i64.wrap ((S.length : Int) - 1) = (j : Int) := by rw [IntKind.wrap_i64]; omega
      have h7 : (j : Int) < (S.length : Int) := by omega
      replace hj := Lib.hid hj
      generalize S.getD j 0 = x at *
      go_wp2_with fail
      exact bodyPost_ret (v := .tuple #[.int .i64 x, .int .i64 0]) (by simp [results, Tryz.results7, go_sem]) rfl ⟨by rw [HF.out], HD⟩
set_option maxRecDepth 100000 in
set_option maxHeartbeats 4000000 in
theorem ReachedAt_c (x0 x1 x2 x3 x4 x5 x6 x7 : Int) (ma : Option Addr) (mcap : Nat) (ml : List Mk) (a : Option Addr) (cap : Nat) (l : List Fx) (t : Int) (w : World) (hml : ml.length ≤ 4611686018427387904) (h : RowAt w ma (mflat ml)) (hs : ∀ i, i < ml.length → (mk ml i).name.size ≤ maxLen) (hcap : ml.length ≤ mcap) (hl : l.length ≤ 4611686018427387904) (hf : FixAt w a l) :
    Calls Tryz.prog 14 #[.agg #[.int .i64 x0, .int .i64 x1, .int .i64 x2, .int .i64 x3, .int .i64 x4, .int .i64 x5, .int .i64 x6, .int .i64 x7, .slice ma ml.length mcap], .agg #[.slice a l.length cap], .int .i64 t] w fun e w' => e = .returned (.tuple #[.int .i64 (rchR x0 x1 x2 x3 x4 x5 x6 x7 ml l t).1, .int .i64 (rchR x0 x1 x2 x3 x4 x5 x6 x7 ml l t).2]) ∧ Below w.heap.size w w' := by
  have H0 := Lib.hid h
  have HS := Lib.hid hs
  have HF0 := Lib.hid hf
  clear h hs hf
  go_enter Tryz.func14, Tryz.ntmps14
  go_wp2_with fail
  obtain ⟨W, hW⟩ : ∃ W, W = ((w.alloc (.cells #[.int .i64 x0, .int .i64 x1, .int .i64 x2, .int .i64 x3, .int .i64 x4, .int .i64 x5, .int .i64 x6, .int .i64 x7, .slice ma ml.length mcap] 41)).alloc (.cells #[.slice a l.length cap] 45)) := ⟨_, rfl⟩
  have HD : Below w.heap.size w W := by subst hW; exact (by repeat (first | with_reducible exact Below.refl _ _ | with_reducible assumption | with_reducible refine Below.drew ?_ | with_reducible refine Below.alloc ?_ (by first | exact Nat.le_refl _ | (simp; done) | (simp; omega) | omega) _ | with_reducible refine Below.setCell ?_ (by first | exact Nat.le_refl _ | (simp; done) | (simp; omega) | omega) _ | with_reducible refine Below.trans ?_ (Below.mono (by with_reducible assumption) (by first | exact Nat.le_refl _ | (simp; done) | (simp; omega) | omega))))
  have b00 : W.cell? ⟨w.heap.size, 0, none⟩ = some (.int .i64 x0) := by subst hW; simp [go_sem]
  have b01 : W.cell? ⟨w.heap.size, 1, none⟩ = some (.int .i64 x1) := by subst hW; simp [go_sem]
  have b02 : W.cell? ⟨w.heap.size, 2, none⟩ = some (.int .i64 x2) := by subst hW; simp [go_sem]
  have b03 : W.cell? ⟨w.heap.size, 3, none⟩ = some (.int .i64 x3) := by subst hW; simp [go_sem]
  have b04 : W.cell? ⟨w.heap.size, 4, none⟩ = some (.int .i64 x4) := by subst hW; simp [go_sem]
  have b05 : W.cell? ⟨w.heap.size, 5, none⟩ = some (.int .i64 x5) := by subst hW; simp [go_sem]
  have b06 : W.cell? ⟨w.heap.size, 6, none⟩ = some (.int .i64 x6) := by subst hW; simp [go_sem]
  have b07 : W.cell? ⟨w.heap.size, 7, none⟩ = some (.int .i64 x7) := by subst hW; simp [go_sem]
  have b08 : W.cell? ⟨w.heap.size, 8, none⟩ = some (.slice ma ml.length mcap) := by subst hW; simp [go_sem]
  have L0 : w.heap.size < W.heap.size := by subst hW; first | (simp; done) | (simp; omega)
  have b10 : W.cell? ⟨w.heap.size + 1, 0, none⟩ = some (.slice a l.length cap) := by subst hW; simp [go_sem]
  have L1 : w.heap.size + 1 < W.heap.size := by subst hW; first | (simp; done) | (simp; omega)
  rw [← hW]
  clear hW
  generalize w.heap.size + 1 = B1 at *
  obtain ⟨B0, hB0⟩ : ∃ B, B = w.heap.size := ⟨_, rfl⟩
  rw [← hB0] at b00 b01 b02 b03 b04 b05 b06 b07 b08 L0
  try rw [← hB0]
  replace hB0 := Lib.hid hB0
  have RV := Lib.hid (H0.out.below HD)
  have FV := Lib.hid (FixAt.below HF0.out HD)
  clear H0 HF0
  have hln := sailR_len x0 x1 x2 x3 x4 x5 x6 x7 ml l
  have hm9 : (sailR x0 x1 x2 x3 x4 x5 x6 x7 ml l).1.length ≤ 4611686018427387904 + 2 := by omega
  have HF := Lib.hid (show rchR x0 x1 x2 x3 x4 x5 x6 x7 ml l t = ((rch t (sailR x0 x1 x2 x3 x4 x5 x6 x7 ml l).1 : Int), (sailR x0 x1 x2 x3 x4 x5 x6 x7 ml l).2) from rfl)
  have cc := sailed_c x0 x1 x2 x3 x4 x5 x6 x7 ma mcap ml a cap l W hml RV.out HS.out hcap hl FV.out
  have hs9 : (sailR x0 x1 x2 x3 x4 x5 x6 x7 ml l).1.length ≤ 4611686018427387904 := by by_cases e : (sailR x0 x1 x2 x3 x4 x5 x6 x7 ml l).2 = 0; (have := (courseOK_true (sailR_ok e).2.1).2.2.2.1; omega); (rw [sailR_nil e]; simp)
  generalize sailR x0 x1 x2 x3 x4 x5 x6 x7 ml l = R at *
  obtain ⟨S, c⟩ := R
  dsimp only at *
  refine (cc).mono ?_
  rintro e V1 ⟨⟨sa, sc, rfl, ho⟩, hb⟩
  clear cc
  have SV := Lib.hid (row_ownP ho (nflat_length S))
  clear ho
  replace HD := HD.trans (hb.mono HD.size)
  obtain ⟨hc, hf⟩ := bcell hb
  have hz := hb.size
  replace b00 := (hc _ 0 L0).trans b00
  replace b01 := (hc _ 1 L0).trans b01
  replace b02 := (hc _ 2 L0).trans b02
  replace b03 := (hc _ 3 L0).trans b03
  replace b04 := (hc _ 4 L0).trans b04
  replace b05 := (hc _ 5 L0).trans b05
  replace b06 := (hc _ 6 L0).trans b06
  replace b07 := (hc _ 7 L0).trans b07
  replace b08 := (hc _ 8 L0).trans b08
  replace b10 := (hc _ 0 L1).trans b10
  replace RV := Lib.hid (RowAt.below RV.out hb)
  replace FV := Lib.hid (FixAt.below FV.out hb)
  replace L0 := Nat.lt_of_lt_of_le L0 hz
  replace L1 := Nat.lt_of_lt_of_le L1 hz
  clear hc hf hz hb
  go_wp2_with fail
  refine (reachedAt_c sa sc S t V1 hs9 SV.out).mono ?_
  rintro e V2 ⟨rfl, hb⟩
  replace HD := HD.trans (hb.mono HD.size)
  obtain ⟨hc, hf⟩ := bcell hb
  have hz := hb.size
  replace b00 := (hc _ 0 L0).trans b00
  replace b01 := (hc _ 1 L0).trans b01
  replace b02 := (hc _ 2 L0).trans b02
  replace b03 := (hc _ 3 L0).trans b03
  replace b04 := (hc _ 4 L0).trans b04
  replace b05 := (hc _ 5 L0).trans b05
  replace b06 := (hc _ 6 L0).trans b06
  replace b07 := (hc _ 7 L0).trans b07
  replace b08 := (hc _ 8 L0).trans b08
  replace b10 := (hc _ 0 L1).trans b10
  replace RV := Lib.hid (RowAt.below RV.out hb)
  replace FV := Lib.hid (FixAt.below FV.out hb)
  replace SV := Lib.hid (RowAt.below SV.out hb)
  replace L0 := Nat.lt_of_lt_of_le L0 hz
  replace L1 := Nat.lt_of_lt_of_le L1 hz
  clear hc hf hz hb
  go_wp2_with fail
  exact bodyPost_ret (v := .tuple #[.int .i64 (rch t S), .int .i64 c]) (by simp [results, Tryz.results14, go_sem]) rfl ⟨by rw [HF.out], HD⟩
set_option maxRecDepth 100000 in
set_option maxHeartbeats 4000000 in
theorem ReachedAtS_c (x0 x1 x2 x3 x4 x5 x6 x7 : Int) (ma : Option Addr) (mcap : Nat) (ml : List Mk) (a : Option Addr) (cap : Nat) (l : List Fx) (t : Int) (w : World) (hml : ml.length ≤ 4611686018427387904) (h : RowAt w ma (mflat ml)) (hs : ∀ i, i < ml.length → (mk ml i).name.size ≤ maxLen)  (hl : l.length ≤ 4611686018427387904) (hf : FixAt w a l) :
    Calls Tryz.prog 13 #[.agg #[.int .i64 x0, .int .i64 x1, .int .i64 x2, .int .i64 x3, .int .i64 x4, .int .i64 x5, .int .i64 x6, .int .i64 x7, .slice ma ml.length mcap], .agg #[.slice a l.length cap], .int .i64 t] w fun e w' => e = .returned (.tuple #[.int .i64 (rchR x0 x1 x2 x3 x4 x5 x6 x7 ml l t).1, .int .i64 (rchR x0 x1 x2 x3 x4 x5 x6 x7 ml l t).2]) ∧ Below w.heap.size w w' := by
  have H0 := Lib.hid h
  have HS := Lib.hid hs
  have HF0 := Lib.hid hf
  clear h hs hf
  go_enter Tryz.func13, Tryz.ntmps13
  go_wp2_with fail
  obtain ⟨W, hW⟩ : ∃ W, W = ((w.alloc (.cells #[.int .i64 x0, .int .i64 x1, .int .i64 x2, .int .i64 x3, .int .i64 x4, .int .i64 x5, .int .i64 x6, .int .i64 x7, .slice ma ml.length mcap] 41)).alloc (.cells #[.slice a l.length cap] 45)) := ⟨_, rfl⟩
  have HD : Below w.heap.size w W := by subst hW; exact (by repeat (first | with_reducible exact Below.refl _ _ | with_reducible assumption | with_reducible refine Below.drew ?_ | with_reducible refine Below.alloc ?_ (by first | exact Nat.le_refl _ | (simp; done) | (simp; omega) | omega) _ | with_reducible refine Below.setCell ?_ (by first | exact Nat.le_refl _ | (simp; done) | (simp; omega) | omega) _ | with_reducible refine Below.trans ?_ (Below.mono (by with_reducible assumption) (by first | exact Nat.le_refl _ | (simp; done) | (simp; omega) | omega))))
  have b00 : W.cell? ⟨w.heap.size, 0, none⟩ = some (.int .i64 x0) := by subst hW; simp [go_sem]
  have b01 : W.cell? ⟨w.heap.size, 1, none⟩ = some (.int .i64 x1) := by subst hW; simp [go_sem]
  have b02 : W.cell? ⟨w.heap.size, 2, none⟩ = some (.int .i64 x2) := by subst hW; simp [go_sem]
  have b03 : W.cell? ⟨w.heap.size, 3, none⟩ = some (.int .i64 x3) := by subst hW; simp [go_sem]
  have b04 : W.cell? ⟨w.heap.size, 4, none⟩ = some (.int .i64 x4) := by subst hW; simp [go_sem]
  have b05 : W.cell? ⟨w.heap.size, 5, none⟩ = some (.int .i64 x5) := by subst hW; simp [go_sem]
  have b06 : W.cell? ⟨w.heap.size, 6, none⟩ = some (.int .i64 x6) := by subst hW; simp [go_sem]
  have b07 : W.cell? ⟨w.heap.size, 7, none⟩ = some (.int .i64 x7) := by subst hW; simp [go_sem]
  have b08 : W.cell? ⟨w.heap.size, 8, none⟩ = some (.slice ma ml.length mcap) := by subst hW; simp [go_sem]
  have L0 : w.heap.size < W.heap.size := by subst hW; first | (simp; done) | (simp; omega)
  have b10 : W.cell? ⟨w.heap.size + 1, 0, none⟩ = some (.slice a l.length cap) := by subst hW; simp [go_sem]
  have L1 : w.heap.size + 1 < W.heap.size := by subst hW; first | (simp; done) | (simp; omega)
  rw [← hW]
  clear hW
  generalize w.heap.size + 1 = B1 at *
  obtain ⟨B0, hB0⟩ : ∃ B, B = w.heap.size := ⟨_, rfl⟩
  rw [← hB0] at b00 b01 b02 b03 b04 b05 b06 b07 b08 L0
  try rw [← hB0]
  replace hB0 := Lib.hid hB0
  have RV := Lib.hid (H0.out.below HD)
  have FV := Lib.hid (FixAt.below HF0.out HD)
  clear H0 HF0
  have hln := sailR_len x0 x1 x2 x3 x4 x5 x6 x7 ml l
  have hm9 : (sailR x0 x1 x2 x3 x4 x5 x6 x7 ml l).1.length ≤ 4611686018427387904 + 2 := by omega
  by_cases e : (sailR x0 x1 x2 x3 x4 x5 x6 x7 ml l).2 = 0
  case neg =>
    have HF := Lib.hid (rchR_no t e)
    have cc := l06Code_c x0 x1 x2 x3 x4 x5 x6 x7 ma mcap ml a cap l W hml RV.out HS.out hl FV.out
    generalize sailR x0 x1 x2 x3 x4 x5 x6 x7 ml l = R at *
    obtain ⟨S, c⟩ := R
    dsimp only at *
    refine (cc).mono ?_
    rintro e V1 ⟨rfl, hb⟩
    clear cc
    replace HD := HD.trans (hb.mono HD.size)
    obtain ⟨hc, hf⟩ := bcell hb
    have hz := hb.size
    replace b00 := (hc _ 0 L0).trans b00
    replace b01 := (hc _ 1 L0).trans b01
    replace b02 := (hc _ 2 L0).trans b02
    replace b03 := (hc _ 3 L0).trans b03
    replace b04 := (hc _ 4 L0).trans b04
    replace b05 := (hc _ 5 L0).trans b05
    replace b06 := (hc _ 6 L0).trans b06
    replace b07 := (hc _ 7 L0).trans b07
    replace b08 := (hc _ 8 L0).trans b08
    replace b10 := (hc _ 0 L1).trans b10
    replace RV := Lib.hid (RowAt.below RV.out hb)
    replace FV := Lib.hid (FixAt.below FV.out hb)
    replace L0 := Nat.lt_of_lt_of_le L0 hz
    replace L1 := Nat.lt_of_lt_of_le L1 hz
    clear hc hf hz hb
    have e' : (c == 0) = false := by simpa using e
    go_wp2_with fail
    exact bodyPost_ret (v := .tuple #[.int .i64 0, .int .i64 c]) (by simp [results, Tryz.results13, go_sem]) rfl ⟨by rw [HF.out], HD⟩
  case pos =>
    obtain ⟨e1, e2, e3, e4⟩ := sailR_ok e
    have hm8 := (courseOK_true e2).2.2.2.1
    have HF := Lib.hid (show rchR x0 x1 x2 x3 x4 x5 x6 x7 ml l t = ((cnt t (sailR x0 x1 x2 x3 x4 x5 x6 x7 ml l).1 : Int), 0) by unfold rchR; rw [e, e4, acr_cnt])
    have cc := l06Code_c x0 x1 x2 x3 x4 x5 x6 x7 ma mcap ml a cap l W hml RV.out HS.out hl FV.out
    rw [e] at cc
    refine (cc).mono ?_
    rintro e V0 ⟨rfl, hb⟩
    clear cc
    replace HD := HD.trans (hb.mono HD.size)
    obtain ⟨hc, hf⟩ := bcell hb
    have hz := hb.size
    replace b00 := (hc _ 0 L0).trans b00
    replace b01 := (hc _ 1 L0).trans b01
    replace b02 := (hc _ 2 L0).trans b02
    replace b03 := (hc _ 3 L0).trans b03
    replace b04 := (hc _ 4 L0).trans b04
    replace b05 := (hc _ 5 L0).trans b05
    replace b06 := (hc _ 6 L0).trans b06
    replace b07 := (hc _ 7 L0).trans b07
    replace b08 := (hc _ 8 L0).trans b08
    replace b10 := (hc _ 0 L1).trans b10
    replace RV := Lib.hid (RowAt.below RV.out hb)
    replace FV := Lib.hid (FixAt.below FV.out hb)
    replace L0 := Nat.lt_of_lt_of_le L0 hz
    replace L1 := Nat.lt_of_lt_of_le L1 hz
    clear hc hf hz hb
    go_wp2_with fail
    have cc := l06Times_c x0 x1 x2 x3 x4 x5 x6 x7 ma mcap ml a cap l V0 RV.out (courseOK_true e2) e3 hl e1 FV.out
    rw [← e4] at cc
    clear e1 e2 e3 e4 e
    generalize (sailR x0 x1 x2 x3 x4 x5 x6 x7 ml l).1 = S at *
    have hs9 : S.length ≤ 4611686018427387904 := by omega
    refine (cc).mono ?_
    rintro e V1 ⟨⟨g, sc, rfl, ho⟩, hb⟩
    clear cc
    have SV := Lib.hid (row_ownP ho (nflat_length S))
    clear ho
    replace HD := HD.trans (hb.mono HD.size)
    obtain ⟨hc, hf⟩ := bcell hb
    have hz := hb.size
    replace b00 := (hc _ 0 L0).trans b00
    replace b01 := (hc _ 1 L0).trans b01
    replace b02 := (hc _ 2 L0).trans b02
    replace b03 := (hc _ 3 L0).trans b03
    replace b04 := (hc _ 4 L0).trans b04
    replace b05 := (hc _ 5 L0).trans b05
    replace b06 := (hc _ 6 L0).trans b06
    replace b07 := (hc _ 7 L0).trans b07
    replace b08 := (hc _ 8 L0).trans b08
    replace b10 := (hc _ 0 L1).trans b10
    replace RV := Lib.hid (RowAt.below RV.out hb)
    replace FV := Lib.hid (FixAt.below FV.out hb)
    replace L0 := Nat.lt_of_lt_of_le L0 hz
    replace L1 := Nat.lt_of_lt_of_le L1 hz
    clear hc hf hz hb
    go_wp2_with fail
    refine (l06Reached_c (some ⟨g, 0, none⟩) sc S t V1 hs9 SV.out).mono ?_
    rintro e V2 ⟨rfl, hb⟩
    replace HD := HD.trans (hb.mono HD.size)
    obtain ⟨hc, hf⟩ := bcell hb
    have hz := hb.size
    replace b00 := (hc _ 0 L0).trans b00
    replace b01 := (hc _ 1 L0).trans b01
    replace b02 := (hc _ 2 L0).trans b02
    replace b03 := (hc _ 3 L0).trans b03
    replace b04 := (hc _ 4 L0).trans b04
    replace b05 := (hc _ 5 L0).trans b05
    replace b06 := (hc _ 6 L0).trans b06
    replace b07 := (hc _ 7 L0).trans b07
    replace b08 := (hc _ 8 L0).trans b08
    replace b10 := (hc _ 0 L1).trans b10
    replace RV := Lib.hid (RowAt.below RV.out hb)
    replace FV := Lib.hid (FixAt.below FV.out hb)
    replace SV := Lib.hid (RowAt.below SV.out hb)
    replace L0 := Nat.lt_of_lt_of_le L0 hz
    replace L1 := Nat.lt_of_lt_of_le L1 hz
    clear hc hf hz hb
    go_wp2_with fail
    exact bodyPost_ret (v := .tuple #[.int .i64 (cnt t S), .int .i64 0]) (by simp [results, Tryz.results13, go_sem]) rfl ⟨by rw [HF.out], HD⟩
end
end Go.Proofs.YthgngpmeaobidaaGreatDoor
