/-
  The stations of a course, both sides. Conditions: where its marks lie.
-/
import Derived.Test.YtbeigoejdckpiaaDoorCrsK
namespace Go.Proofs.YtbeigoejdckpiaaDoor
set_option linter.unusedVariables false
open Go.RowKit Go.Deep

noncomputable def stnR (x0 x1 x2 x3 x4 x5 x6 x7 : Int) (l : List Mk) : List (Int × Int) × Int := if courseOK x0 x1 x2 x3 x4 x5 x6 x7 l = true then (stn x0 x1 x2 x3 x4 x5 x6 x7 l, 0) else ([], 1)
theorem stnR_len (x0 x1 x2 x3 x4 x5 x6 x7 : Int) (l : List Mk) : (stnR x0 x1 x2 x3 x4 x5 x6 x7 l).1.length ≤ 10 := by
  unfold stnR
  split
  · rename_i h
    have := (courseOK_true h).2.2.2.1
    rw [stn_len]
    omega
  · exact Nat.zero_le _
theorem row_ownP {w : World} {a : Option Addr} {base n cap size : Nat} {e : TypeId} {xs : List Value} (h : w.ownsRow base e size (.slice a n cap) n xs) (hs : xs.length = n * size) : RowAt w a xs := fun i v hv => by
  have hi : i < n * size := by rw [← hs]; exact (List.getElem?_eq_some_iff.1 hv).1
  have hn : 0 < n := by rcases Nat.eq_zero_or_pos n with h' | h'; subst h'; omega; exact h'
  obtain ⟨g, rfl, h1, h2⟩ := own_some h hn
  exact ⟨g, 0, rfl, h2, by rw [Nat.zero_add]; exact (h.cellAt i hi).trans hv⟩
theorem own_keptP {w w' : World} {base size n : Nat} {e : TypeId} {v : Value} {xs : List Value} {row : Option Nat} (h : w.ownsRow base e size v n xs) (hg : w.grownBy w' row) (hne : ∀ k, v.ownBlock = some k → row ≠ some k) : w'.ownsRow base e size v n xs := by
  refine h.kept hg ?_
  cases hv : v.ownBlock with
  | none => exact .inl rfl
  | some k => exact .inr fun e => hne k hv e.symm
set_option maxRecDepth 100000 in
set_option maxHeartbeats 2000000 in
theorem StationsOf_c (x0 x1 x2 x3 x4 x5 x6 x7 : Int) (a : Option Addr) (cap : Nat) (l : List Mk) (w : World) (hl : l.length ≤ 4611686018427387904) (h : RowAt w a (mflat l)) (hs : ∀ i, i < l.length → (mk l i).name.size ≤ maxLen) (hcap : l.length ≤ cap) :
    Calls Tryd.prog 25 #[.agg #[.int .i64 x0, .int .i64 x1, .int .i64 x2, .int .i64 x3, .int .i64 x4, .int .i64 x5, .int .i64 x6, .int .i64 x7, .slice a l.length cap]] w fun e w' => (∃ (a' : Option Addr) (cap' : Nat), e = .returned (.tuple #[.slice a' (stnR x0 x1 x2 x3 x4 x5 x6 x7 l).1.length cap', .int .i64 (stnR x0 x1 x2 x3 x4 x5 x6 x7 l).2]) ∧ w'.ownsRow w.heap.size 31 2 (.slice a' (stnR x0 x1 x2 x3 x4 x5 x6 x7 l).1.length cap') (stnR x0 x1 x2 x3 x4 x5 x6 x7 l).1.length (pflat (stnR x0 x1 x2 x3 x4 x5 x6 x7 l).1)) ∧ Below w.heap.size w w' := by
  have H0 := Lib.hid h
  have HS := Lib.hid hs
  clear h hs
  go_enter Tryd.func25, Tryd.ntmps25
  go_wp2_with fail
  obtain ⟨W, hW⟩ : ∃ W, W = (w.alloc (.cells #[.int .i64 x0, .int .i64 x1, .int .i64 x2, .int .i64 x3, .int .i64 x4, .int .i64 x5, .int .i64 x6, .int .i64 x7, .slice a l.length cap] 36)) := ⟨_, rfl⟩
  have HD : Below w.heap.size w W := by subst hW; exact (by repeat (first | with_reducible exact Below.refl _ _ | with_reducible assumption | with_reducible refine Below.drew ?_ | with_reducible refine Below.alloc ?_ (by first | exact Nat.le_refl _ | (simp; done) | (simp; omega) | omega) _ | with_reducible refine Below.setCell ?_ (by first | exact Nat.le_refl _ | (simp; done) | (simp; omega) | omega) _ | with_reducible refine Below.trans ?_ (Below.mono (by with_reducible assumption) (by first | exact Nat.le_refl _ | (simp; done) | (simp; omega) | omega))))
  have b00 : W.cell? ⟨w.heap.size, 0, none⟩ = some (.int .i64 x0) := by subst hW; simp [go_sem]
  have b01 : W.cell? ⟨w.heap.size, 1, none⟩ = some (.int .i64 x1) := by subst hW; simp [go_sem]
  have b02 : W.cell? ⟨w.heap.size, 2, none⟩ = some (.int .i64 x2) := by subst hW; simp [go_sem]
  have b03 : W.cell? ⟨w.heap.size, 3, none⟩ = some (.int .i64 x3) := by subst hW; simp [go_sem]
  have b04 : W.cell? ⟨w.heap.size, 4, none⟩ = some (.int .i64 x4) := by subst hW; simp [go_sem]
  have b05 : W.cell? ⟨w.heap.size, 5, none⟩ = some (.int .i64 x5) := by subst hW; simp [go_sem]
  have b06 : W.cell? ⟨w.heap.size, 6, none⟩ = some (.int .i64 x6) := by subst hW; simp [go_sem]
  have b07 : W.cell? ⟨w.heap.size, 7, none⟩ = some (.int .i64 x7) := by subst hW; simp [go_sem]
  have b08 : W.cell? ⟨w.heap.size, 8, none⟩ = some (.slice a l.length cap) := by subst hW; simp [go_sem]
  have L0 : w.heap.size < W.heap.size := by subst hW; first | (simp; done) | (simp; omega)
  rw [← hW]
  clear hW
  obtain ⟨B0, hB0⟩ : ∃ B, B = w.heap.size := ⟨_, rfl⟩
  rw [← hB0] at b00 b01 b02 b03 b04 b05 b06 b07 b08 L0
  try rw [← hB0]
  replace hB0 := Lib.hid hB0
  have FV := Lib.hid (H0.out.below HD)
  clear H0
  cases e : courseOK x0 x1 x2 x3 x4 x5 x6 x7 l
  case false =>
    have HF := Lib.hid (show stnR x0 x1 x2 x3 x4 x5 x6 x7 l = ([], 1) by unfold stnR; rw [if_neg (by rw [e]; decide)])
    have cc := IsCourse_c x0 x1 x2 x3 x4 x5 x6 x7 a cap l W hl FV.out HS.out hcap
    rw [e] at cc
    clear e
    refine (cc).mono ?_
    rintro e V1 ⟨rfl, hb⟩
    clear cc
    replace HD := HD.trans (hb.mono HD.size)
    obtain ⟨hc, hf⟩ := bcell hb
    have hz := hb.size
    replace b00 := (hc _ 0 L0).trans b00
    replace b01 := (hc _ 1 L0).trans b01
    replace b02 := (hc _ 2 L0).trans b02
    replace b03 := (hc _ 3 L0).trans b03
    replace b04 := (hc _ 4 L0).trans b04
    replace b05 := (hc _ 5 L0).trans b05
    replace b06 := (hc _ 6 L0).trans b06
    replace b07 := (hc _ 7 L0).trans b07
    replace b08 := (hc _ 8 L0).trans b08
    replace FV := Lib.hid (RowAt.below FV.out hb)
    replace L0 := Nat.lt_of_lt_of_le L0 hz
    clear hc hf hz hb
    go_wp2_with fail
    exact bodyPost_ret (v := .tuple #[.slice none 0 0, .int .i64 1]) (by simp [results, Tryd.results25, go_sem]) rfl ⟨⟨none, 0, by rw [HF.out]; rfl, by rw [HF.out]; exact World.ownsRow_nil _ _ _ _⟩, HD⟩
  case true =>
    have HF := Lib.hid (show stnR x0 x1 x2 x3 x4 x5 x6 x7 l = (stn x0 x1 x2 x3 x4 x5 x6 x7 l, 0) by unfold stnR; rw [if_pos e])
    obtain ⟨hg1, hg2, _, hl8, _⟩ := courseOK_true e
    obtain ⟨sA, sB, _⟩ := isSeg_true hg1
    obtain ⟨sC, sD, _⟩ := isSeg_true hg2
    have cc := IsCourse_c x0 x1 x2 x3 x4 x5 x6 x7 a cap l W hl FV.out HS.out hcap
    rw [e] at cc
    clear e hg1 hg2
    refine (cc).mono ?_
    rintro e V1 ⟨rfl, hb⟩
    clear cc
    replace HD := HD.trans (hb.mono HD.size)
    obtain ⟨hc, hf⟩ := bcell hb
    have hz := hb.size
    replace b00 := (hc _ 0 L0).trans b00
    replace b01 := (hc _ 1 L0).trans b01
    replace b02 := (hc _ 2 L0).trans b02
    replace b03 := (hc _ 3 L0).trans b03
    replace b04 := (hc _ 4 L0).trans b04
    replace b05 := (hc _ 5 L0).trans b05
    replace b06 := (hc _ 6 L0).trans b06
    replace b07 := (hc _ 7 L0).trans b07
    replace b08 := (hc _ 8 L0).trans b08
    replace FV := Lib.hid (RowAt.below FV.out hb)
    replace L0 := Nat.lt_of_lt_of_le L0 hz
    clear hc hf hz hb
    go_wp2_with fail
    refine (stationsOf_c x0 x1 x2 x3 x4 x5 x6 x7 a cap l V1 hl8 FV.out sA sB sC sD).mono ?_
    rintro e V2 ⟨⟨g, cp, rfl, ho⟩, hb⟩
    have ho2 := Lib.hid (pown_mono ho HD.size)
    clear ho
    replace HD := HD.trans (hb.mono HD.size)
    obtain ⟨hc, hf⟩ := bcell hb
    have hz := hb.size
    replace b00 := (hc _ 0 L0).trans b00
    replace b01 := (hc _ 1 L0).trans b01
    replace b02 := (hc _ 2 L0).trans b02
    replace b03 := (hc _ 3 L0).trans b03
    replace b04 := (hc _ 4 L0).trans b04
    replace b05 := (hc _ 5 L0).trans b05
    replace b06 := (hc _ 6 L0).trans b06
    replace b07 := (hc _ 7 L0).trans b07
    replace b08 := (hc _ 8 L0).trans b08
    replace FV := Lib.hid (RowAt.below FV.out hb)
    replace L0 := Nat.lt_of_lt_of_le L0 hz
    clear hc hf hz hb
    have hsl := stn_len x0 x1 x2 x3 x4 x5 x6 x7 l
    generalize stn x0 x1 x2 x3 x4 x5 x6 x7 l = L at *
    rw [← hsl] at ho2
    have e2 : (.slice (some ⟨g, 0, none⟩) (l.length + 2) cp : Value) = .slice (some ⟨g, 0, none⟩) L.length cp := by rw [hsl]
    replace e2 := Lib.hid e2
    clear hsl
    go_wp2_with fail
    exact bodyPost_ret (v := .tuple #[.slice (some ⟨g, 0, none⟩) (l.length + 2) cp, .int .i64 0]) (by simp [results, Tryd.results25, go_sem]) rfl ⟨⟨some ⟨g, 0, none⟩, cp, by rw [HF.out, e2.out], by rw [HF.out]; exact ho2.out⟩, HD⟩
set_option maxRecDepth 100000 in
set_option maxHeartbeats 2000000 in
theorem StationsOfS_c (x0 x1 x2 x3 x4 x5 x6 x7 : Int) (a : Option Addr) (cap : Nat) (l : List Mk) (w : World) (hl : l.length ≤ 4611686018427387904) (h : RowAt w a (mflat l)) (hs : ∀ i, i < l.length → (mk l i).name.size ≤ maxLen)  :
    Calls Tryd.prog 24 #[.agg #[.int .i64 x0, .int .i64 x1, .int .i64 x2, .int .i64 x3, .int .i64 x4, .int .i64 x5, .int .i64 x6, .int .i64 x7, .slice a l.length cap]] w fun e w' => (∃ (a' : Option Addr) (cap' : Nat), e = .returned (.tuple #[.slice a' (stnR x0 x1 x2 x3 x4 x5 x6 x7 l).1.length cap', .int .i64 (stnR x0 x1 x2 x3 x4 x5 x6 x7 l).2]) ∧ w'.ownsRow w.heap.size 31 2 (.slice a' (stnR x0 x1 x2 x3 x4 x5 x6 x7 l).1.length cap') (stnR x0 x1 x2 x3 x4 x5 x6 x7 l).1.length (pflat (stnR x0 x1 x2 x3 x4 x5 x6 x7 l).1)) ∧ Below w.heap.size w w' := by
  have H0 := Lib.hid h
  have HS := Lib.hid hs
  clear h hs
  go_enter Tryd.func24, Tryd.ntmps24
  go_wp2_with fail
  obtain ⟨W, hW⟩ : ∃ W, W = (w.alloc (.cells #[.int .i64 x0, .int .i64 x1, .int .i64 x2, .int .i64 x3, .int .i64 x4, .int .i64 x5, .int .i64 x6, .int .i64 x7, .slice a l.length cap] 36)) := ⟨_, rfl⟩
  have HD : Below w.heap.size w W := by subst hW; exact (by repeat (first | with_reducible exact Below.refl _ _ | with_reducible assumption | with_reducible refine Below.drew ?_ | with_reducible refine Below.alloc ?_ (by first | exact Nat.le_refl _ | (simp; done) | (simp; omega) | omega) _ | with_reducible refine Below.setCell ?_ (by first | exact Nat.le_refl _ | (simp; done) | (simp; omega) | omega) _ | with_reducible refine Below.trans ?_ (Below.mono (by with_reducible assumption) (by first | exact Nat.le_refl _ | (simp; done) | (simp; omega) | omega))))
  have b00 : W.cell? ⟨w.heap.size, 0, none⟩ = some (.int .i64 x0) := by subst hW; simp [go_sem]
  have b01 : W.cell? ⟨w.heap.size, 1, none⟩ = some (.int .i64 x1) := by subst hW; simp [go_sem]
  have b02 : W.cell? ⟨w.heap.size, 2, none⟩ = some (.int .i64 x2) := by subst hW; simp [go_sem]
  have b03 : W.cell? ⟨w.heap.size, 3, none⟩ = some (.int .i64 x3) := by subst hW; simp [go_sem]
  have b04 : W.cell? ⟨w.heap.size, 4, none⟩ = some (.int .i64 x4) := by subst hW; simp [go_sem]
  have b05 : W.cell? ⟨w.heap.size, 5, none⟩ = some (.int .i64 x5) := by subst hW; simp [go_sem]
  have b06 : W.cell? ⟨w.heap.size, 6, none⟩ = some (.int .i64 x6) := by subst hW; simp [go_sem]
  have b07 : W.cell? ⟨w.heap.size, 7, none⟩ = some (.int .i64 x7) := by subst hW; simp [go_sem]
  have b08 : W.cell? ⟨w.heap.size, 8, none⟩ = some (.slice a l.length cap) := by subst hW; simp [go_sem]
  have L0 : w.heap.size < W.heap.size := by subst hW; first | (simp; done) | (simp; omega)
  rw [← hW]
  clear hW
  obtain ⟨B0, hB0⟩ : ∃ B, B = w.heap.size := ⟨_, rfl⟩
  rw [← hB0] at b00 b01 b02 b03 b04 b05 b06 b07 b08 L0
  try rw [← hB0]
  replace hB0 := Lib.hid hB0
  have FV := Lib.hid (H0.out.below HD)
  clear H0
  cases e : courseOK x0 x1 x2 x3 x4 x5 x6 x7 l
  case false =>
    have HF := Lib.hid (show stnR x0 x1 x2 x3 x4 x5 x6 x7 l = ([], 1) by unfold stnR; rw [if_neg (by rw [e]; decide)])
    have cc := IsCourseS_c x0 x1 x2 x3 x4 x5 x6 x7 a cap l W hl FV.out HS.out
    rw [e] at cc
    clear e
    refine (cc).mono ?_
    rintro e V1 ⟨rfl, hb⟩
    clear cc
    replace HD := HD.trans (hb.mono HD.size)
    obtain ⟨hc, hf⟩ := bcell hb
    have hz := hb.size
    replace b00 := (hc _ 0 L0).trans b00
    replace b01 := (hc _ 1 L0).trans b01
    replace b02 := (hc _ 2 L0).trans b02
    replace b03 := (hc _ 3 L0).trans b03
    replace b04 := (hc _ 4 L0).trans b04
    replace b05 := (hc _ 5 L0).trans b05
    replace b06 := (hc _ 6 L0).trans b06
    replace b07 := (hc _ 7 L0).trans b07
    replace b08 := (hc _ 8 L0).trans b08
    replace FV := Lib.hid (RowAt.below FV.out hb)
    replace L0 := Nat.lt_of_lt_of_le L0 hz
    clear hc hf hz hb
    go_wp2_with fail
    exact bodyPost_ret (v := .tuple #[.slice (some ⟨V1.heap.size, 0, none⟩) 0 0, .int .i64 1]) (by simp [results, Tryd.results24, go_sem]) rfl ⟨⟨some ⟨V1.heap.size, 0, none⟩, 0, by rw [HF.out]; rfl, by rw [HF.out]; exact pown_mono (World.ownsRow_lit V1 #[] 0 (Nat.le_refl _) (by unfold maxLen; omega) rfl) HD.size⟩, HD.alloc HD.size _⟩
  case true =>
    have HF := Lib.hid (show stnR x0 x1 x2 x3 x4 x5 x6 x7 l = (stn x0 x1 x2 x3 x4 x5 x6 x7 l, 0) by unfold stnR; rw [if_pos e])
    obtain ⟨hg1, hg2, _, hl8, _⟩ := courseOK_true e
    obtain ⟨sA, sB, _⟩ := isSeg_true hg1
    obtain ⟨sC, sD, _⟩ := isSeg_true hg2
    have cc := IsCourseS_c x0 x1 x2 x3 x4 x5 x6 x7 a cap l W hl FV.out HS.out
    rw [e] at cc
    clear e hg1 hg2
    refine (cc).mono ?_
    rintro e V1 ⟨rfl, hb⟩
    clear cc
    replace HD := HD.trans (hb.mono HD.size)
    obtain ⟨hc, hf⟩ := bcell hb
    have hz := hb.size
    replace b00 := (hc _ 0 L0).trans b00
    replace b01 := (hc _ 1 L0).trans b01
    replace b02 := (hc _ 2 L0).trans b02
    replace b03 := (hc _ 3 L0).trans b03
    replace b04 := (hc _ 4 L0).trans b04
    replace b05 := (hc _ 5 L0).trans b05
    replace b06 := (hc _ 6 L0).trans b06
    replace b07 := (hc _ 7 L0).trans b07
    replace b08 := (hc _ 8 L0).trans b08
    replace FV := Lib.hid (RowAt.below FV.out hb)
    replace L0 := Nat.lt_of_lt_of_le L0 hz
    clear hc hf hz hb
    go_wp2_with fail
    refine (l04Stations_c x0 x1 x2 x3 x4 x5 x6 x7 a cap l V1 hl8 FV.out sA sB sC sD).mono ?_
    rintro e V2 ⟨⟨g, cp, rfl, ho⟩, hb⟩
    have ho2 := Lib.hid (pown_mono ho HD.size)
    clear ho
    replace HD := HD.trans (hb.mono HD.size)
    obtain ⟨hc, hf⟩ := bcell hb
    have hz := hb.size
    replace b00 := (hc _ 0 L0).trans b00
    replace b01 := (hc _ 1 L0).trans b01
    replace b02 := (hc _ 2 L0).trans b02
    replace b03 := (hc _ 3 L0).trans b03
    replace b04 := (hc _ 4 L0).trans b04
    replace b05 := (hc _ 5 L0).trans b05
    replace b06 := (hc _ 6 L0).trans b06
    replace b07 := (hc _ 7 L0).trans b07
    replace b08 := (hc _ 8 L0).trans b08
    replace FV := Lib.hid (RowAt.below FV.out hb)
    replace L0 := Nat.lt_of_lt_of_le L0 hz
    clear hc hf hz hb
    have hsl := stn_len x0 x1 x2 x3 x4 x5 x6 x7 l
    generalize stn x0 x1 x2 x3 x4 x5 x6 x7 l = L at *
    rw [← hsl] at ho2
    have e2 : (.slice (some ⟨g, 0, none⟩) (l.length + 2) cp : Value) = .slice (some ⟨g, 0, none⟩) L.length cp := by rw [hsl]
    replace e2 := Lib.hid e2
    clear hsl
    go_wp2_with fail
    exact bodyPost_ret (v := .tuple #[.slice (some ⟨g, 0, none⟩) (l.length + 2) cp, .int .i64 0]) (by simp [results, Tryd.results24, go_sem]) rfl ⟨⟨some ⟨g, 0, none⟩, cp, by rw [HF.out, e2.out], by rw [HF.out]; exact ho2.out⟩, HD⟩
end Go.Proofs.YtbeigoejdckpiaaDoor
