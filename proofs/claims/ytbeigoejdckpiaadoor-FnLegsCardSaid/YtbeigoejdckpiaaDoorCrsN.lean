/-
  The lengths of a course's legs, both sides. Conditions: where its marks lie.
-/
import Derived.Test.YtbeigoejdckpiaaDoorCrsM
import Derived.Deep.AppendLies
namespace Go.Proofs.YtbeigoejdckpiaaDoor
set_option linter.unusedVariables false
open Go.RowKit Go.Deep

set_option maxRecDepth 100000 in
set_option maxHeartbeats 4000000 in
theorem LegLengths_c (x0 x1 x2 x3 x4 x5 x6 x7 : Int) (a : Option Addr) (cap : Nat) (l : List Mk) (w : World) (hl : l.length ≤ 4611686018427387904) (h : RowAt w a (mflat l)) (hs : ∀ i, i < l.length → (mk l i).name.size ≤ maxLen) (hcap : l.length ≤ cap) :
    Calls Tryd.prog 33 #[.agg #[.int .i64 x0, .int .i64 x1, .int .i64 x2, .int .i64 x3, .int .i64 x4, .int .i64 x5, .int .i64 x6, .int .i64 x7, .slice a l.length cap]] w fun e w' => (∃ (a' : Option Addr) (cap' : Nat), e = .returned (.tuple #[.slice a' (llR x0 x1 x2 x3 x4 x5 x6 x7 l).1.length cap', .int .i64 (llR x0 x1 x2 x3 x4 x5 x6 x7 l).2]) ∧ w'.ownsRow w.heap.size 2 1 (.slice a' (llR x0 x1 x2 x3 x4 x5 x6 x7 l).1.length cap') (llR x0 x1 x2 x3 x4 x5 x6 x7 l).1.length (nflat (llR x0 x1 x2 x3 x4 x5 x6 x7 l).1)) ∧ Below w.heap.size w w' := by
  obtain ⟨i0, hi, ti0, ti1, ti2⟩ := info_parts infoI
  have H0 := Lib.hid h
  have HS := Lib.hid hs
  clear h hs
  go_enter Tryd.func33, Tryd.ntmps33
  go_wp2_with fail
  obtain ⟨W, hW⟩ : ∃ W, W = (w.alloc (.cells #[.int .i64 x0, .int .i64 x1, .int .i64 x2, .int .i64 x3, .int .i64 x4, .int .i64 x5, .int .i64 x6, .int .i64 x7, .slice a l.length cap] 36)) := ⟨_, rfl⟩
  have HD : Below w.heap.size w W := by subst hW; exact (by repeat (first | with_reducible exact Below.refl _ _ | with_reducible assumption | with_reducible refine Below.drew ?_ | with_reducible refine Below.alloc ?_ (by first | exact Nat.le_refl _ | (simp; done) | (simp; omega) | omega) _ | with_reducible refine Below.setCell ?_ (by first | exact Nat.le_refl _ | (simp; done) | (simp; omega) | omega) _ | with_reducible refine Below.trans ?_ (Below.mono (by with_reducible assumption) (by first | exact Nat.le_refl _ | (simp; done) | (simp; omega) | omega))))
  have b00 : W.cell? ⟨w.heap.size, 0, none⟩ = some (.int .i64 x0) := by subst hW; simp [go_sem]
  have b01 : W.cell? ⟨w.heap.size, 1, none⟩ = some (.int .i64 x1) := by subst hW; simp [go_sem]
  have b02 : W.cell? ⟨w.heap.size, 2, none⟩ = some (.int .i64 x2) := by subst hW; simp [go_sem]
  have b03 : W.cell? ⟨w.heap.size, 3, none⟩ = some (.int .i64 x3) := by subst hW; simp [go_sem]
  have b04 : W.cell? ⟨w.heap.size, 4, none⟩ = some (.int .i64 x4) := by subst hW; simp [go_sem]
  have b05 : W.cell? ⟨w.heap.size, 5, none⟩ = some (.int .i64 x5) := by subst hW; simp [go_sem]
  have b06 : W.cell? ⟨w.heap.size, 6, none⟩ = some (.int .i64 x6) := by subst hW; simp [go_sem]
  have b07 : W.cell? ⟨w.heap.size, 7, none⟩ = some (.int .i64 x7) := by subst hW; simp [go_sem]
  have b08 : W.cell? ⟨w.heap.size, 8, none⟩ = some (.slice a l.length cap) := by subst hW; simp [go_sem]
  have L0 : w.heap.size < W.heap.size := by subst hW; first | (simp; done) | (simp; omega)
  rw [← hW]
  clear hW
  obtain ⟨B0, hB0⟩ : ∃ B, B = w.heap.size := ⟨_, rfl⟩
  rw [← hB0] at b00 b01 b02 b03 b04 b05 b06 b07 b08 L0
  try rw [← hB0]
  replace hB0 := Lib.hid hB0
  have FV := Lib.hid (H0.out.below HD)
  clear H0
  cases e : courseOK x0 x1 x2 x3 x4 x5 x6 x7 l
  case false =>
    have HF := Lib.hid (show llR x0 x1 x2 x3 x4 x5 x6 x7 l = ([], 1) by unfold llR; rw [if_neg (by rw [e]; decide)])
    have cc := IsCourse_c x0 x1 x2 x3 x4 x5 x6 x7 a cap l W hl FV.out HS.out hcap
    rw [e] at cc
    clear e
    refine (cc).mono ?_
    rintro e V1 ⟨rfl, hb⟩
    clear cc
    replace HD := HD.trans (hb.mono HD.size)
    obtain ⟨hc, hf⟩ := bcell hb
    have hz := hb.size
    replace b00 := (hc _ 0 L0).trans b00
    replace b01 := (hc _ 1 L0).trans b01
    replace b02 := (hc _ 2 L0).trans b02
    replace b03 := (hc _ 3 L0).trans b03
    replace b04 := (hc _ 4 L0).trans b04
    replace b05 := (hc _ 5 L0).trans b05
    replace b06 := (hc _ 6 L0).trans b06
    replace b07 := (hc _ 7 L0).trans b07
    replace b08 := (hc _ 8 L0).trans b08
    replace FV := Lib.hid (RowAt.below FV.out hb)
    replace L0 := Nat.lt_of_lt_of_le L0 hz
    clear hc hf hz hb
    go_wp2_with fail
    exact bodyPost_ret (v := .tuple #[.slice none 0 0, .int .i64 1]) (by simp [results, Tryd.results33, go_sem]) rfl ⟨⟨none, 0, by rw [HF.out]; rfl, by rw [HF.out]; exact World.ownsRow_nil _ _ _ _⟩, HD⟩
  case true =>
    have HF := Lib.hid (show llR x0 x1 x2 x3 x4 x5 x6 x7 l = (lens (stn x0 x1 x2 x3 x4 x5 x6 x7 l) (l.length + 1), 0) by unfold llR; rw [if_pos e])
    have hcp := courseOK_true e
    have HP := Lib.hid (fun k (h : k < l.length + 2) => stn_ptL hcp h)
    obtain ⟨hg1, hg2, _, hl8, _⟩ := hcp
    obtain ⟨sA, sB, _⟩ := isSeg_true hg1
    obtain ⟨sC, sD, _⟩ := isSeg_true hg2
    have cc := IsCourse_c x0 x1 x2 x3 x4 x5 x6 x7 a cap l W hl FV.out HS.out hcap
    rw [e] at cc
    clear e hg1 hg2
    refine (cc).mono ?_
    rintro e V1 ⟨rfl, hb⟩
    clear cc
    replace HD := HD.trans (hb.mono HD.size)
    obtain ⟨hc, hf⟩ := bcell hb
    have hz := hb.size
    replace b00 := (hc _ 0 L0).trans b00
    replace b01 := (hc _ 1 L0).trans b01
    replace b02 := (hc _ 2 L0).trans b02
    replace b03 := (hc _ 3 L0).trans b03
    replace b04 := (hc _ 4 L0).trans b04
    replace b05 := (hc _ 5 L0).trans b05
    replace b06 := (hc _ 6 L0).trans b06
    replace b07 := (hc _ 7 L0).trans b07
    replace b08 := (hc _ 8 L0).trans b08
    replace FV := Lib.hid (RowAt.below FV.out hb)
    replace L0 := Nat.lt_of_lt_of_le L0 hz
    clear hc hf hz hb
    go_wp2_with fail
    obtain ⟨Z1, hZ1⟩ : ∃ x, x = V1.alloc (.cells #[] 2) := ⟨_, rfl⟩
    have hb : Below V1.heap.size V1 Z1 := by subst hZ1; exact (Below.refl _ _).alloc (Nat.le_refl _) _
    have hO0 : Z1.ownsRow w.heap.size 2 1 (.slice (some ⟨V1.heap.size, 0, none⟩) 0 0) 0 [] := by subst hZ1; exact World.ownsRow_lit V1 #[] 0 HD.size (by unfold maxLen; omega) rfl
    have hG9 : V1.heap.size < Z1.heap.size := by subst hZ1; simp
    rw [← hZ1]
    clear hZ1
    obtain ⟨G, hG⟩ : ∃ x, x = V1.heap.size := ⟨_, rfl⟩
    rw [← hG] at hO0 hG9
    try rw [← hG]
    replace hG := Lib.hid hG
    replace hO0 := Lib.hid hO0
    replace HD := HD.trans (hb.mono HD.size)
    obtain ⟨hc, hf⟩ := bcell hb
    have hz := hb.size
    replace b00 := (hc _ 0 L0).trans b00
    replace b01 := (hc _ 1 L0).trans b01
    replace b02 := (hc _ 2 L0).trans b02
    replace b03 := (hc _ 3 L0).trans b03
    replace b04 := (hc _ 4 L0).trans b04
    replace b05 := (hc _ 5 L0).trans b05
    replace b06 := (hc _ 6 L0).trans b06
    replace b07 := (hc _ 7 L0).trans b07
    replace b08 := (hc _ 8 L0).trans b08
    replace FV := Lib.hid (RowAt.below FV.out hb)
    replace L0 := Nat.lt_of_lt_of_le L0 hz
    clear hc hf hz hb
    refine (stationsOf_c x0 x1 x2 x3 x4 x5 x6 x7 a cap l Z1 hl8 FV.out sA sB sC sD).mono ?_
    rintro e V2 ⟨⟨r, cp, rfl, ho⟩, hb⟩
    have hrG : r ≠ G := by have := (ho.lt r rfl).1; omega
    have hsz2 := HD.size
    have ho2 := Lib.hid (pown_mono ho hsz2)
    clear ho sA sB sC sD hsz2
    replace HD := HD.trans (hb.mono HD.size)
    obtain ⟨hc, hf⟩ := bcell hb
    have hz := hb.size
    replace b00 := (hc _ 0 L0).trans b00
    replace b01 := (hc _ 1 L0).trans b01
    replace b02 := (hc _ 2 L0).trans b02
    replace b03 := (hc _ 3 L0).trans b03
    replace b04 := (hc _ 4 L0).trans b04
    replace b05 := (hc _ 5 L0).trans b05
    replace b06 := (hc _ 6 L0).trans b06
    replace b07 := (hc _ 7 L0).trans b07
    replace b08 := (hc _ 8 L0).trans b08
    replace FV := Lib.hid (RowAt.below FV.out hb)
    replace hO0 := Lib.hid (pown_below hO0.out hb)
    replace L0 := Nat.lt_of_lt_of_le L0 hz
    replace hG9 := Nat.lt_of_lt_of_le hG9 hz
    clear hc hf hz hb
    go_wp2_with fail
    generalize stn x0 x1 x2 x3 x4 x5 x6 x7 l = ST at *
    clear FV HS b00 b01 b02 b03 b04 b05 b06 b07 b08
    go_loopw [4, 6] (fun v x wr => ∃ (j g c : Nat), x = .int .i64 ((j : Int) + 1) ∧ v = .slice (some ⟨g, 0, none⟩) j c ∧ j ≤ l.length + 1 ∧ Hid (wr.ownsRow w.heap.size 2 1 (.slice (some ⟨g, 0, none⟩) j c) j (nflat (lens ST j))) ∧ Hid (wr.ownsRow w.heap.size 31 2 (.slice (some ⟨r, 0, none⟩) (l.length + 2) cp) (l.length + 2) (pflat ST)) ∧ r ≠ g ∧ Below w.heap.size w wr) (fun _ x _ => l.length + 2 - (intOf x).toNat)
    case atStart => exact ⟨0, G, 0, by simp, rfl, Nat.zero_le _, hO0, ho2, hrG, HD⟩
    case round =>
      clear hO0 ho2 HD L0 hG9
      obtain ⟨j, g, c, rfl, rfl, hj, hO, hP, hrg, HD⟩ := hrel
      by_cases h : j < l.length + 1
      · have h1 : ((j : Int) + 1) < ((l.length + 2 : Nat) : Int) := by omega
        have h2 : ((j : Int) + 1) < (l.length : Int) + 2 := by omega
        have h3 : (0 : Int) ≤ (j : Int) := by omega
        have h4 : (j : Int) < (l.length : Int) + 2 := by omega
        have h5 : (j : Int) < ((l.length + 2 : Nat) : Int) := by omega
        have h6 : (0 : Int) ≤ (j : Int) + 1 := by omega
        have h7 : IntKind.i64.wrap ((j : Int) + 1 - 1) = (j : Int) := by rw [IntKind.wrap_i64]; omega
        have h9w : IntKind.i64.wrap (j : Int) = (j : Int) := by rw [IntKind.wrap_i64]; omega
        have h8 : IntKind.i64.wrap ((j : Int) + 1 + 1) = (j : Int) + 1 + 1 := by rw [IntKind.wrap_i64]; omega
        have hpL : (pflat ST).length = (l.length + 2) * 2 := hP.out.1
        rw [pflat_length] at hpL
        obtain ⟨f1, f2⟩ := pflat_get ST j _ (pt_of (by omega))
        obtain ⟨f3, f4⟩ := pflat_get ST (j + 1) _ (pt_of (by omega))
        have c1 := (hP.out.cellAt (j * 2) (by omega)).trans f1
        have c2 := (hP.out.cellAt (j * 2 + 1) (by omega)).trans f2
        have c3 := (hP.out.cellAt ((j + 1) * 2) (by omega)).trans f3
        have c4 := (hP.out.cellAt ((j + 1) * 2 + 1) (by omega)).trans f4
        have hlr := (hP.out.lt r rfl).2
        have hlg := (hO.out.lt g rfl)
        have hp1 := HP.out j (by omega)
        have hp2 := HP.out (j + 1) (by omega)
        have hsq := sq_bd hp1 hp2
        have hL := Lib.hid (lens_succ ST j)
        have CSQ := Lib.hid (fun w => squareDistance_c _ _ _ _ w hp1 hp2)
        have CRT := Lib.hid (fun w => rootOf_c (sqZ (pt ST j).1 (pt ST j).2 (pt ST (j + 1)).1 (pt ST (j + 1)).2) w hsq.1 (by omega))
        have hLZ := Lib.hid (show legZ ST j = rootZ (sqZ (pt ST j).1 (pt ST j).2 (pt ST (j + 1)).1 (pt ST (j + 1)).2) from rfl)
        clear hp1 hp2 hsq f1 f2 f3 f4 hpL
        generalize sqZ (pt ST j).1 (pt ST j).2 (pt ST (j + 1)).1 (pt ST (j + 1)).2 = D at *
        generalize (pt ST j).1 = p0 at *
        generalize (pt ST j).2 = p1 at *
        generalize (pt ST (j + 1)).1 = p2 at *
        generalize (pt ST (j + 1)).2 = p3 at *
        rw [← hLZ.out] at CRT
        clear hLZ
        generalize legZ ST j = Z at *
        have HDh := Lib.hid HD
        have hwz := HD.size
        clear HD
        go_wp2_with fail
        go_region_held3 (fun wx => Kept g wr wx ∧ ∀ b o, b < wr.heap.size → b ≠ g → wx.cell? ⟨b, o, none⟩ = wr.cell? ⟨b, o, none⟩)
          (first | with_reducible assumption | exact sK (Kept.refl _ _).drew | exact sK (Kept.trans (And.left (by with_reducible assumption)) (Kept.of hb)) | exact sK (Kept.alloc (And.left (by with_reducible assumption)) _) | exact sK (Kept.trans (And.left (by with_reducible assumption)) (kept_grown hgrow1)))
          (first | (go_at_call 68; refine (CSQ.out _).mono ?_; rintro e w1 ⟨rfl, hb⟩; have hoS := pown_below (pown_below hO.out (Below.refl _ _).drew) hb) | (go_at_call 67; refine (CRT.out _).mono ?_; rintro e w2 ⟨rfl, rfl⟩) | (refine step_append_lies _ (by rfl) (.tmp 19) (.tmp 31) 58 (by rfl) w.heap.size 2 i0 _ 1 8 Tryd.underlying58 hi ti0 ti1 ti2 rfl (by decide) (.slice (some ⟨g, 0, none⟩) j c) j (nflat (lens ST j)) (by rfl) (hoS.alloc _) ⟨w1.heap.size, 0, none⟩ 1 1 [.int .i64 Z] (by rfl) rfl (World.news_of_block (heap_newP (by rfl))) (one1 _) (by decide) (by unfold maxLen; omega) (by omega) (by have h9 := hb.size; simp at h9 ⊢; omega) _ rfl ?_; intro g' cp' U1 hown1 hgrow1 hat1 hlt1))
        have hkS : Kept g wr _ := And.left (by assumption)
        have hP2 := own_keptP hP.out (kg hkS) (fun k e e2 => by have h9 : r = k := Option.some.inj e; have h10 : g = k := Option.some.inj e2; omega)
        have hD2 := HDh.out.trans (hkS.below (by have := (hO.out.lt g rfl).1; omega) hwz)
        go_wp2_with fail
        refine ⟨⟨j + 1, g', cp', by simp, rfl, by omega, Lib.hid (by rw [← hL.out]; exact hown1), Lib.hid hP2, ?_, hD2⟩, by simp [intOf]; omega⟩
        rcases hat1 with e | e
        · have e3 : g = g' := Option.some.inj e
          omega
        · have h9 := hb.size
          simp at h9 e
          omega
      · have hj2 : j = l.length + 1 := by omega
        have h1 : ¬ ((j : Int) + 1) < ((l.length + 2 : Nat) : Int) := by omega
        have h2 : ¬ ((j : Int) + 1) < (l.length : Int) + 2 := by omega
        have hjj := Lib.hid hj2
        have hll := lens_len ST (l.length + 1)
        have hO9 := hO.out
        go_wp2_with fail
        have hq := hjj.out
        subst hq
        exact bodyPost_ret (v := .tuple #[.slice (some ⟨g, 0, none⟩) (l.length + 1) c, .int .i64 0]) (by simp [results, Tryd.results33, go_sem]) rfl ⟨⟨some ⟨g, 0, none⟩, c, by rw [HF.out]; simp only [hll], by rw [HF.out]; simp only [hll]; exact hO9⟩, HD⟩
set_option maxRecDepth 100000 in
set_option maxHeartbeats 4000000 in
theorem LegLengthsS_c (x0 x1 x2 x3 x4 x5 x6 x7 : Int) (a : Option Addr) (cap : Nat) (l : List Mk) (w : World) (hl : l.length ≤ 4611686018427387904) (h : RowAt w a (mflat l)) (hs : ∀ i, i < l.length → (mk l i).name.size ≤ maxLen)  :
    Calls Tryd.prog 34 #[.agg #[.int .i64 x0, .int .i64 x1, .int .i64 x2, .int .i64 x3, .int .i64 x4, .int .i64 x5, .int .i64 x6, .int .i64 x7, .slice a l.length cap]] w fun e w' => (∃ (a' : Option Addr) (cap' : Nat), e = .returned (.tuple #[.slice a' (llR x0 x1 x2 x3 x4 x5 x6 x7 l).1.length cap', .int .i64 (llR x0 x1 x2 x3 x4 x5 x6 x7 l).2]) ∧ w'.ownsRow w.heap.size 2 1 (.slice a' (llR x0 x1 x2 x3 x4 x5 x6 x7 l).1.length cap') (llR x0 x1 x2 x3 x4 x5 x6 x7 l).1.length (nflat (llR x0 x1 x2 x3 x4 x5 x6 x7 l).1)) ∧ Below w.heap.size w w' := by
  obtain ⟨i0, hi, ti0, ti1, ti2⟩ := info_parts infoI
  have H0 := Lib.hid h
  have HS := Lib.hid hs
  clear h hs
  go_enter Tryd.func34, Tryd.ntmps34
  go_wp2_with fail
  obtain ⟨W, hW⟩ : ∃ W, W = ((w.alloc (.cells #[.int .i64 x0, .int .i64 x1, .int .i64 x2, .int .i64 x3, .int .i64 x4, .int .i64 x5, .int .i64 x6, .int .i64 x7, .slice a l.length cap] 36)).alloc (.cells #[] 2)) := ⟨_, rfl⟩
  have HD : Below w.heap.size w W := by subst hW; exact (by repeat (first | with_reducible exact Below.refl _ _ | with_reducible assumption | with_reducible refine Below.drew ?_ | with_reducible refine Below.alloc ?_ (by first | exact Nat.le_refl _ | (simp; done) | (simp; omega) | omega) _ | with_reducible refine Below.setCell ?_ (by first | exact Nat.le_refl _ | (simp; done) | (simp; omega) | omega) _ | with_reducible refine Below.trans ?_ (Below.mono (by with_reducible assumption) (by first | exact Nat.le_refl _ | (simp; done) | (simp; omega) | omega))))
  have b00 : W.cell? ⟨w.heap.size, 0, none⟩ = some (.int .i64 x0) := by subst hW; simp [go_sem]
  have b01 : W.cell? ⟨w.heap.size, 1, none⟩ = some (.int .i64 x1) := by subst hW; simp [go_sem]
  have b02 : W.cell? ⟨w.heap.size, 2, none⟩ = some (.int .i64 x2) := by subst hW; simp [go_sem]
  have b03 : W.cell? ⟨w.heap.size, 3, none⟩ = some (.int .i64 x3) := by subst hW; simp [go_sem]
  have b04 : W.cell? ⟨w.heap.size, 4, none⟩ = some (.int .i64 x4) := by subst hW; simp [go_sem]
  have b05 : W.cell? ⟨w.heap.size, 5, none⟩ = some (.int .i64 x5) := by subst hW; simp [go_sem]
  have b06 : W.cell? ⟨w.heap.size, 6, none⟩ = some (.int .i64 x6) := by subst hW; simp [go_sem]
  have b07 : W.cell? ⟨w.heap.size, 7, none⟩ = some (.int .i64 x7) := by subst hW; simp [go_sem]
  have b08 : W.cell? ⟨w.heap.size, 8, none⟩ = some (.slice a l.length cap) := by subst hW; simp [go_sem]
  have L0 : w.heap.size < W.heap.size := by subst hW; first | (simp; done) | (simp; omega)
  have L1 : w.heap.size + 1 < W.heap.size := by subst hW; first | (simp; done) | (simp; omega)
  have hO0 : W.ownsRow w.heap.size 2 1 (.slice (some ⟨w.heap.size + 1, 0, none⟩) 0 0) 0 [] := by
    subst hW
    have h := World.ownsRow_lit (base := w.heap.size) (e := 2) (size := 1) (w.alloc (.cells #[.int .i64 x0, .int .i64 x1, .int .i64 x2, .int .i64 x3, .int .i64 x4, .int .i64 x5, .int .i64 x6, .int .i64 x7, .slice a l.length cap] 36)) #[] 0 (by simp) (by unfold maxLen; omega) rfl
    rw [show (w.alloc (.cells #[.int .i64 x0, .int .i64 x1, .int .i64 x2, .int .i64 x3, .int .i64 x4, .int .i64 x5, .int .i64 x6, .int .i64 x7, .slice a l.length cap] 36)).heap.size = w.heap.size + 1 by simp] at h
    exact h
  rw [← hW]
  clear hW
  generalize w.heap.size + 1 = B1 at *
  obtain ⟨B0, hB0⟩ : ∃ B, B = w.heap.size := ⟨_, rfl⟩
  rw [← hB0] at b00 b01 b02 b03 b04 b05 b06 b07 b08 L0
  try rw [← hB0]
  replace hB0 := Lib.hid hB0
  have FV := Lib.hid (H0.out.below HD)
  clear H0
  replace hO0 := Lib.hid hO0
  have hG9 := L1
  cases e : courseOK x0 x1 x2 x3 x4 x5 x6 x7 l
  case false =>
    have HF := Lib.hid (show llR x0 x1 x2 x3 x4 x5 x6 x7 l = ([], 1) by unfold llR; rw [if_neg (by rw [e]; decide)])
    have cc := IsCourseS_c x0 x1 x2 x3 x4 x5 x6 x7 a cap l W hl FV.out HS.out
    rw [e] at cc
    clear e
    refine (cc).mono ?_
    rintro e V1 ⟨rfl, hb⟩
    clear cc
    replace HD := HD.trans (hb.mono HD.size)
    obtain ⟨hc, hf⟩ := bcell hb
    have hz := hb.size
    replace b00 := (hc _ 0 L0).trans b00
    replace b01 := (hc _ 1 L0).trans b01
    replace b02 := (hc _ 2 L0).trans b02
    replace b03 := (hc _ 3 L0).trans b03
    replace b04 := (hc _ 4 L0).trans b04
    replace b05 := (hc _ 5 L0).trans b05
    replace b06 := (hc _ 6 L0).trans b06
    replace b07 := (hc _ 7 L0).trans b07
    replace b08 := (hc _ 8 L0).trans b08
    replace FV := Lib.hid (RowAt.below FV.out hb)
    replace hO0 := Lib.hid (pown_below hO0.out hb)
    replace L0 := Nat.lt_of_lt_of_le L0 hz
    replace L1 := Nat.lt_of_lt_of_le L1 hz
    replace hG9 := Nat.lt_of_lt_of_le hG9 hz
    clear hc hf hz hb
    go_wp2_with fail
    exact bodyPost_ret (v := .tuple #[.slice (some ⟨B1, 0, none⟩) 0 0, .int .i64 1]) (by simp [results, Tryd.results34, go_sem]) rfl ⟨⟨some ⟨B1, 0, none⟩, 0, by rw [HF.out]; rfl, by rw [HF.out]; exact hO0.out⟩, HD⟩
  case true =>
    have HF := Lib.hid (show llR x0 x1 x2 x3 x4 x5 x6 x7 l = (lens (stn x0 x1 x2 x3 x4 x5 x6 x7 l) (l.length + 1), 0) by unfold llR; rw [if_pos e])
    have hcp := courseOK_true e
    have HP := Lib.hid (fun k (h : k < l.length + 2) => stn_ptL hcp h)
    obtain ⟨hg1, hg2, _, hl8, _⟩ := hcp
    obtain ⟨sA, sB, _⟩ := isSeg_true hg1
    obtain ⟨sC, sD, _⟩ := isSeg_true hg2
    have cc := IsCourseS_c x0 x1 x2 x3 x4 x5 x6 x7 a cap l W hl FV.out HS.out
    rw [e] at cc
    clear e hg1 hg2
    refine (cc).mono ?_
    rintro e V1 ⟨rfl, hb⟩
    clear cc
    replace HD := HD.trans (hb.mono HD.size)
    obtain ⟨hc, hf⟩ := bcell hb
    have hz := hb.size
    replace b00 := (hc _ 0 L0).trans b00
    replace b01 := (hc _ 1 L0).trans b01
    replace b02 := (hc _ 2 L0).trans b02
    replace b03 := (hc _ 3 L0).trans b03
    replace b04 := (hc _ 4 L0).trans b04
    replace b05 := (hc _ 5 L0).trans b05
    replace b06 := (hc _ 6 L0).trans b06
    replace b07 := (hc _ 7 L0).trans b07
    replace b08 := (hc _ 8 L0).trans b08
    replace FV := Lib.hid (RowAt.below FV.out hb)
    replace hO0 := Lib.hid (pown_below hO0.out hb)
    replace L0 := Nat.lt_of_lt_of_le L0 hz
    replace L1 := Nat.lt_of_lt_of_le L1 hz
    replace hG9 := Nat.lt_of_lt_of_le hG9 hz
    clear hc hf hz hb
    go_wp2_with fail
    refine (l04Stations_c x0 x1 x2 x3 x4 x5 x6 x7 a cap l V1 hl8 FV.out sA sB sC sD).mono ?_
    rintro e V2 ⟨⟨r, cp, rfl, ho⟩, hb⟩
    have hrG : r ≠ B1 := by have := (ho.lt r rfl).1; omega
    have hsz2 := HD.size
    have ho2 := Lib.hid (pown_mono ho hsz2)
    clear ho sA sB sC sD hsz2
    replace HD := HD.trans (hb.mono HD.size)
    obtain ⟨hc, hf⟩ := bcell hb
    have hz := hb.size
    replace b00 := (hc _ 0 L0).trans b00
    replace b01 := (hc _ 1 L0).trans b01
    replace b02 := (hc _ 2 L0).trans b02
    replace b03 := (hc _ 3 L0).trans b03
    replace b04 := (hc _ 4 L0).trans b04
    replace b05 := (hc _ 5 L0).trans b05
    replace b06 := (hc _ 6 L0).trans b06
    replace b07 := (hc _ 7 L0).trans b07
    replace b08 := (hc _ 8 L0).trans b08
    replace FV := Lib.hid (RowAt.below FV.out hb)
    replace hO0 := Lib.hid (pown_below hO0.out hb)
    replace L0 := Nat.lt_of_lt_of_le L0 hz
    replace L1 := Nat.lt_of_lt_of_le L1 hz
    replace hG9 := Nat.lt_of_lt_of_le hG9 hz
    clear hc hf hz hb
    go_wp2_with fail
    generalize stn x0 x1 x2 x3 x4 x5 x6 x7 l = ST at *
    clear FV HS b00 b01 b02 b03 b04 b05 b06 b07 b08
    go_loopw [4, 6] (fun v x wr => ∃ (j g c : Nat), x = .int .i64 ((j : Int) + 1) ∧ v = .slice (some ⟨g, 0, none⟩) j c ∧ j ≤ l.length + 1 ∧ Hid (wr.ownsRow w.heap.size 2 1 (.slice (some ⟨g, 0, none⟩) j c) j (nflat (lens ST j))) ∧ Hid (wr.ownsRow w.heap.size 31 2 (.slice (some ⟨r, 0, none⟩) (l.length + 2) cp) (l.length + 2) (pflat ST)) ∧ r ≠ g ∧ Below w.heap.size w wr) (fun _ x _ => l.length + 2 - (intOf x).toNat)
    case atStart => exact ⟨0, B1, 0, by simp, rfl, Nat.zero_le _, hO0, ho2, hrG, HD⟩
    case round =>
      clear hO0 ho2 HD L0 hG9
      obtain ⟨j, g, c, rfl, rfl, hj, hO, hP, hrg, HD⟩ := hrel
      by_cases h : j < l.length + 1
      · have h1 : ((j : Int) + 1) < ((l.length + 2 : Nat) : Int) := by omega
        have h2 : ((j : Int) + 1) < (l.length : Int) + 2 := by omega
        have h3 : (0 : Int) ≤ (j : Int) := by omega
        have h4 : (j : Int) < (l.length : Int) + 2 := by omega
        have h5 : (j : Int) < ((l.length + 2 : Nat) : Int) := by omega
        have h6 : (0 : Int) ≤ (j : Int) + 1 := by omega
        have h7 : IntKind.i64.wrap ((j : Int) + 1 - 1) = (j : Int) := by rw [IntKind.wrap_i64]; omega
        have h9w : IntKind.i64.wrap (j : Int) = (j : Int) := by rw [IntKind.wrap_i64]; omega
        have h8 : IntKind.i64.wrap ((j : Int) + 1 + 1) = (j : Int) + 1 + 1 := by rw [IntKind.wrap_i64]; omega
        have hpL : (pflat ST).length = (l.length + 2) * 2 := hP.out.1
        rw [pflat_length] at hpL
        obtain ⟨f1, f2⟩ := pflat_get ST j _ (pt_of (by omega))
        obtain ⟨f3, f4⟩ := pflat_get ST (j + 1) _ (pt_of (by omega))
        have c1 := (hP.out.cellAt (j * 2) (by omega)).trans f1
        have c2 := (hP.out.cellAt (j * 2 + 1) (by omega)).trans f2
        have c3 := (hP.out.cellAt ((j + 1) * 2) (by omega)).trans f3
        have c4 := (hP.out.cellAt ((j + 1) * 2 + 1) (by omega)).trans f4
        have hlr := (hP.out.lt r rfl).2
        have hlg := (hO.out.lt g rfl)
        have hp1 := HP.out j (by omega)
        have hp2 := HP.out (j + 1) (by omega)
        have hsq := sq_bd hp1 hp2
        have hL := Lib.hid (lens_succ ST j)
        have CSQ := Lib.hid (fun w => l01Square_c _ _ _ _ w hp1 hp2)
        have CRT := Lib.hid (fun w => l01Root_c (sqZ (pt ST j).1 (pt ST j).2 (pt ST (j + 1)).1 (pt ST (j + 1)).2) w hsq.1 (by omega))
        have hLZ := Lib.hid (show legZ ST j = rootZ (sqZ (pt ST j).1 (pt ST j).2 (pt ST (j + 1)).1 (pt ST (j + 1)).2) from rfl)
        clear hp1 hp2 hsq f1 f2 f3 f4 hpL
        generalize sqZ (pt ST j).1 (pt ST j).2 (pt ST (j + 1)).1 (pt ST (j + 1)).2 = D at *
        generalize (pt ST j).1 = p0 at *
        generalize (pt ST j).2 = p1 at *
        generalize (pt ST (j + 1)).1 = p2 at *
        generalize (pt ST (j + 1)).2 = p3 at *
        rw [← hLZ.out] at CRT
        clear hLZ
        generalize legZ ST j = Z at *
        have HDh := Lib.hid HD
        have hwz := HD.size
        clear HD
        go_wp2_with fail
        go_region_held3 (fun wx => Kept g wr wx ∧ ∀ b o, b < wr.heap.size → b ≠ g → wx.cell? ⟨b, o, none⟩ = wr.cell? ⟨b, o, none⟩)
          (first | with_reducible assumption | exact sK (Kept.refl _ _).drew | exact sK (Kept.trans (And.left (by with_reducible assumption)) (Kept.of hb)) | exact sK (Kept.alloc (And.left (by with_reducible assumption)) _) | exact sK (Kept.trans (And.left (by with_reducible assumption)) (kept_grown hgrow1)))
          (first | (go_at_call 70; refine (CSQ.out _).mono ?_; rintro e w1 ⟨rfl, hb⟩; have hoS := pown_below (pown_below hO.out (Below.refl _ _).drew) hb) | (go_at_call 69; refine (CRT.out _).mono ?_; rintro e w2 ⟨rfl, rfl⟩) | (refine step_append_lies _ (by rfl) (.tmp 20) (.tmp 32) 58 (by rfl) w.heap.size 2 i0 _ 1 8 Tryd.underlying58 hi ti0 ti1 ti2 rfl (by decide) (.slice (some ⟨g, 0, none⟩) j c) j (nflat (lens ST j)) (by rfl) (hoS.alloc _) ⟨w1.heap.size, 0, none⟩ 1 1 [.int .i64 Z] (by rfl) rfl (World.news_of_block (heap_newP (by rfl))) (one1 _) (by decide) (by unfold maxLen; omega) (by omega) (by have h9 := hb.size; simp at h9 ⊢; omega) _ rfl ?_; intro g' cp' U1 hown1 hgrow1 hat1 hlt1))
        have hkS : Kept g wr _ := And.left (by assumption)
        have hP2 := own_keptP hP.out (kg hkS) (fun k e e2 => by have h9 : r = k := Option.some.inj e; have h10 : g = k := Option.some.inj e2; omega)
        have hD2 := HDh.out.trans (hkS.below (by have := (hO.out.lt g rfl).1; omega) hwz)
        go_wp2_with fail
        refine ⟨⟨j + 1, g', cp', by simp, rfl, by omega, Lib.hid (by rw [← hL.out]; exact hown1), Lib.hid hP2, ?_, hD2⟩, by simp [intOf]; omega⟩
        rcases hat1 with e | e
        · have e3 : g = g' := Option.some.inj e
          omega
        · have h9 := hb.size
          simp at h9 e
          omega
      · have hj2 : j = l.length + 1 := by omega
        have h1 : ¬ ((j : Int) + 1) < ((l.length + 2 : Nat) : Int) := by omega
        have h2 : ¬ ((j : Int) + 1) < (l.length : Int) + 2 := by omega
        have hjj := Lib.hid hj2
        have hll := lens_len ST (l.length + 1)
        have hO9 := hO.out
        go_wp2_with fail
        have hq := hjj.out
        subst hq
        exact bodyPost_ret (v := .tuple #[.slice (some ⟨g, 0, none⟩) (l.length + 1) c, .int .i64 0]) (by simp [results, Tryd.results34, go_sem]) rfl ⟨⟨some ⟨g, 0, none⟩, c, by rw [HF.out]; simp only [hll], by rw [HF.out]; simp only [hll]; exact hO9⟩, HD⟩
end Go.Proofs.YtbeigoejdckpiaaDoor
