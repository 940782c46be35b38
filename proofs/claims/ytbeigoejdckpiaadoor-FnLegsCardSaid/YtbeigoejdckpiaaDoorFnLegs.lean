/-
  FnLegs: for every code the law's function answers true. No condition.
-/
import Derived.Test.YtbeigoejdckpiaaDoorRows
import Derived.Test.YtbeigoejdckpiaaDoorTie
import Derived.Test.YtbeigoejdckpiaaDoorCards
import Derived.Test.YtbeigoejdckpiaaDoorCdraw4
import Derived.Test.YtbeigoejdckpiaaDoorCrsN
import Derived.LaidMore
import Derived.Lay
import Derived.SevenTiedAt
namespace Go.Proofs.YtbeigoejdckpiaaDoor.fnLegs
open Go.ChangeShapes Go.WideShapes Go.ChangeAt Go.RowKit Go.Deep
open Go.ChangeMaps (open_string shut_string)
set_option linter.unusedVariables false

theorem own_capA {w : World} {base n cap size : Nat} {a : Option Addr} {e : TypeId} {xs : List Value} (h : w.ownsRow base e size (.slice a n cap) n xs) : n ≤ cap := by
  rcases h.2 with ⟨h2, h3⟩ | ⟨g', cap', cur, hv, hb, hh, hc, _⟩
  · simp at h2; omega
  · simp at hv; omega
theorem sq_pos {a b c d : Int} (h : ¬ (a = c ∧ b = d)) : 0 < sqZ a b c d := by
  unfold sqZ
  have nn : ∀ z : Int, 0 ≤ z * z := fun z => by
    rcases Int.le_total 0 z with g | g
    · exact Int.mul_nonneg g g
    · have := Int.mul_nonneg (show 0 ≤ -z by omega) (show 0 ≤ -z by omega)
      rwa [Int.neg_mul_neg] at this
  have pp : ∀ z : Int, z ≠ 0 → 0 < z * z := fun z hz => by
    have h1 := nn z
    rcases Int.lt_or_eq_of_le h1 with g | g
    · exact g
    · rcases Int.mul_eq_zero.1 g.symm with e | e <;> exact absurd e hz
  by_cases e : a = c
  · have hb : b - d ≠ 0 := fun e2 => h ⟨e, by omega⟩
    have := pp _ hb
    have := nn (a - c)
    omega
  · have ha : a - c ≠ 0 := by omega
    have := pp _ ha
    have := nn (b - d)
    omega
theorem sq_rangeL {a b c d : Int} (h1 : isPt a b = true) (h2 : isPt c d = true) : sqZ a b c d ≤ 8000000000000 := by
  have p := isPt_true h1
  have q := isPt_true h2
  have e1 : -2000000 ≤ a - c ∧ a - c ≤ 2000000 := by omega
  have e2 : -2000000 ≤ b - d ∧ b - d ≤ 2000000 := by omega
  unfold sqZ
  generalize a - c = x at *
  generalize b - d = y at *
  have x0 := Int.mul_nonneg (show 0 ≤ 2000000 - x by omega) (show 0 ≤ 2000000 + x by omega)
  have y0 := Int.mul_nonneg (show 0 ≤ 2000000 - y by omega) (show 0 ≤ 2000000 + y by omega)
  have ex : (2000000 - x) * (2000000 + x) = 4000000000000 - x * x := by grind
  have ey : (2000000 - y) * (2000000 + y) = 4000000000000 - y * y := by grind
  omega
theorem legs_law {x0 x1 x2 x3 x4 x5 x6 x7 : Int} {l : List Mk} (h : courseOK x0 x1 x2 x3 x4 x5 x6 x7 l = true) {i : Nat} (hi : i < l.length + 1) : ∃ D r : Int, sqR (pt (stn x0 x1 x2 x3 x4 x5 x6 x7 l) i).1 (pt (stn x0 x1 x2 x3 x4 x5 x6 x7 l) i).2 (pt (stn x0 x1 x2 x3 x4 x5 x6 x7 l) (i + 1)).1 (pt (stn x0 x1 x2 x3 x4 x5 x6 x7 l) (i + 1)).2 = (D, 0) ∧ (lens (stn x0 x1 x2 x3 x4 x5 x6 x7 l) (l.length + 1)).getD i 0 = r ∧ 1 ≤ D ∧ 0 ≤ r ∧ r ≤ 3000000 ∧ r * r ≤ D ∧ D < (r + 1) * (r + 1) := by
  have hc := courseOK_true h
  have p1 := stn_ptL hc (k := i) (by omega)
  have p2 := stn_ptL hc (k := i + 1) (by omega)
  have hne := hc.2.2.2.2.2 (i + 1) (by omega) (by rw [stn_len]; omega)
  rw [Nat.add_sub_cancel] at hne
  have hD := sq_pos (a := (pt (stn x0 x1 x2 x3 x4 x5 x6 x7 l) i).1) (b := (pt (stn x0 x1 x2 x3 x4 x5 x6 x7 l) i).2) (c := (pt (stn x0 x1 x2 x3 x4 x5 x6 x7 l) (i + 1)).1) (d := (pt (stn x0 x1 x2 x3 x4 x5 x6 x7 l) (i + 1)).2) (fun e => hne (Prod.ext e.1 e.2))
  have hR := sq_rangeL p1 p2
  have hg : (lens (stn x0 x1 x2 x3 x4 x5 x6 x7 l) (l.length + 1)).getD i 0 = legZ (stn x0 x1 x2 x3 x4 x5 x6 x7 l) i := by
    unfold lens
    rw [List.getD_eq_getElem?_getD, List.getElem?_map, List.getElem?_range hi]
    rfl
  refine ⟨_, _, by simp only [sqR, p1, p2, Bool.and_self, if_true]; rfl, hg, by omega, ?_⟩
  unfold legZ
  generalize sqZ (pt (stn x0 x1 x2 x3 x4 x5 x6 x7 l) i).1 (pt (stn x0 x1 x2 x3 x4 x5 x6 x7 l) i).2 (pt (stn x0 x1 x2 x3 x4 x5 x6 x7 l) (i + 1)).1 (pt (stn x0 x1 x2 x3 x4 x5 x6 x7 l) (i + 1)).2 = D at *
  obtain ⟨r0, r1, r2⟩ := rootZ_is (n := D) (by omega)
  refine ⟨r0, ?_, r1, r2⟩
  rcases Int.lt_or_le 3000000 (rootZ D) with g | g
  · have := Int.mul_le_mul (Int.le_of_lt g) (Int.le_of_lt g) (by omega) r0
    omega
  · exact g
set_option maxHeartbeats 1000000 in
theorem likeInts_c (a a' : Option Addr) (cap cap' : Nat) (L : List Int) (w : World) (hl : L.length ≤ 4611686018427387904) (hf : RowAt w a (nflat L)) (hf' : RowAt w a' (nflat L)) : Calls Tryd.prog 35 #[.slice a L.length cap, .slice a' L.length cap'] w fun e w' => e = .returned (.bool true) ∧ Below w.heap.size w w' := by
  have H0 := Lib.hid hf
  have H1 := Lib.hid hf'
  clear hf hf'
  go_enter Tryd.func35, Tryd.ntmps35
  go_wp2
  go_loopw [5] (fun x wr => ∃ k : Nat, x = .int .i64 k ∧ k ≤ L.length ∧ Below w.heap.size w wr) (fun x _ => L.length - (intOf x).toNat)
  case atStart => exact ⟨0, rfl, Nat.zero_le _, Below.refl _ _⟩
  case round =>
    obtain ⟨k, rfl, hk, hbl⟩ := hrel
    by_cases h : k < L.length
    · obtain ⟨b, off, rfl, hlt, c0⟩ := num_cell (H0.out.below hbl) h
      obtain ⟨b', off', rfl, hlt', d0⟩ := num_cell (H1.out.below hbl) h
      have h' : (k : Int) < (L.length : Int) := by omega
      generalize L.getD k 0 = x at *
      go_wp2
      refine wp_region_later (by kernel_rfl) (by kernel_rfl) ?_
      repeat (first | go_big_quiet_step (fail) | quiet_step (fail))
      refine wpQuiet_nil ?_
      intro _ hw'
      obtain ⟨s1, hw''⟩ := hw'
      subst hw''
      have hb1 := s1.below
      generalize s1.w = w1 at hb1 ⊢
      clear s1
      try replace hb1 := below_trans (by with_reducible assumption) hb1
      obtain ⟨hc1, hf1⟩ := bcell hb1
      have hz1 := hb1.size
      try simp at hz1
      try have hz10 : w.heap.size ≤ w1.heap.size := by omega
      try have hz11 : w.heap.size < w1.heap.size := by omega
      try have hz12 : w.heap.size + 1 < w1.heap.size := by omega
      try have hz13 : w.heap.size + 1 + 1 < w1.heap.size := by omega
      try have hz14 : w.heap.size + 1 + 1 + 1 < w1.heap.size := by omega
      go_wp2
      refine ⟨⟨k + 1, by simp, by omega, ?_⟩, by simp [intOf]; omega⟩
      exact hb1
    · have h' : (L.length : Int) ≤ (k : Int) := by omega
      go_wp2
      go_ret
      exact ⟨rfl, hbl⟩
set_option maxRecDepth 100000 in
set_option maxHeartbeats 4000000 in
theorem walk (a : Option Addr) (cap n : Nat) (w : World) (w0 : n ≤ 9223372036854775807 ∧ BytesB w.heap.size w a n) :
    Calls Tryd.prog 8 #[.slice a n cap] w fun e w' => e = .returned (.bool true) ∧ Below w.heap.size w w' := by
  obtain ⟨hn, hb⟩ := w0
  have HB := Lib.hid hb
  clear hb
  by_cases h : (4096 : Int) < (n : Int)
  · have CB := Lib.hid (fun w => big_t a n cap w hn h)
    go_enter Tryd.func8, Tryd.ntmps8
    go_wp2_with (go_at_call 19; refine (CB.out _).mono ?_; rintro e w' ⟨rfl, rfl⟩)
    go_ret
    exact ⟨rfl, (by repeat (first | with_reducible exact Below.refl _ _ | with_reducible assumption | with_reducible refine Below.drew ?_ | with_reducible refine Below.alloc ?_ (by first | exact Nat.le_refl _ | (simp; done) | (simp; omega) | omega) _ | with_reducible refine Below.setCell ?_ (by first | exact Nat.le_refl _ | (simp; done) | (simp; omega) | omega) _ | with_reducible refine Below.trans ?_ (Below.mono (by with_reducible assumption) (by first | exact Nat.le_refl _ | (simp; done) | (simp; omega) | omega))))⟩
  have CB := Lib.hid (fun w => big_f a n cap w hn h)
  clear h
  go_enter Tryd.func8, Tryd.ntmps8
  go_wp2_with (go_at_call 19; refine (CB.out _).mono ?_; rintro e w' ⟨rfl, rfl⟩)
  refine (DrawLegLengths_c a n cap _ hn (bytes_at HB.out (by repeat (first | with_reducible exact Below.refl _ _ | with_reducible assumption | with_reducible refine Below.drew ?_ | with_reducible refine Below.alloc ?_ (by first | exact Nat.le_refl _ | (simp; done) | (simp; omega) | omega) _ | with_reducible refine Below.setCell ?_ (by first | exact Nat.le_refl _ | (simp; done) | (simp; omega) | omega) _ | with_reducible refine Below.trans ?_ (Below.mono (by with_reducible assumption) (by first | exact Nat.le_refl _ | (simp; done) | (simp; omega) | omega)))))).mono ?_
  rintro e V1 ⟨⟨x0, x1, x2, x3, x4, x5, x6, x7, a9, cp, l, rfl, hl9, hns, ho⟩, hbV⟩
  clear CB HB
  have hzV := hbV.size
  go_wp2_with fail
  obtain ⟨W, hW⟩ : ∃ W, W = (V1.alloc (.cells #[.int .i64 x0, .int .i64 x1, .int .i64 x2, .int .i64 x3, .int .i64 x4, .int .i64 x5, .int .i64 x6, .int .i64 x7, .slice a9 l.length cp] 36)) := ⟨_, rfl⟩
  have HD : Below w.heap.size w W := by subst hW; exact (by repeat (first | with_reducible exact Below.refl _ _ | with_reducible assumption | with_reducible refine Below.drew ?_ | with_reducible refine Below.alloc ?_ (by first | exact Nat.le_refl _ | (simp; done) | (simp; omega) | omega) _ | with_reducible refine Below.setCell ?_ (by first | exact Nat.le_refl _ | (simp; done) | (simp; omega) | omega) _ | with_reducible refine Below.trans ?_ (Below.mono (by with_reducible assumption) (by first | exact Nat.le_refl _ | (simp; done) | (simp; omega) | omega))))
  have HV : Below V1.heap.size V1 W := by subst hW; exact (by repeat (first | with_reducible exact Below.refl _ _ | with_reducible assumption | with_reducible refine Below.drew ?_ | with_reducible refine Below.alloc ?_ (by first | exact Nat.le_refl _ | (simp; done) | (simp; omega) | omega) _ | with_reducible refine Below.setCell ?_ (by first | exact Nat.le_refl _ | (simp; done) | (simp; omega) | omega) _ | with_reducible refine Below.trans ?_ (Below.mono (by with_reducible assumption) (by first | exact Nat.le_refl _ | (simp; done) | (simp; omega) | omega))))
  have b00 : W.cell? ⟨V1.heap.size, 0, none⟩ = some (.int .i64 x0) := by subst hW; simp [go_sem]
  have b01 : W.cell? ⟨V1.heap.size, 1, none⟩ = some (.int .i64 x1) := by subst hW; simp [go_sem]
  have b02 : W.cell? ⟨V1.heap.size, 2, none⟩ = some (.int .i64 x2) := by subst hW; simp [go_sem]
  have b03 : W.cell? ⟨V1.heap.size, 3, none⟩ = some (.int .i64 x3) := by subst hW; simp [go_sem]
  have b04 : W.cell? ⟨V1.heap.size, 4, none⟩ = some (.int .i64 x4) := by subst hW; simp [go_sem]
  have b05 : W.cell? ⟨V1.heap.size, 5, none⟩ = some (.int .i64 x5) := by subst hW; simp [go_sem]
  have b06 : W.cell? ⟨V1.heap.size, 6, none⟩ = some (.int .i64 x6) := by subst hW; simp [go_sem]
  have b07 : W.cell? ⟨V1.heap.size, 7, none⟩ = some (.int .i64 x7) := by subst hW; simp [go_sem]
  have b08 : W.cell? ⟨V1.heap.size, 8, none⟩ = some (.slice a9 l.length cp) := by subst hW; simp [go_sem]
  have L0 : V1.heap.size < W.heap.size := by subst hW; first | (simp; done) | (simp; omega)
  rw [← hW]
  clear hW
  obtain ⟨B0, hB0⟩ : ∃ B, B = V1.heap.size := ⟨_, rfl⟩
  rw [← hB0] at b00 b01 b02 b03 b04 b05 b06 b07 b08 L0
  try rw [← hB0]
  replace hB0 := Lib.hid hB0
  have hl2 : l.length ≤ 4611686018427387904 := by omega
  have hcap := own_capA ho
  have FV := Lib.hid (RowAt.below (row_ownP ho (mflat_length l)) HV)
  clear ho HV
  have c1 := fun W h => LegLengths_c x0 x1 x2 x3 x4 x5 x6 x7 a9 cp l W hl2 h hns.names hcap
  have c2 := fun W h => LegLengthsS_c x0 x1 x2 x3 x4 x5 x6 x7 a9 cp l W hl2 h hns.names
  have c3 := fun W h => StationsOf_c x0 x1 x2 x3 x4 x5 x6 x7 a9 cp l W hl2 h hns.names hcap
  cases hc : courseOK x0 x1 x2 x3 x4 x5 x6 x7 l
  case false =>
    have e1 : llR x0 x1 x2 x3 x4 x5 x6 x7 l = ([], 1) := by unfold llR; rw [if_neg (by rw [hc]; decide)]
    have e2 : stnR x0 x1 x2 x3 x4 x5 x6 x7 l = ([], 1) := by unfold stnR; rw [if_neg (by rw [hc]; decide)]
    rw [e1] at c1 c2
    rw [e2] at c3
    dsimp only at c1 c2 c3
    have clk := fun a1 a2 cp1 cp2 w h h2 => likeInts_c a1 a2 cp1 cp2 [] w (by simp) h h2
    simp only [List.length_nil] at c1 c2 c3 clk
    have C1 := Lib.hid c1
    have C2 := Lib.hid c2
    have C3 := Lib.hid c3
    have CLK := Lib.hid clk
    clear c1 c2 c3 e1 e2 hc clk
    refine (C1.out _ FV.out).mono ?_
    rintro e V2 ⟨⟨a1, cp1, rfl, ho⟩, hb⟩
    have R1 := Lib.hid (row_ownP ho rfl)
    clear ho
    replace HD := HD.trans (hb.mono HD.size)
    obtain ⟨hc, hf⟩ := bcell hb
    have hz := hb.size
    replace b00 := (hc _ 0 L0).trans b00
    replace b01 := (hc _ 1 L0).trans b01
    replace b02 := (hc _ 2 L0).trans b02
    replace b03 := (hc _ 3 L0).trans b03
    replace b04 := (hc _ 4 L0).trans b04
    replace b05 := (hc _ 5 L0).trans b05
    replace b06 := (hc _ 6 L0).trans b06
    replace b07 := (hc _ 7 L0).trans b07
    replace b08 := (hc _ 8 L0).trans b08
    replace FV := Lib.hid (RowAt.below FV.out hb)
    replace L0 := Nat.lt_of_lt_of_le L0 hz
    clear hc hf hz hb
    go_wp2_with fail
    refine (C2.out _ FV.out).mono ?_
    rintro e V3 ⟨⟨a2, cp2, rfl, ho⟩, hb⟩
    have R2 := Lib.hid (row_ownP ho rfl)
    clear ho
    replace HD := HD.trans (hb.mono HD.size)
    obtain ⟨hc, hf⟩ := bcell hb
    have hz := hb.size
    replace b00 := (hc _ 0 L0).trans b00
    replace b01 := (hc _ 1 L0).trans b01
    replace b02 := (hc _ 2 L0).trans b02
    replace b03 := (hc _ 3 L0).trans b03
    replace b04 := (hc _ 4 L0).trans b04
    replace b05 := (hc _ 5 L0).trans b05
    replace b06 := (hc _ 6 L0).trans b06
    replace b07 := (hc _ 7 L0).trans b07
    replace b08 := (hc _ 8 L0).trans b08
    replace FV := Lib.hid (RowAt.below FV.out hb)
    replace R1 := Lib.hid (RowAt.below R1.out hb)
    replace L0 := Nat.lt_of_lt_of_le L0 hz
    clear hc hf hz hb
    go_wp2_with fail
    refine (C3.out _ FV.out).mono ?_
    rintro e V4 ⟨⟨a3, cp3, rfl, ho⟩, hb⟩
    have R3 := Lib.hid (row_ownP ho rfl)
    clear ho
    replace HD := HD.trans (hb.mono HD.size)
    obtain ⟨hc, hf⟩ := bcell hb
    have hz := hb.size
    replace b00 := (hc _ 0 L0).trans b00
    replace b01 := (hc _ 1 L0).trans b01
    replace b02 := (hc _ 2 L0).trans b02
    replace b03 := (hc _ 3 L0).trans b03
    replace b04 := (hc _ 4 L0).trans b04
    replace b05 := (hc _ 5 L0).trans b05
    replace b06 := (hc _ 6 L0).trans b06
    replace b07 := (hc _ 7 L0).trans b07
    replace b08 := (hc _ 8 L0).trans b08
    replace FV := Lib.hid (RowAt.below FV.out hb)
    replace R1 := Lib.hid (RowAt.below R1.out hb)
    replace R2 := Lib.hid (RowAt.below R2.out hb)
    replace L0 := Nat.lt_of_lt_of_le L0 hz
    clear hc hf hz hb
    go_wp2_with fail
    refine (CLK.out _ _ _ _ _ R1.out R2.out).mono ?_
    rintro e V5 ⟨rfl, hb⟩
    replace HD := HD.trans (hb.mono HD.size)
    obtain ⟨hc, hf⟩ := bcell hb
    have hz := hb.size
    replace b00 := (hc _ 0 L0).trans b00
    replace b01 := (hc _ 1 L0).trans b01
    replace b02 := (hc _ 2 L0).trans b02
    replace b03 := (hc _ 3 L0).trans b03
    replace b04 := (hc _ 4 L0).trans b04
    replace b05 := (hc _ 5 L0).trans b05
    replace b06 := (hc _ 6 L0).trans b06
    replace b07 := (hc _ 7 L0).trans b07
    replace b08 := (hc _ 8 L0).trans b08
    replace FV := Lib.hid (RowAt.below FV.out hb)
    replace R1 := Lib.hid (RowAt.below R1.out hb)
    replace R2 := Lib.hid (RowAt.below R2.out hb)
    replace R3 := Lib.hid (RowAt.below R3.out hb)
    replace L0 := Nat.lt_of_lt_of_le L0 hz
    clear hc hf hz hb
    go_wp2_with fail
    go_ret
    exact ⟨rfl, HD⟩
  case true =>
    have e1 : llR x0 x1 x2 x3 x4 x5 x6 x7 l = (lens (stn x0 x1 x2 x3 x4 x5 x6 x7 l) (l.length + 1), 0) := by unfold llR; rw [if_pos hc]
    have e2 : stnR x0 x1 x2 x3 x4 x5 x6 x7 l = (stn x0 x1 x2 x3 x4 x5 x6 x7 l, 0) := by unfold stnR; rw [if_pos hc]
    rw [e1] at c1 c2
    rw [e2] at c3
    dsimp only at c1 c2 c3
    have HF := Lib.hid (fun i hi => legs_law hc (i := i) hi)
    have HM := Lib.hid (fun k hk => stn_mark x0 x1 x2 x3 x4 x5 x6 x7 l (k := k) hk)
    have hLL := lens_len (stn x0 x1 x2 x3 x4 x5 x6 x7 l) (l.length + 1)
    have hSl := stn_len x0 x1 x2 x3 x4 x5 x6 x7 l
    clear e1 e2 hc
    generalize lens (stn x0 x1 x2 x3 x4 x5 x6 x7 l) (l.length + 1) = LL at *
    generalize stn x0 x1 x2 x3 x4 x5 x6 x7 l = S at *
    rw [hLL] at c1 c2
    rw [hSl] at c3
    have C1 := Lib.hid c1
    have C2 := Lib.hid c2
    have C3 := Lib.hid c3
    have CLK := Lib.hid (fun a1 a2 cp1 cp2 w h h2 => hLL ▸ likeInts_c a1 a2 cp1 cp2 LL w (by omega) h h2)
    clear c1 c2 c3
    have HLL := Lib.hid hLL
    have HSl := Lib.hid hSl
    clear hLL hSl
    refine (C1.out _ FV.out).mono ?_
    rintro e V2 ⟨⟨a1, cp1, rfl, ho⟩, hb⟩
    have R1 := Lib.hid (row_ownP ho (by rw [nflat_length, HLL.out]))
    clear ho
    replace HD := HD.trans (hb.mono HD.size)
    obtain ⟨hc, hf⟩ := bcell hb
    have hz := hb.size
    replace b00 := (hc _ 0 L0).trans b00
    replace b01 := (hc _ 1 L0).trans b01
    replace b02 := (hc _ 2 L0).trans b02
    replace b03 := (hc _ 3 L0).trans b03
    replace b04 := (hc _ 4 L0).trans b04
    replace b05 := (hc _ 5 L0).trans b05
    replace b06 := (hc _ 6 L0).trans b06
    replace b07 := (hc _ 7 L0).trans b07
    replace b08 := (hc _ 8 L0).trans b08
    replace FV := Lib.hid (RowAt.below FV.out hb)
    replace L0 := Nat.lt_of_lt_of_le L0 hz
    clear hc hf hz hb
    go_wp2_with fail
    refine (C2.out _ FV.out).mono ?_
    rintro e V3 ⟨⟨a2, cp2, rfl, ho⟩, hb⟩
    have R2 := Lib.hid (row_ownP ho (by rw [nflat_length, HLL.out]))
    clear ho
    replace HD := HD.trans (hb.mono HD.size)
    obtain ⟨hc, hf⟩ := bcell hb
    have hz := hb.size
    replace b00 := (hc _ 0 L0).trans b00
    replace b01 := (hc _ 1 L0).trans b01
    replace b02 := (hc _ 2 L0).trans b02
    replace b03 := (hc _ 3 L0).trans b03
    replace b04 := (hc _ 4 L0).trans b04
    replace b05 := (hc _ 5 L0).trans b05
    replace b06 := (hc _ 6 L0).trans b06
    replace b07 := (hc _ 7 L0).trans b07
    replace b08 := (hc _ 8 L0).trans b08
    replace FV := Lib.hid (RowAt.below FV.out hb)
    replace R1 := Lib.hid (RowAt.below R1.out hb)
    replace L0 := Nat.lt_of_lt_of_le L0 hz
    clear hc hf hz hb
    go_wp2_with fail
    refine (C3.out _ FV.out).mono ?_
    rintro e V4 ⟨⟨a3, cp3, rfl, ho⟩, hb⟩
    have R3 := Lib.hid (row_ownP ho (by rw [pflat_length, HSl.out]))
    clear ho
    replace HD := HD.trans (hb.mono HD.size)
    obtain ⟨hc, hf⟩ := bcell hb
    have hz := hb.size
    replace b00 := (hc _ 0 L0).trans b00
    replace b01 := (hc _ 1 L0).trans b01
    replace b02 := (hc _ 2 L0).trans b02
    replace b03 := (hc _ 3 L0).trans b03
    replace b04 := (hc _ 4 L0).trans b04
    replace b05 := (hc _ 5 L0).trans b05
    replace b06 := (hc _ 6 L0).trans b06
    replace b07 := (hc _ 7 L0).trans b07
    replace b08 := (hc _ 8 L0).trans b08
    replace FV := Lib.hid (RowAt.below FV.out hb)
    replace R1 := Lib.hid (RowAt.below R1.out hb)
    replace R2 := Lib.hid (RowAt.below R2.out hb)
    replace L0 := Nat.lt_of_lt_of_le L0 hz
    clear hc hf hz hb
    go_wp2_with fail
    have w1 : IntKind.i64.wrap ((l.length : Int) + 1) = (l.length : Int) + 1 := by rw [IntKind.wrap_i64]; omega
    have w2 : IntKind.i64.wrap ((l.length : Int) + 2) = (l.length : Int) + 2 := by rw [IntKind.wrap_i64]; omega
    refine (CLK.out _ _ _ _ _ R1.out R2.out).mono ?_
    rintro e V5 ⟨rfl, hb⟩
    replace HD := HD.trans (hb.mono HD.size)
    obtain ⟨hc, hf⟩ := bcell hb
    have hz := hb.size
    replace b00 := (hc _ 0 L0).trans b00
    replace b01 := (hc _ 1 L0).trans b01
    replace b02 := (hc _ 2 L0).trans b02
    replace b03 := (hc _ 3 L0).trans b03
    replace b04 := (hc _ 4 L0).trans b04
    replace b05 := (hc _ 5 L0).trans b05
    replace b06 := (hc _ 6 L0).trans b06
    replace b07 := (hc _ 7 L0).trans b07
    replace b08 := (hc _ 8 L0).trans b08
    replace FV := Lib.hid (RowAt.below FV.out hb)
    replace R1 := Lib.hid (RowAt.below R1.out hb)
    replace R2 := Lib.hid (RowAt.below R2.out hb)
    replace R3 := Lib.hid (RowAt.below R3.out hb)
    replace L0 := Nat.lt_of_lt_of_le L0 hz
    clear hc hf hz hb
    go_wp2_with fail
    clear w1 w2
    clear b00 b01 b02 b03 b04 b05 b06 b07
    go_loopw [10] (fun v wr => ∃ i : Nat, v = .int .i64 i ∧ i ≤ l.length + 1 ∧ wr.cell? ⟨B0, 8, none⟩ = some (.slice a9 l.length cp) ∧ B0 < wr.heap.size ∧ Hid (RowAt wr a9 (mflat l)) ∧ Hid (RowAt wr a1 (nflat LL)) ∧ Hid (RowAt wr a3 (pflat S)) ∧ Below w.heap.size w wr) (fun v _ => l.length + 1 - (intOf v).toNat)
    case atStart => exact ⟨0, rfl, Nat.zero_le _, b08, L0, FV, R1, R3, HD⟩
    case round =>
      clear b08 L0 FV R1 R3 HD
      obtain ⟨i, rfl, hle, b08, L0, FV, R1, R3, HD⟩ := hrel
      by_cases h : i < l.length + 1
      case pos =>
        obtain ⟨D, r, hsq, hgr, hD1, hr0, hr3, hrD, hDr⟩ := HF.out i h
        obtain ⟨b, off, rfl, hb1, c0, c1⟩ := pt_cell R3.out (show i < S.length by rw [HSl.out]; omega)
        obtain ⟨b2, off2, e2, hb2, d0, d1⟩ := pt_cell R3.out (show i + 1 < S.length by rw [HSl.out]; omega)
        simp at e2
        obtain ⟨rfl, rfl⟩ := e2
        obtain ⟨b3, off3, rfl, hb3, n0⟩ := num_cell R1.out (show i < LL.length by rw [HLL.out]; omega)
        rw [hgr] at n0
        clear hgr
        have HMi := Lib.hid (HM.out i)
        generalize (pt S i).1 = px at *
        generalize (pt S i).2 = py at *
        obtain ⟨⟨qx, qy⟩, hq⟩ : ∃ q, q = pt S (i + 1) := ⟨_, rfl⟩
        rw [← hq] at hsq d0 d1 HMi
        clear hq
        dsimp only at hsq d0 d1
        have SQ := Lib.hid (fun w => hsq ▸ SquareDistance_c px py qx qy w)
        clear hsq
        have h' : (i : Int) < (l.length : Int) + 1 := by omega
        have hi0 : (0 : Int) ≤ (i : Int) := by omega
        have hi1 : (i : Int) < (l.length : Int) + 2 := by omega
        have hi2 : (i : Int) + 1 < (l.length : Int) + 2 := by omega
        have hi3 : IntKind.i64.wrap ((i : Int) + 1) = (i : Int) + 1 := by rw [IntKind.wrap_i64]; omega
        have hi4 : (0 : Int) ≤ (i : Int) + 1 := by omega
        go_wp2_with fail
        have hD9 := hD1
        clear hb2
        refine wp_region_later (by kernel_rfl) (by kernel_rfl) ?_
        repeat (first | go_big_quiet_step ((go_at_call 36; exact later_of _ (SQ.out _))) | quiet_step ((go_at_call 36; exact later_of _ (SQ.out _))))
        refine wpQuiet_nil ?_
        intro _ hw'
        obtain ⟨s9, hw''⟩ := hw'
        subst hw''
        have hb := s9.below
        generalize s9.w = V6 at hb ⊢
        clear s9
        replace HD := HD.trans (hb.mono HD.size)
        obtain ⟨hc, hf⟩ := bcell hb
        have hz := hb.size
        replace b08 := (hc _ 8 L0).trans b08
        replace FV := Lib.hid (RowAt.below FV.out hb)
        replace R1 := Lib.hid (RowAt.below R1.out hb)
        replace R3 := Lib.hid (RowAt.below R3.out hb)
        replace L0 := Nat.lt_of_lt_of_le L0 hz
        replace c0 := (hc _ _ hb1).trans c0
        replace c1 := (hc _ _ hb1).trans c1
        replace d0 := (hc _ _ hb1).trans d0
        replace d1 := (hc _ _ hb1).trans d1
        replace n0 := (hc _ _ hb3).trans n0
        replace hb1 := Nat.lt_of_lt_of_le hb1 hz
        replace hb3 := Nat.lt_of_lt_of_le hb3 hz
        clear hc hf hz hb
        have g0 : ¬ D = 0 := by omega
        have g0b : (D == 0) = false := by simp; omega
        have g1 : IntKind.i64.wrap (r * r) = r * r := by have := Int.mul_le_mul hr3 hr3 hr0 (by omega); have := Int.mul_nonneg hr0 hr0; rw [IntKind.wrap_i64]; omega
        have g2 : ¬ (D < r * r) := by omega
        have g3 : IntKind.i64.wrap (r + 1) = r + 1 := by rw [IntKind.wrap_i64]; omega
        have g4 : IntKind.i64.wrap ((r + 1) * (r + 1)) = (r + 1) * (r + 1) := by have := Int.mul_le_mul (show r + 1 ≤ 3000001 by omega) (show r + 1 ≤ 3000001 by omega) (by omega) (by omega); have := Int.mul_nonneg (show 0 ≤ r + 1 by omega) (show 0 ≤ r + 1 by omega); rw [IntKind.wrap_i64]; omega
        have g5 : ¬ ((r + 1) * (r + 1) ≤ D) := by omega
        clear hr0 hr3 hrD hDr hD1 hD9
        go_wp2_with fail
        refine wp_region_later (by kernel_rfl) (by kernel_rfl) ?_
        repeat (first | go_big_quiet_step (fail) | quiet_step (fail))
        refine wpQuiet_nil ?_
        intro _ hw'
        obtain ⟨s9, hw''⟩ := hw'
        subst hw''
        have hb := s9.below
        generalize s9.w = V7 at hb ⊢
        clear s9
        replace HD := HD.trans (hb.mono HD.size)
        obtain ⟨hc, hf⟩ := bcell hb
        have hz := hb.size
        replace b08 := (hc _ 8 L0).trans b08
        replace FV := Lib.hid (RowAt.below FV.out hb)
        replace R1 := Lib.hid (RowAt.below R1.out hb)
        replace R3 := Lib.hid (RowAt.below R3.out hb)
        replace L0 := Nat.lt_of_lt_of_le L0 hz
        replace c0 := (hc _ _ hb1).trans c0
        replace c1 := (hc _ _ hb1).trans c1
        replace d0 := (hc _ _ hb1).trans d0
        replace d1 := (hc _ _ hb1).trans d1
        replace n0 := (hc _ _ hb3).trans n0
        replace hb1 := Nat.lt_of_lt_of_le hb1 hz
        replace hb3 := Nat.lt_of_lt_of_le hb3 hz
        clear hc hf hz hb
        go_wp2_with fail
        clear g0 g0b g1 g2 g3 g4 g5 n0
        by_cases hm : i < l.length
        case pos =>
          obtain ⟨b4, off4, rfl, hb4, m0, m1, m2, m3, m4⟩ := mark_cell FV.out hm
          have hMM := HMi.out hm
          simp only [Prod.mk.injEq] at hMM
          rw [← hMM.1] at m1
          rw [← hMM.2] at m2
          clear hMM HMi
          have hmi : (i : Int) < (l.length : Int) := by omega
          refine wp_region_later (by kernel_rfl) (by kernel_rfl) ?_
          repeat (first | go_big_quiet_step (fail) | quiet_step (fail))
          refine wpQuiet_nil ?_
          intro _ hw'
          obtain ⟨s9, hw''⟩ := hw'
          subst hw''
          have hb := s9.below
          generalize s9.w = V8 at hb ⊢
          clear s9
          replace HD := HD.trans (hb.mono HD.size)
          obtain ⟨hc, hf⟩ := bcell hb
          have hz := hb.size
          replace b08 := (hc _ 8 L0).trans b08
          replace FV := Lib.hid (RowAt.below FV.out hb)
          replace R1 := Lib.hid (RowAt.below R1.out hb)
          replace R3 := Lib.hid (RowAt.below R3.out hb)
          replace L0 := Nat.lt_of_lt_of_le L0 hz
          clear hc hf hz hb
          go_wp2_with fail
          exact ⟨⟨i + 1, by simp, by omega, b08, L0, FV, R1, R3, HD⟩, by simp [intOf]; omega⟩
        case neg =>
          have hmi : ¬ (i : Int) < (l.length : Int) := by omega
          refine wp_region_later (by kernel_rfl) (by kernel_rfl) ?_
          repeat (first | go_big_quiet_step (fail) | quiet_step (fail))
          refine wpQuiet_nil ?_
          intro _ hw'
          obtain ⟨s9, hw''⟩ := hw'
          subst hw''
          have hb := s9.below
          generalize s9.w = V8 at hb ⊢
          clear s9
          replace HD := HD.trans (hb.mono HD.size)
          obtain ⟨hc, hf⟩ := bcell hb
          have hz := hb.size
          replace b08 := (hc _ 8 L0).trans b08
          replace FV := Lib.hid (RowAt.below FV.out hb)
          replace R1 := Lib.hid (RowAt.below R1.out hb)
          replace R3 := Lib.hid (RowAt.below R3.out hb)
          replace L0 := Nat.lt_of_lt_of_le L0 hz
          clear hc hf hz hb
          go_wp2_with fail
          exact ⟨⟨i + 1, by simp, by omega, b08, L0, FV, R1, R3, HD⟩, by simp [intOf]; omega⟩
      case neg =>
        have h' : ¬ (i : Int) < (l.length : Int) + 1 := by omega
        go_wp2_with fail
        go_ret
        exact ⟨rfl, HD⟩

theorem own : ownKnob Tryd.prog.godebug = none := by kernel_rfl
theorem laidOut : laidOutB Tryd.prog = true := by kernel_rfl
set_option maxRecDepth 100000 in
theorem lifted (os : Os) (started : os.Started) (H : Type) (enc : TypeId × Value → H) :
    ReturnsInHanded {} Tryd.checked os 8 .any (fun w args => (Rows.fnLegsSpec.pre enc Tryd.prog Tryd.f8 Rows.fnLegsRow.domain false w args ∧ laidMetH Tryd.prog Rows.fnLegsRow.laid w) ∧ sizedMet enc Tryd.prog Tryd.f8 (OpenSpec.ofChange Rows.fnLegsSpec) false w args)
      (Rows.fnLegsSpec.post enc Tryd.prog Tryd.f8 false true false false) := by
  refine returnsInHanded_of_change_and (C := Tryd.checked) (X := fun w _ => laidMetH Tryd.prog Rows.fnLegsRow.laid w) (fun _ _ _ hh h => h.of_heap hh) own started (by kernel_rfl) Tryd.func8
    (ChangeSpec.witness_shaped (enc := enc) (C := Tryd.checked) (os := os) (X := fun w _ => laidMetH Tryd.prog Rows.fnLegsRow.laid w) false (World.laidAll Tryd.prog os Rows.fnLegsRow.laid) #[.slice none 0 0] 8 (World.laidAll_os _ _ _)
      (World.shaped_of_ZipB (by kernel_rfl) (by kernel_rfl)) (by kernel_rfl) (by kernel_rfl) (by kernel_rfl)
      (by rw [MakeChecks.laidMetH_plain _ _ _ (by kernel_rfl)]; exact laidMet_laidAll _ (by kernel_rfl) (by kernel_rfl))) ?_
  intro W base args ds gs before hval0 hW _ _ hLaid _
  have hval : ∀ (j : Nat) t v, Tryd.f8.params[j]? = some t → args[j]? = some v → Value.okWide Tryd.prog W .any base t v := hval0
  have hW' := hW
  obtain ⟨p, q, hA0, hV, rfl, hfz, hnd⟩ := hW
  have hA : DataW.TrodAll enc Tryd.prog W 0 (fun _ => true) true Tryd.f8.params.toList args.toList ds p := hA0
  rw [Tryd.params8] at hA hval
  obtain ⟨v0, vs0, d0, ds0, p0, q0, hargs, rfl, rfl, h0, r0⟩ := trodAll_cons hA
  obtain ⟨rfl, rfl, rfl⟩ := trodAll_nil r0
  obtain rfl : args = #[v0] := by cases args; simp_all
  obtain ⟨rfl, rfl⟩ := trodVars_none hV
  have k0 := h0
  have lt0 : ∀ x ∈ p0, x.block < W.heap.size := by obtain ⟨m, hm⟩ := k0; exact DataW.trod_lt m _ _ _ hm
  obtain ⟨⟨a0, cap0⟩, n0, rfl, w0⟩ := open_bytes Tryd.underlying43 Tryd.underlying5 (by kernel_rfl) (hval 0 43 v0 rfl rfl) h0
  clear hA0 hval0
  refine (walk a0 cap0 n0 W w0).mono fun e W' ⟨he, bel⟩ => ?_
  subst he
  exact ⟨_, rfl, _, _, _, [], _, [], hW', trodAll_mk1 (shut_bool Tryd.underlying4 _), (trodAll_cons_mk (Below.trod laidOut (by kernel_rfl) (of_decide_eq_true (by kernel_rfl)) k0 bel lt0) trodAll_mk0), rfl, bel.frame _, fun h => by cases h⟩

theorem over : Rows.fnLegsRow.holds Tryd.pinned (OpenSpec.ofChange Rows.fnLegsSpec) :=
  OpenClaim.holds_of_wide 8 Tryd.f8 rfl rfl rfl rfl rfl rfl rfl ⟨rfl, rfl, rfl, rfl, rfl⟩ rfl rfl rfl rfl rfl (by kernel_rfl) Tryd.func8 (by kernel_rfl)
    (of_decide_eq_true (by kernel_rfl)) (by unfold Func.isWrapper; first | (rw [if_pos (by decide +kernel)]; kernel_rfl) | (rw [if_neg (by decide +kernel)]; exact ⟨rfl, rfl⟩))
    (fun os started H enc _ => lifted os started H enc)

theorem carded : Rows.FnLegsCardSaid :=
  Claim7.holds_tied_plain_at .later [] [.data, .pinned] true (true, "307a91a8220387b471f0a43c3da6393a48704f163f4c354a897a299e0390cb65") false over (fun _ h => by cases h) (by kernel_rfl) (fun _ h => by cases h) fnLegs_row_tie rfl ⟨rfl, rfl⟩ (by kernel_rfl) rfl
    (fun f fn hf hfn => by
      obtain rfl : f = 8 := Option.some.inj ((show Tryd.prog.funcNamed "loop.example/g00887/laws.FnLegs" = some 8 by kernel_rfl).symm.trans hf) |>.symm
      obtain rfl : fn = Tryd.f8 := (Option.some.inj (Tryd.func8.symm.trans hfn)).symm
      exact ⟨by kernel_rfl, fun j t ht => by
        rw [Tryd.params8] at ht
        have hm : t ∈ [43] := by simpa using Array.mem_of_getElem? ht
        have hall : ([43].all fun u => !Tryd.prog.wantsStandIn u) = true := by kernel_rfl
        exact (show Tryd.prog.wantsStandIn t = false by simpa using List.all_eq_true.1 hall t hm)⟩)
    (by kernel_rfl)

/-- The statement. -/
theorem proved : Rows.FnLegsCardSaid := carded
end Go.Proofs.YtbeigoejdckpiaaDoor.fnLegs
