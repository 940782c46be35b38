/-
  FnSpeed: for every code the law's function answers true. No condition.
-/
import Derived.Test.YtdepdkpehbkcjaaRows
import Derived.Test.YtdepdkpehbkcjaaTdraw5
import Derived.Test.YtdepdkpehbkcjaaL03s
namespace Go.Proofs.Ytdepdkpehbkcjaa.fnSpeed
open Go.ChangeShapes Go.WideShapes Go.ChangeAt Go.RowKit Go.Deep
open Go.ChangeMaps (open_string shut_string)
set_option linter.unusedVariables false

theorem fixC {w : World} {r k : Nat} {l : List Fx} (h : FixAt w (some ⟨r, 0, none⟩) l) (hk : k < l.length) : w.cell? ⟨r, k * 3, none⟩ = some (.int .i64 (fx l k).t) ∧ w.cell? ⟨r, k * 3 + 1, none⟩ = some (.int .i64 (fx l k).x) ∧ w.cell? ⟨r, k * 3 + 2, none⟩ = some (.int .i64 (fx l k).y) ∧ r < w.heap.size := by
  obtain ⟨b, off, ha, hlt, c0, c1, c2⟩ := h k _ (fx_of hk)
  simp at ha
  obtain ⟨rfl, rfl⟩ := ha
  exact ⟨by simpa using c0, by simpa using c1, by simpa using c2, hlt⟩
theorem sq_shift (a b c d : Int) : sqZ a b c d = sqZ 0 0 (c - a) (d - b) := by unfold sqZ; grind
theorem sq_range {a b c d : Int} (h1 : isPt a b = true) (h2 : isPt c d = true) : 0 ≤ sqZ a b c d ∧ sqZ a b c d ≤ 8000000000000 := by
  have p := isPt_true h1
  have q := isPt_true h2
  have e1 : -2000000 ≤ a - c ∧ a - c ≤ 2000000 := by omega
  have e2 : -2000000 ≤ b - d ∧ b - d ≤ 2000000 := by omega
  unfold sqZ
  generalize a - c = x at *
  generalize b - d = y at *
  have x0 := Int.mul_nonneg (show 0 ≤ 2000000 - x by omega) (show 0 ≤ 2000000 + x by omega)
  have y0 := Int.mul_nonneg (show 0 ≤ 2000000 - y by omega) (show 0 ≤ 2000000 + y by omega)
  have nn : ∀ z : Int, 0 ≤ z * z := fun z => by
    rcases Int.le_total 0 z with g | g
    · exact Int.mul_nonneg g g
    · have := Int.mul_nonneg (show 0 ≤ -z by omega) (show 0 ≤ -z by omega)
      rwa [Int.neg_mul_neg] at this
  have x1 := nn x
  have y1 := nn y
  have ex : (2000000 - x) * (2000000 + x) = 4000000000000 - x * x := by grind
  have ey : (2000000 - y) * (2000000 + y) = 4000000000000 - y * y := by grind
  omega
theorem speed_law {l : List Fx} (h : isTrk l = true) {k : Nat} (hk : k + 1 < l.length) (hn : spdZ l k ≠ 1000000) : rootR (1000000 * sqZ (fx l k).x (fx l k).y (fx l (k + 1)).x (fx l (k + 1)).y / (((fx l (k + 1)).t - (fx l k).t) * ((fx l (k + 1)).t - (fx l k).t))) = (spdZ l k, 0) := by
  obtain ⟨p1, p2, t0, t1, t2⟩ := leg_facts h hk
  have hs := sq_range p1 p2
  rw [sq_shift] at hs ⊢
  unfold spdZ spdN at *
  generalize sqZ 0 0 ((fx l (k + 1)).x - (fx l k).x) ((fx l (k + 1)).y - (fx l k).y) = S at *
  have e := speed_eq (N := 1000000 * S) (d := (fx l (k + 1)).t - (fx l k).t) (by omega) (by omega)
  have hd : 1 ≤ (fx l (k + 1)).t - (fx l k).t := by omega
  generalize (fx l (k + 1)).t - (fx l k).t = d at *
  have hdd : 0 < d * d := Int.mul_pos (by omega) (by omega)
  have q0 : 0 ≤ 1000000 * S / (d * d) := Int.ediv_nonneg (by omega) (by omega)
  have hr : (1000000 * S / (d * d)) < 1000000000000 := by
    rcases Int.lt_or_le (1000000 * S / (d * d)) 1000000000000 with g | g
    · exact g
    · rw [Int.min_eq_left g] at e
      have r := rootZ_is (n := 1000000000000) (by omega)
      have : rootZ 1000000000000 = 1000000 := by
        have := root_eq (n := 1000000000000) (r := 1000000) (by omega) (by omega) (by omega)
        omega
      omega
  rw [Int.min_eq_right (Int.le_of_lt hr)] at e
  have hi : inR (1000000 * S / (d * d)) 0 1000000000000000000 = true := by simp [inR]; omega
  simp only [rootR, hi, if_true, e]

set_option maxRecDepth 100000 in
set_option maxHeartbeats 2000000 in
theorem walk (a : Option Addr) (cap n : Nat) (w : World) (w0 : n ≤ 9223372036854775807 ∧ BytesB w.heap.size w a n) :
    Calls Try.prog 3 #[.slice a n cap] w fun e w' => e = .returned (.bool true) ∧ Below w.heap.size w w' := by
  obtain ⟨hn, hb⟩ := w0
  have HB := Lib.hid hb
  clear hb
  by_cases h : (4096 : Int) < (n : Int)
  · have CB := Lib.hid (fun w => big_t a n cap w hn h)
    go_enter Try.func3, Try.ntmps3
    go_wp2_with (go_at_call 13; refine (CB.out _).mono ?_; rintro e w' ⟨rfl, rfl⟩)
    go_ret
    exact ⟨rfl, (by repeat (first | with_reducible exact Below.refl _ _ | with_reducible assumption | with_reducible refine Below.drew ?_ | with_reducible refine Below.alloc ?_ (by first | exact Nat.le_refl _ | (simp; done) | (simp; omega) | omega) _ | with_reducible refine Below.setCell ?_ (by first | exact Nat.le_refl _ | (simp; done) | (simp; omega) | omega) _ | with_reducible refine Below.trans ?_ (Below.mono (by with_reducible assumption) (by first | exact Nat.le_refl _ | (simp; done) | (simp; omega) | omega))))⟩
  have CB := Lib.hid (fun w => big_f a n cap w hn h)
  clear h
  go_enter Try.func3, Try.ntmps3
  go_wp2_with (go_at_call 13; refine (CB.out _).mono ?_; rintro e w' ⟨rfl, rfl⟩)
  refine (DrawSpeedOf_c a n cap _ hn (bytes_at HB.out (by repeat (first | with_reducible exact Below.refl _ _ | with_reducible assumption | with_reducible refine Below.drew ?_ | with_reducible refine Below.alloc ?_ (by first | exact Nat.le_refl _ | (simp; done) | (simp; omega) | omega) _ | with_reducible refine Below.setCell ?_ (by first | exact Nat.le_refl _ | (simp; done) | (simp; omega) | omega) _ | with_reducible refine Below.trans ?_ (Below.mono (by with_reducible assumption) (by first | exact Nat.le_refl _ | (simp; done) | (simp; omega) | omega)))))).mono ?_
  rintro e V1 ⟨⟨r, cp, l, x, rfl, hl0, hl1, ho⟩, hbV⟩
  clear CB HB
  have hzV := hbV.size
  go_wp2_with fail
  obtain ⟨W, hW⟩ : ∃ W, W = (V1.alloc (.cells #[.slice (some ⟨r, 0, none⟩) l.length cp] 26)) := ⟨_, rfl⟩
  have HD : Below w.heap.size w W := by subst hW; exact (by repeat (first | with_reducible exact Below.refl _ _ | with_reducible assumption | with_reducible refine Below.drew ?_ | with_reducible refine Below.alloc ?_ (by first | exact Nat.le_refl _ | (simp; done) | (simp; omega) | omega) _ | with_reducible refine Below.setCell ?_ (by first | exact Nat.le_refl _ | (simp; done) | (simp; omega) | omega) _ | with_reducible refine Below.trans ?_ (Below.mono (by with_reducible assumption) (by first | exact Nat.le_refl _ | (simp; done) | (simp; omega) | omega))))
  have HV : Below V1.heap.size V1 W := by subst hW; exact (by repeat (first | with_reducible exact Below.refl _ _ | with_reducible assumption | with_reducible refine Below.drew ?_ | with_reducible refine Below.alloc ?_ (by first | exact Nat.le_refl _ | (simp; done) | (simp; omega) | omega) _ | with_reducible refine Below.setCell ?_ (by first | exact Nat.le_refl _ | (simp; done) | (simp; omega) | omega) _ | with_reducible refine Below.trans ?_ (Below.mono (by with_reducible assumption) (by first | exact Nat.le_refl _ | (simp; done) | (simp; omega) | omega))))
  have b00 : W.cell? ⟨V1.heap.size, 0, none⟩ = some (.slice (some ⟨r, 0, none⟩) l.length cp) := by subst hW; simp [go_sem]
  have L0 : V1.heap.size < W.heap.size := by subst hW; first | (simp; done) | (simp; omega)
  rw [← hW]
  clear hW
  obtain ⟨B0, hB0⟩ : ∃ B, B = V1.heap.size := ⟨_, rfl⟩
  rw [← hB0] at b00 L0
  try rw [← hB0]
  replace hB0 := Lib.hid hB0
  have hn2 : l.length ≤ 4611686018427387904 := by omega
  have FV := Lib.hid (FixAt.below (fixAt_own ho) HV)
  clear ho HV
  have C1 := Lib.hid (fun W h => SpeedOf_c (some ⟨r, 0, none⟩) cp l x W hn2 h)
  have C2 := Lib.hid (fun W h => SpeedOfS_c (some ⟨r, 0, none⟩) cp l x W hn2 h)
  by_cases E : (speedR l x).2 = 0 ∧ (speedR l x).1 ≠ 1000000
  case neg =>
    generalize (speedR l x).1 = N at *
    generalize (speedR l x).2 = M at *
    refine (C1.out _ FV.out).mono ?_
    rintro e U1 ⟨rfl, hb⟩
    replace HD := HD.trans (hb.mono HD.size)
    obtain ⟨hc, hf⟩ := bcell hb
    have hz := hb.size
    replace b00 := (hc _ 0 L0).trans b00
    replace FV := Lib.hid (FixAt.below FV.out hb)
    replace L0 := Nat.lt_of_lt_of_le L0 hz
    clear hc hf hz hb
    go_wp2_with fail
    refine (C2.out _ FV.out).mono ?_
    rintro e U2 ⟨rfl, hb⟩
    replace HD := HD.trans (hb.mono HD.size)
    obtain ⟨hc, hf⟩ := bcell hb
    have hz := hb.size
    replace b00 := (hc _ 0 L0).trans b00
    replace FV := Lib.hid (FixAt.below FV.out hb)
    replace L0 := Nat.lt_of_lt_of_le L0 hz
    clear hc hf hz hb
    by_cases hM : M = 0
    · have hN : N = 1000000 := by omega
      subst hN hM
      go_wp2_with fail
      go_ret
      exact ⟨rfl, HD⟩
    · go_wp2_with fail
      go_ret
      exact ⟨rfl, HD⟩
  case pos =>
    obtain ⟨E1, E2⟩ := E
    have hT : isTrk l = true := by unfold speedR at E1; split at E1 <;> first | assumption | (simp at E1)
    have hI : inR x 0 ((l.length : Int) - 2) = true := by unfold speedR at E1; rw [if_pos hT] at E1; split at E1 <;> first | assumption | (simp at E1)
    have hx := inR_true hI
    obtain ⟨k, rfl⟩ := Int.eq_ofNat_of_zero_le hx.1
    have hk1 : k + 1 < l.length := by omega
    have E3 : speedR l (k : Int) = (spdZ l k, 0) := by simp only [speedR, if_pos hT, if_pos hI, Int.toNat_natCast]
    rw [E3] at C1 C2 E2
    have EL := speed_law hT hk1 E2
    obtain ⟨p1, p2, t0, t1, t2⟩ := leg_facts hT hk1
    have hs := sq_range p1 p2
    have EQ : sqR (fx l k).x (fx l k).y (fx l (k + 1)).x (fx l (k + 1)).y = (sqZ (fx l k).x (fx l k).y (fx l (k + 1)).x (fx l (k + 1)).y, 0) := by simp [sqR, p1, p2]
    have C3 := Lib.hid (fun W => EQ ▸ SquareDistance_c (fx l k).x (fx l k).y (fx l (k + 1)).x (fx l (k + 1)).y W)
    have C4 := Lib.hid (fun W => EL ▸ RootOf_c (1000000 * sqZ (fx l k).x (fx l k).y (fx l (k + 1)).x (fx l (k + 1)).y / (((fx l (k + 1)).t - (fx l k).t) * ((fx l (k + 1)).t - (fx l k).t))) W)
    simp only at C1 C2 E2
    clear E1 E3 EL EQ hT hI p1 p2
    generalize spdZ l k = N at *
    generalize sqZ (fx l k).x (fx l k).y (fx l (k + 1)).x (fx l (k + 1)).y = S at *
    refine (C1.out _ FV.out).mono ?_
    rintro e U1 ⟨rfl, hb⟩
    replace HD := HD.trans (hb.mono HD.size)
    obtain ⟨hc, hf⟩ := bcell hb
    have hz := hb.size
    replace b00 := (hc _ 0 L0).trans b00
    replace FV := Lib.hid (FixAt.below FV.out hb)
    replace L0 := Nat.lt_of_lt_of_le L0 hz
    clear hc hf hz hb
    go_wp2_with fail
    refine (C2.out _ FV.out).mono ?_
    rintro e U2 ⟨rfl, hb⟩
    replace HD := HD.trans (hb.mono HD.size)
    obtain ⟨hc, hf⟩ := bcell hb
    have hz := hb.size
    replace b00 := (hc _ 0 L0).trans b00
    replace FV := Lib.hid (FixAt.below FV.out hb)
    replace L0 := Nat.lt_of_lt_of_le L0 hz
    clear hc hf hz hb
    go_wp2_with fail
    obtain ⟨c0, c1, c2, LR⟩ := fixC FV.out (show k < l.length by omega)
    obtain ⟨d0, d1, d2, _⟩ := fixC FV.out hk1
    have i1 : (k : Int) < (l.length : Int) := by omega
    have i2 : (k : Int) + 1 < (l.length : Int) := by omega
    have i3 : IntKind.i64.wrap ((k : Int) + 1) = (k : Int) + 1 := by rw [IntKind.wrap_i64]; omega
    have i4 : (0 : Int) ≤ (k : Int) + 1 := by omega
    go_cut [9, 10] (fun s9 s10 wx => ∃ g0 g1 : Nat, s9 = .pointer (some ⟨g0, 0, none⟩) ∧ s10 = .pointer (some ⟨g1, 0, none⟩) ∧ wx.cell? ⟨g0, 0, none⟩ = some (.int .i64 (fx l k).t) ∧ wx.cell? ⟨g0, 1, none⟩ = some (.int .i64 (fx l k).x) ∧ wx.cell? ⟨g0, 2, none⟩ = some (.int .i64 (fx l k).y) ∧ wx.cell? ⟨g1, 0, none⟩ = some (.int .i64 (fx l (k + 1)).t) ∧ wx.cell? ⟨g1, 1, none⟩ = some (.int .i64 (fx l (k + 1)).x) ∧ wx.cell? ⟨g1, 2, none⟩ = some (.int .i64 (fx l (k + 1)).y) ∧ g0 < wx.heap.size ∧ g1 < wx.heap.size ∧ Below U2.heap.size U2 wx)
    case first =>
      go_region_held3 (fun wx => Below U2.heap.size U2 wx ∧ ∀ b o, b < U2.heap.size → wx.cell? ⟨b, o, none⟩ = U2.cell? ⟨b, o, none⟩)
        (first | with_reducible exact held_step (by assumption) hb | with_reducible exact held_alloc (by assumption) _ | exact held_of (by repeat (first | with_reducible exact Below.refl _ _ | with_reducible assumption | with_reducible refine Below.drew ?_ | with_reducible refine Below.alloc ?_ (by first | exact Nat.le_refl _ | (simp; done) | (simp; omega) | omega) _ | with_reducible refine Below.setCell ?_ (by first | exact Nat.le_refl _ | (simp; done) | (simp; omega) | omega) _ | with_reducible refine Below.trans ?_ (Below.mono (by with_reducible assumption) (by first | exact Nat.le_refl _ | (simp; done) | (simp; omega) | omega)))))
        (first | fail)
      all_goals (go_wp2_with fail; go_meet; exact ⟨_, _, rfl, rfl, (by go_light; go_simp), (by go_light; go_simp), (by go_light; go_simp), (by go_light; go_simp), (by go_light; go_simp), (by go_light; go_simp), (by go_light; first | (simp; done) | (simp; omega) | omega), (by go_light; first | (simp; done) | (simp; omega) | omega), (held_of (by with_reducible exact And.left (by with_reducible assumption))).1⟩)
    case rest =>
      obtain ⟨C7, C8, rfl, rfl, k70, k71, k72, k80, k81, k82, K7, K8, hb⟩ := hcut
      obtain ⟨U3, rfl⟩ : ∃ x : World, x = wc := ⟨_, rfl⟩
      replace HD := HD.trans (hb.mono HD.size)
      obtain ⟨hc, hf⟩ := bcell hb
      have hz := hb.size
      replace b00 := (hc _ 0 L0).trans b00
      replace FV := Lib.hid (FixAt.below FV.out hb)
      replace L0 := Nat.lt_of_lt_of_le L0 hz
      clear hc hf hz hb
      clear c0 c1 c2 d0 d1 d2 LR i1 i2 i3 i4
      go_wp2_with fail
      have hD1 : 1 ≤ ((fx l (k + 1)).t - (fx l k).t) := by omega
      have hD2 : ((fx l (k + 1)).t - (fx l k).t) ≤ 1000000000 := by omega
      have w1 : IntKind.i64.wrap ((fx l (k + 1)).t - (fx l k).t) = ((fx l (k + 1)).t - (fx l k).t) := by rw [IntKind.wrap_i64]; omega
      have w2 : IntKind.i64.wrap (1000000 * S) = 1000000 * S := by rw [IntKind.wrap_i64]; omega
      have hD3 : ((fx l (k + 1)).t - (fx l k).t) * ((fx l (k + 1)).t - (fx l k).t) ≤ 1000000000 * 1000000000 := Int.mul_le_mul hD2 hD2 (by omega) (by omega)
      have hD4 : 1 * 1 ≤ ((fx l (k + 1)).t - (fx l k).t) * ((fx l (k + 1)).t - (fx l k).t) := Int.mul_le_mul hD1 hD1 (by omega) (by omega)
      have w3 : IntKind.i64.wrap (((fx l (k + 1)).t - (fx l k).t) * ((fx l (k + 1)).t - (fx l k).t)) = ((fx l (k + 1)).t - (fx l k).t) * ((fx l (k + 1)).t - (fx l k).t) := by rw [IntKind.wrap_i64]; omega
      have w5 : ((fx l (k + 1)).t - (fx l k).t) * ((fx l (k + 1)).t - (fx l k).t) ≠ 0 := by omega
      have w4 : (1000000 * S).tdiv (((fx l (k + 1)).t - (fx l k).t) * ((fx l (k + 1)).t - (fx l k).t)) = 1000000 * S / (((fx l (k + 1)).t - (fx l k).t) * ((fx l (k + 1)).t - (fx l k).t)) := Int.tdiv_eq_ediv_of_nonneg (by omega)
      have q0 : 0 ≤ (1000000 * S / (((fx l (k + 1)).t - (fx l k).t) * ((fx l (k + 1)).t - (fx l k).t))) := Int.ediv_nonneg (by omega) (by omega)
      have q1 : (1000000 * S / (((fx l (k + 1)).t - (fx l k).t) * ((fx l (k + 1)).t - (fx l k).t))) ≤ 1000000 * S := Int.ediv_le_self _ (by omega)
      have w6 : wrap64 (1000000 * S / (((fx l (k + 1)).t - (fx l k).t) * ((fx l (k + 1)).t - (fx l k).t))) = (1000000 * S / (((fx l (k + 1)).t - (fx l k).t) * ((fx l (k + 1)).t - (fx l k).t))) := by generalize (1000000 * S / (((fx l (k + 1)).t - (fx l k).t) * ((fx l (k + 1)).t - (fx l k).t))) = z at *; unfold wrap64; omega
      refine (C3.out _).mono ?_
      rintro e U4 ⟨rfl, hb⟩
      replace HD := HD.trans (hb.mono HD.size)
      obtain ⟨hc, hf⟩ := bcell hb
      have hz := hb.size
      replace b00 := (hc _ 0 L0).trans b00
      replace k70 := (hc _ 0 K7).trans k70
      replace k71 := (hc _ 1 K7).trans k71
      replace k72 := (hc _ 2 K7).trans k72
      replace k80 := (hc _ 0 K8).trans k80
      replace k81 := (hc _ 1 K8).trans k81
      replace k82 := (hc _ 2 K8).trans k82
      replace FV := Lib.hid (FixAt.below FV.out hb)
      replace L0 := Nat.lt_of_lt_of_le L0 hz
      replace K7 := Nat.lt_of_lt_of_le K7 hz
      replace K8 := Nat.lt_of_lt_of_le K8 hz
      clear hc hf hz hb
      go_wp2_with fail
      refine (C4.out _).mono ?_
      rintro e w9 ⟨rfl, rfl⟩
      go_wp2_with fail
      go_ret
      exact ⟨rfl, HD⟩

theorem own : ownKnob Try.prog.godebug = none := by kernel_rfl
theorem laidOut : laidOutB Try.prog = true := by kernel_rfl
set_option maxRecDepth 100000 in
theorem lifted (os : Os) (started : os.Started) (H : Type) (enc : TypeId × Value → H) :
    ReturnsInHanded {} Try.checked os 3 .any (Rows.fnSpeedSpec.pre6 enc Try.prog Try.f3 Rows.fnSpeedRow.domain false) (Rows.fnSpeedSpec.post enc Try.prog Try.f3 false true false false) := by
  refine returnsInHanded_of_change (C := Try.checked) own started (by kernel_rfl) Try.func3
    (ChangeSpec.witness6 (enc := enc) (C := Try.checked) false ⟨#[], #[.slice none 0 0], []⟩ 8 (by kernel_rfl) (by kernel_rfl) (by kernel_rfl) (by kernel_rfl)) ?_
  intro W base args ds gs before hval0 hW hcnd _
  have hval : ∀ (j : Nat) t v, Try.f3.params[j]? = some t → args[j]? = some v → Value.okWide Try.prog W .any base t v := hval0
  have hW' := hW
  obtain ⟨p, q, hA0, hV, rfl, hfz, hnd⟩ := hW
  have hA : DataW.TrodAll enc Try.prog W 0 (fun _ => true) true Try.f3.params.toList args.toList ds p := hA0
  rw [Try.params3] at hA hval
  obtain ⟨v0, vs0, d0, ds0, p0, q0, hargs, rfl, rfl, h0, r0⟩ := trodAll_cons hA
  obtain ⟨rfl, rfl, rfl⟩ := trodAll_nil r0
  obtain rfl : args = #[v0] := by cases args; simp_all
  obtain ⟨rfl, rfl⟩ := trodVars_none hV
  have k0 := h0
  have lt0 : ∀ x ∈ p0, x.block < W.heap.size := by obtain ⟨m, hm⟩ := k0; exact DataW.trod_lt m _ _ _ hm
  obtain ⟨⟨a0, cap0⟩, n0, rfl, w0⟩ := open_bytes Try.underlying22 Try.underlying5 (by kernel_rfl) (hval 0 22 v0 rfl rfl) h0
  clear hA0 hval0
  refine (walk a0 cap0 n0 W w0).mono fun e W' ⟨he, bel⟩ => ?_
  subst he
  exact ⟨_, rfl, _, _, _, [], _, [], hW', trodAll_mk1 (shut_bool Try.underlying4 _), (trodAll_cons_mk (Below.trod laidOut (by kernel_rfl) (of_decide_eq_true (by kernel_rfl)) k0 bel lt0) trodAll_mk0), rfl, bel.frame _, fun h => by cases h⟩

theorem over : Rows.fnSpeedRow.holds Try.pinned (OpenSpec.ofChange Rows.fnSpeedSpec) :=
  OpenClaim.holds_of_wide 3 Try.f3 rfl rfl rfl rfl rfl rfl rfl ⟨rfl, rfl, rfl, rfl, rfl⟩ rfl rfl rfl rfl rfl (by kernel_rfl) Try.func3 (by kernel_rfl)
    (of_decide_eq_true (by kernel_rfl)) (by unfold Func.isWrapper; first | (rw [if_pos (by decide +kernel)]; kernel_rfl) | (rw [if_neg (by decide +kernel)]; exact ⟨rfl, rfl⟩))
    (fun os started H enc _ => lifted os started H enc)

/-- The statement. -/
theorem proved : Rows.FnSpeedSaid := over
end Go.Proofs.Ytdepdkpehbkcjaa.fnSpeed
