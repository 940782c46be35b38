/-
  Crossings: the exact time of one, and what its comparison answers: plain functions; the divider by thousands. Conditions stand with each.
-/
import Derived.Test.YtdepdkpehbkcjaaDiv3
import Derived.Test.YtdepdkpehbkcjaaL03k
namespace Go.Proofs.Ytdepdkpehbkcjaa
set_option linter.unusedVariables false
open Go.RowKit Go.Deep

def placeOK (n d : Int) : Bool := inR d 1 100000000000000 && inR n 0 d
theorem placeOK_true {n d : Int} (h : placeOK n d = true) : 1 ≤ d ∧ d ≤ 100000000000000 ∧ 0 ≤ n ∧ n ≤ d := by
  simp only [placeOK, Bool.and_eq_true] at h
  have h1 := inR_true h.1
  have h2 := inR_true h.2
  exact ⟨h1.1, h1.2, h2.1, h2.2⟩
def lapZ (l : List Fx) (k : Nat) : Int := (fx l (k + 1)).t - (fx l k).t
def wholeZ (l : List Fx) (k : Nat) (n d : Int) : Int := (fx l k).t + lapZ l k * n / d
def restZ (l : List Fx) (k : Nat) (n d : Int) : Int := lapZ l k * n % d
def rightB (l : List Fx) (leg n d : Int) : Bool := inR leg 0 ((l.length : Int) - 2) && placeOK n d
def cmpCr (l : List Fx) (i n d : Int) (m : List Fx) (j n' d' : Int) : Int :=
  if wholeZ l i.toNat n d = wholeZ m j.toNat n' d' then cmpZ (restZ l i.toNat n d) d (restZ m j.toNat n' d') d' else sgn (wholeZ l i.toNat n d - wholeZ m j.toNat n' d')
def cmpCrR (l : List Fx) (i n d : Int) (m : List Fx) (j n' d' : Int) : Int × Int :=
  if isTrk l = true ∧ isTrk m = true then (if rightB l i n d = true ∧ rightB m j n' d' = true then (cmpCr l i n d m j n' d', 0) else (0, 2)) else (0, 1)
theorem div_step {p num den d : Int} (hd : 1 ≤ den) : 1000 * (p * num / den) + (p * num % den * 1000 + d * num) / den = (1000 * p + d) * num / den ∧ (p * num % den * 1000 + d * num) % den = (1000 * p + d) * num % den := by
  have h1 := Int.mul_ediv_add_emod (p * num) den
  generalize p * num / den = q at *
  generalize p * num % den = r at *
  have e : (1000 * p + d) * num = (r * 1000 + d * num) + den * (1000 * q) := by
    have : (1000 * p + d) * num = 1000 * (p * num) + d * num := by grind
    rw [this, ← h1]; grind
  rw [e, Int.add_mul_ediv_left _ _ (by omega), Int.add_mul_emod_self_left]
  exact ⟨by omega, rfl⟩
theorem lap_bd {l : List Fx} (h : isTrk l = true) {k : Nat} (hk : k + 1 < l.length) : 1 ≤ lapZ l k ∧ lapZ l k ≤ 1000000000 ∧ 0 ≤ (fx l k).t ∧ (fx l k).t ≤ 1000000000 := by
  obtain ⟨_, _, a, b, c⟩ := leg_facts h hk
  unfold lapZ
  omega
theorem rest_wrap {x n d : Int} (hd : 1 ≤ d) (hd2 : d ≤ 100000000000000) : IntKind.i64.wrap (IntKind.i64.wrap (x * n) - IntKind.i64.wrap (x * n / d * d)) = x * n % d := by
  have h1 := Int.mul_ediv_add_emod (x * n) d
  have h2 := Int.emod_nonneg (x * n) (show d ≠ 0 by omega)
  have h3 := Int.emod_lt_of_pos (x * n) (show 0 < d by omega)
  rw [Int.mul_comm (x * n / d) d]
  generalize d * (x * n / d) = q at *
  generalize x * n % d = r at *
  rw [← h1]
  simp only [IntKind.wrap_i64]
  omega
set_option maxHeartbeats 400000 in
theorem isPlace_c (n d : Int) (w : World) : Calls Try.prog 80 #[.agg #[.int .i64 n, .int .i64 d]] w fun e w' => e = .returned (.bool (placeOK n d)) ∧ Below w.heap.size w w' := by
  cases h1 : inR d 1 100000000000000
  all_goals
    go_enter Try.func80, Try.ntmps80
    go_wp2_with (go_at_call 65; refine (within_c _ _ _ _).mono ?_; rintro e w' ⟨rfl, rfl⟩)
    go_ret
    exact ⟨by simp [placeOK, h1], (by repeat (first | with_reducible exact Below.refl _ _ | with_reducible assumption | with_reducible refine Below.drew ?_ | with_reducible refine Below.alloc ?_ (by first | exact Nat.le_refl _ | (simp; done) | (simp; omega) | omega) _ | with_reducible refine Below.setCell ?_ (by first | exact Nat.le_refl _ | (simp; done) | (simp; omega) | omega) _ | with_reducible refine Below.trans ?_ (Below.mono (by with_reducible assumption) (by first | exact Nat.le_refl _ | (simp; done) | (simp; omega) | omega))))⟩
theorem div_round {p q r d num den : Int} (hd : 1 ≤ den) (hd2 : den ≤ 100000000000000) (h0 : 0 ≤ num) (h1 : num ≤ den) (hq : q = p * num / den) (hr : r = p * num % den) (hp : 0 ≤ p) (d0 : 0 ≤ d) (d1 : d ≤ 999) (hpn : 1000 * p + d ≤ 1000000000) :
    0 ≤ d * num ∧ d * num ≤ 100000000000000000 ∧ 0 ≤ r * 1000 + d * num ∧ r * 1000 + d * num ≤ 200000000000000000 ∧ 0 ≤ (r * 1000 + d * num) / den ∧ (r * 1000 + d * num) / den ≤ 1000000000 ∧ 1000 * q + (r * 1000 + d * num) / den = (1000 * p + d) * num / den ∧ (r * 1000 + d * num) % den = (1000 * p + d) * num % den ∧
    0 ≤ (1000 * p + d) * num / den ∧ (1000 * p + d) * num / den ≤ 1000000000 ∧ 0 ≤ (r * 1000 + d * num) % den ∧ (r * 1000 + d * num) % den < den := by
  obtain ⟨s1, s2⟩ := @div_step p num den d hd
  rw [← hq, ← hr] at s1
  rw [← hr] at s2
  have m0 := Int.mul_nonneg d0 h0
  have m1 := mul_bd (a := d) (b := num) (m := 999) (n := 100000000000000) (by omega) (by omega) (by omega) (by omega)
  have e1 := Int.emod_nonneg (p * num) (show den ≠ 0 by omega)
  have e2 := Int.emod_lt_of_pos (p * num) (show 0 < den by omega)
  rw [← hr] at e1 e2
  have q0 : 0 ≤ q := by rw [hq]; exact Int.ediv_nonneg (Int.mul_nonneg hp h0) (by omega)
  have x0 : 0 ≤ (r * 1000 + d * num) / den := Int.ediv_nonneg (by omega) (by omega)
  have pb := place_bd (d := 1000 * p + d) (n := num) (m := den) (k := 1000000000) hd h0 h1 (by omega) (by omega) (by omega)
  have f1 := Int.emod_nonneg (r * 1000 + d * num) (show den ≠ 0 by omega)
  have f2 := Int.emod_lt_of_pos (r * 1000 + d * num) (show 0 < den by omega)
  refine ⟨m0, by omega, by omega, by omega, x0, by omega, s1, s2, by omega, pb.2, f1, f2⟩
set_option maxHeartbeats 2000000 in
theorem l05Divide_c (n num den : Int) (w : World) (hn : 0 ≤ n) (hn2 : n ≤ 1000000000) (h0 : 0 ≤ num) (h1 : num ≤ den) (hd : 1 ≤ den) (hd2 : den ≤ 100000000000000) :
    Calls Try.prog 128 #[.int .i64 n, .agg #[.int .i64 num, .int .i64 den]] w fun e w' => e = .returned (.tuple #[.int .i64 (n * num / den), .int .i64 (n * num % den)]) ∧ Below w.heap.size w w' := by
  go_enter Try.func128, Try.ntmps128
  go_wp2
  go_loopw [6, 7, 8] (fun x y z wr => (∃ p q r sc : Int, x = .int .i64 q ∧ y = .int .i64 r ∧ z = .int .i64 sc ∧ Hid (q = p * num / den) ∧ Hid (r = p * num % den) ∧ 0 ≤ q ∧ q ≤ 1000000000 ∧ 0 ≤ r ∧ r < den ∧ Hid ((sc = 1000000000 ∧ p = 0) ∨ (sc = 1000000 ∧ p = n / 1000000000) ∨ (sc = 1000 ∧ p = n / 1000000) ∨ (sc = 1 ∧ p = n / 1000) ∨ (sc = 0 ∧ p = n))) ∧ Below (w.heap.size + 1) (w.alloc (.cells #[.int .i64 num, .int .i64 den] 55)) wr) (fun _ _ z _ => (intOf z).toNat)
  case atStart => exact ⟨⟨0, 0, 0, 1000000000, rfl, rfl, rfl, Lib.hid (by simp), Lib.hid (by simp), by omega, by omega, by omega, by omega, Lib.hid (.inl ⟨rfl, rfl⟩)⟩, Below.refl _ _⟩
  case round =>
    obtain ⟨⟨p, q, r, sc, rfl, rfl, rfl, hq, hr, q0, q1, r0, r1, hs⟩, hbl⟩ := hrel
    have cn := hbl.cell (p := ⟨w.heap.size, 0, none⟩) (by simp)
    have cd := hbl.cell (p := ⟨w.heap.size, 1, none⟩) (by simp)
    have hz := hbl.size
    simp at cn cd hz
    have hlx : w.heap.size < wr.heap.size := by omega
    have HB : Hid (Below w.heap.size w wr) := Lib.hid (by repeat (first | with_reducible exact Below.refl _ _ | with_reducible assumption | with_reducible refine Below.drew ?_ | with_reducible refine Below.alloc ?_ (by first | exact Nat.le_refl _ | (simp; done) | (simp; omega) | omega) _ | with_reducible refine Below.setCell ?_ (by first | exact Nat.le_refl _ | (simp; done) | (simp; omega) | omega) _ | with_reducible refine Below.trans ?_ (Below.mono (by with_reducible assumption) (by first | exact Nat.le_refl _ | (simp; done) | (simp; omega) | omega))))
    rcases hs.out with ⟨rfl, hp⟩ | ⟨rfl, hp⟩ | ⟨rfl, hp⟩ | ⟨rfl, hp⟩ | ⟨rfl, hp⟩
    case inr.inr.inr.inr =>
      subst hp
      go_wp2
      go_ret2
      exact ⟨by rw [hq.out, hr.out]; rfl, HB.out⟩
    all_goals
      clear hs
    · obtain ⟨a1, a2, a3, a4, a5, a6, a7, a8, a9, b1, b2, b3⟩ := div_round hd hd2 h0 h1 hq.out hr.out (by omega) (show 0 ≤ n / 1000000000 % 1000 by omega) (by omega) (by omega)
      have A7 := Lib.hid a7
      have A8 := Lib.hid a8
      have B := Lib.hid (show 1000 * p + n / 1000000000 % 1000 = n / 1000000000 by omega)
      have d0 : 0 ≤ n / 1000000000 % 1000 := by omega
      have d1 : n / 1000000000 % 1000 ≤ 999 := by omega
      rw [← a7] at a9 b1
      clear a7 a8 hp
      go_wp2
      refine wp_region_later (by kernel_rfl) (by kernel_rfl) ?_
      repeat (first | go_big_quiet_step (fail) | quiet_step (fail))
      refine wpQuiet_nil ?_
      intro _ hw'
      obtain ⟨s1, hw''⟩ := hw'
      subst hw''
      have hb1 := s1.below
      generalize s1.w = w1 at hb1 ⊢
      clear s1
      try replace hb1 := below_trans (by with_reducible assumption) hb1
      obtain ⟨hc1, hf1⟩ := bcell hb1
      have hz1 := hb1.size
      try simp at hz1
      try have hz10 : w.heap.size ≤ w1.heap.size := by omega
      try have hz11 : w.heap.size < w1.heap.size := by omega
      try have hz12 : w.heap.size + 1 < w1.heap.size := by omega
      try have hz13 : w.heap.size + 1 + 1 < w1.heap.size := by omega
      try have hz14 : w.heap.size + 1 + 1 + 1 < w1.heap.size := by omega
      have cn1 := (hb1.cell (p := ⟨w.heap.size, 0, none⟩) hlx).trans cn
      have cd1 := (hb1.cell (p := ⟨w.heap.size, 1, none⟩) hlx).trans cd
      go_wp2
      refine ⟨⟨⟨n / 1000000000, _, _, 1000000, rfl, rfl, rfl, Lib.hid (by rw [A7.out, B.out]), Lib.hid (by rw [A8.out, B.out]), by omega, by omega, by omega, by omega, Lib.hid (.inr (.inl ⟨rfl, rfl⟩))⟩, hbl.trans (hb1.mono hz)⟩, by simp [intOf]⟩
    · obtain ⟨a1, a2, a3, a4, a5, a6, a7, a8, a9, b1, b2, b3⟩ := div_round hd hd2 h0 h1 hq.out hr.out (by omega) (show 0 ≤ n / 1000000 % 1000 by omega) (by omega) (by omega)
      have A7 := Lib.hid a7
      have A8 := Lib.hid a8
      have B := Lib.hid (show 1000 * p + n / 1000000 % 1000 = n / 1000000 by omega)
      have d0 : 0 ≤ n / 1000000 % 1000 := by omega
      have d1 : n / 1000000 % 1000 ≤ 999 := by omega
      rw [← a7] at a9 b1
      clear a7 a8 hp
      go_wp2
      refine wp_region_later (by kernel_rfl) (by kernel_rfl) ?_
      repeat (first | go_big_quiet_step (fail) | quiet_step (fail))
      refine wpQuiet_nil ?_
      intro _ hw'
      obtain ⟨s1, hw''⟩ := hw'
      subst hw''
      have hb1 := s1.below
      generalize s1.w = w1 at hb1 ⊢
      clear s1
      try replace hb1 := below_trans (by with_reducible assumption) hb1
      obtain ⟨hc1, hf1⟩ := bcell hb1
      have hz1 := hb1.size
      try simp at hz1
      try have hz10 : w.heap.size ≤ w1.heap.size := by omega
      try have hz11 : w.heap.size < w1.heap.size := by omega
      try have hz12 : w.heap.size + 1 < w1.heap.size := by omega
      try have hz13 : w.heap.size + 1 + 1 < w1.heap.size := by omega
      try have hz14 : w.heap.size + 1 + 1 + 1 < w1.heap.size := by omega
      have cn1 := (hb1.cell (p := ⟨w.heap.size, 0, none⟩) hlx).trans cn
      have cd1 := (hb1.cell (p := ⟨w.heap.size, 1, none⟩) hlx).trans cd
      go_wp2
      refine ⟨⟨⟨n / 1000000, _, _, 1000, rfl, rfl, rfl, Lib.hid (by rw [A7.out, B.out]), Lib.hid (by rw [A8.out, B.out]), by omega, by omega, by omega, by omega, Lib.hid (.inr (.inr (.inl ⟨rfl, rfl⟩)))⟩, hbl.trans (hb1.mono hz)⟩, by simp [intOf]⟩
    · obtain ⟨a1, a2, a3, a4, a5, a6, a7, a8, a9, b1, b2, b3⟩ := div_round hd hd2 h0 h1 hq.out hr.out (by omega) (show 0 ≤ n / 1000 % 1000 by omega) (by omega) (by omega)
      have A7 := Lib.hid a7
      have A8 := Lib.hid a8
      have B := Lib.hid (show 1000 * p + n / 1000 % 1000 = n / 1000 by omega)
      have d0 : 0 ≤ n / 1000 % 1000 := by omega
      have d1 : n / 1000 % 1000 ≤ 999 := by omega
      rw [← a7] at a9 b1
      clear a7 a8 hp
      go_wp2
      refine wp_region_later (by kernel_rfl) (by kernel_rfl) ?_
      repeat (first | go_big_quiet_step (fail) | quiet_step (fail))
      refine wpQuiet_nil ?_
      intro _ hw'
      obtain ⟨s1, hw''⟩ := hw'
      subst hw''
      have hb1 := s1.below
      generalize s1.w = w1 at hb1 ⊢
      clear s1
      try replace hb1 := below_trans (by with_reducible assumption) hb1
      obtain ⟨hc1, hf1⟩ := bcell hb1
      have hz1 := hb1.size
      try simp at hz1
      try have hz10 : w.heap.size ≤ w1.heap.size := by omega
      try have hz11 : w.heap.size < w1.heap.size := by omega
      try have hz12 : w.heap.size + 1 < w1.heap.size := by omega
      try have hz13 : w.heap.size + 1 + 1 < w1.heap.size := by omega
      try have hz14 : w.heap.size + 1 + 1 + 1 < w1.heap.size := by omega
      have cn1 := (hb1.cell (p := ⟨w.heap.size, 0, none⟩) hlx).trans cn
      have cd1 := (hb1.cell (p := ⟨w.heap.size, 1, none⟩) hlx).trans cd
      go_wp2
      refine ⟨⟨⟨n / 1000, _, _, 1, rfl, rfl, rfl, Lib.hid (by rw [A7.out, B.out]), Lib.hid (by rw [A8.out, B.out]), by omega, by omega, by omega, by omega, Lib.hid (.inr (.inr (.inr (.inl ⟨rfl, rfl⟩))))⟩, hbl.trans (hb1.mono hz)⟩, by simp [intOf]⟩
    · obtain ⟨a1, a2, a3, a4, a5, a6, a7, a8, a9, b1, b2, b3⟩ := div_round hd hd2 h0 h1 hq.out hr.out (by omega) (show 0 ≤ n % 1000 by omega) (by omega) (by omega)
      have A7 := Lib.hid a7
      have A8 := Lib.hid a8
      have B := Lib.hid (show 1000 * p + n % 1000 = n by omega)
      have d0 : 0 ≤ n % 1000 := by omega
      have d1 : n % 1000 ≤ 999 := by omega
      rw [← a7] at a9 b1
      clear a7 a8 hp
      go_wp2
      refine wp_region_later (by kernel_rfl) (by kernel_rfl) ?_
      repeat (first | go_big_quiet_step (fail) | quiet_step (fail))
      refine wpQuiet_nil ?_
      intro _ hw'
      obtain ⟨s1, hw''⟩ := hw'
      subst hw''
      have hb1 := s1.below
      generalize s1.w = w1 at hb1 ⊢
      clear s1
      try replace hb1 := below_trans (by with_reducible assumption) hb1
      obtain ⟨hc1, hf1⟩ := bcell hb1
      have hz1 := hb1.size
      try simp at hz1
      try have hz10 : w.heap.size ≤ w1.heap.size := by omega
      try have hz11 : w.heap.size < w1.heap.size := by omega
      try have hz12 : w.heap.size + 1 < w1.heap.size := by omega
      try have hz13 : w.heap.size + 1 + 1 < w1.heap.size := by omega
      try have hz14 : w.heap.size + 1 + 1 + 1 < w1.heap.size := by omega
      have cn1 := (hb1.cell (p := ⟨w.heap.size, 0, none⟩) hlx).trans cn
      have cd1 := (hb1.cell (p := ⟨w.heap.size, 1, none⟩) hlx).trans cd
      go_wp2
      refine ⟨⟨⟨n, _, _, 0, rfl, rfl, rfl, Lib.hid (by rw [A7.out, B.out]), Lib.hid (by rw [A8.out, B.out]), by omega, by omega, by omega, by omega, Lib.hid (.inr (.inr (.inr (.inr ⟨rfl, rfl⟩))))⟩, hbl.trans (hb1.mono hz)⟩, by simp [intOf]⟩
end Go.Proofs.Ytdepdkpehbkcjaa
