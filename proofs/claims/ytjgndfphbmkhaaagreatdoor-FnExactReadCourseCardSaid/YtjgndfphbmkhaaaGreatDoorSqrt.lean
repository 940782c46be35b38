/-
  Plain facts on floating point: the square root of the float nearest to a number below 2^63, cut to an integer, is an integer from 0 to 2^40. No program in sight; no condition beside the bound.
-/
import Derived.Laws.FloatArith
namespace Go.Proofs.YtjgndfphbmkhaaaGreatDoor
set_option linter.unusedVariables false
open Ieee

theorem shl (n k : Nat) : n <<< k = n * 2 ^ k := Nat.shiftLeft_eq n k
theorem log2_lt' {n k : Nat} (h : n < 2 ^ k) (hn : n ≠ 0) : n.log2 < k := (Nat.log2_lt hn).2 h
theorem lt_pow_log2 (n : Nat) : n < 2 ^ (n.log2 + 1) := Nat.lt_log2_self

/-- the number is less than 2^K -/
def Tame (m : Nat) (i K : Int) : Prop := m = 0 ∨ (m.log2 : Int) + i < K

theorem cut_even_le (neg : Bool) (n drop b : Nat) (hb : n < 2 ^ (b + drop)) : Toward.even.cut neg n drop ≤ 2 ^ b := by
  have more_le : ∀ x : Bool, x.toNat ≤ 1 := fun x => by cases x <;> decide
  unfold Toward.cut
  simp only [shl, Nat.one_mul]
  rcases Nat.le_total drop (n.log2 + 2) with h | h
  · rw [Nat.min_eq_left h]
    rcases Nat.eq_zero_or_pos drop with rfl | hd
    · simp
      have e : (decide (1 < 2 * (n % 1)) || (1 == 2 * (n % 1) && n / 1 % 2 == 1)) = false := by simp [Nat.mod_one]
      have : n < 2 ^ b := by simpa using hb
      simp [Nat.mod_one] at *
      omega
    · have h1 : n / 2 ^ drop < 2 ^ b := by
        rw [Nat.div_lt_iff_lt_mul (Nat.two_pow_pos _), ← Nat.pow_add]; exact hb
      have := more_le (decide (2 ^ drop < 2 * (n % 2 ^ drop)) || (2 ^ drop == 2 * (n % 2 ^ drop) && n / 2 ^ drop % 2 == 1))
      omega
  · rw [Nat.min_eq_right h]
    have h1 : n < 2 ^ (n.log2 + 2) := Nat.lt_trans (lt_pow_log2 n) (Nat.pow_lt_pow_right (by decide) (by omega))
    rw [Nat.div_eq_of_lt h1]
    have := more_le (decide (2 ^ (n.log2 + 2) < 2 * (n % 2 ^ (n.log2 + 2))) || (2 ^ (n.log2 + 2) == 2 * (n % 2 ^ (n.log2 + 2)) && 0 % 2 == 1))
    have h2 : 1 ≤ 2 ^ b := Nat.two_pow_pos b
    omega

theorem cut_zero_le (neg : Bool) (n drop b : Nat) (hb : n < 2 ^ (b + drop)) : Toward.zero.cut neg n drop ≤ 2 ^ b := by
  unfold Toward.cut
  simp only [shl, Nat.one_mul]
  rcases Nat.le_total drop (n.log2 + 2) with h | h
  · rw [Nat.min_eq_left h]
    have h1 : n / 2 ^ drop < 2 ^ b := by
      rw [Nat.div_lt_iff_lt_mul (Nat.two_pow_pos _), ← Nat.pow_add]; exact hb
    simp
    omega
  · rw [Nat.min_eq_right h]
    have h1 : n < 2 ^ (n.log2 + 2) := Nat.lt_trans (lt_pow_log2 n) (Nat.pow_lt_pow_right (by decide) (by omega))
    rw [Nat.div_eq_of_lt h1]
    simp

theorem read_rung (rung : Nat) (h : rung < double.infRung) : double.read (double.word false rung) =
    if rung < 2 ^ 52 then .number false rung (-1074) else .number false (2 ^ 52 + rung % 2 ^ 52) (-1074 + ((rung / 2 ^ 52 - 1 : Nat) : Int)) := by
  have e1 : double.infRung = 2047 * 2 ^ 52 := rfl
  have e2 : double.signWeight = 2 ^ 63 := rfl
  have e3 : double.binade = 2 ^ 52 := rfl
  have e4 : double.leastPlace = -1074 := rfl
  rw [e1] at h
  unfold Format.read Format.word
  simp only [e1, e2, e3, e4, Bool.false_eq_true, if_false]
  have h1 : rung / 2 ^ 63 = 0 := Nat.div_eq_of_lt (by omega)
  have h2 : rung % 2 ^ 63 = rung := Nat.mod_eq_of_lt (by omega)
  rw [h1, h2]
  by_cases h3 : rung < 2 ^ 52
  · rw [if_pos h3, if_pos h3]; rfl
  · rw [if_neg h3, if_neg h3, if_pos h]; rfl

theorem nearest_tame (m : Nat) (i K : Int) (h : Tame m i K) (hK : K ≤ 900) (hK0 : 0 ≤ K) : ∃ m' i', double.read (double.nearest false m i) = .number false m' i' ∧ Tame m' i' (K + 1) := by
  unfold Format.nearest
  by_cases hm : m = 0
  · rw [if_pos hm]
    refine ⟨0, -1074, ?_, .inl rfl⟩
    rw [read_rung 0 (by decide)]
    rfl
  · rw [if_neg hm]
    rcases h with h | h
    · exact absurd h hm
    have e4 : double.leastPlace = -1074 := rfl
    have e5 : ((double.fractionBits : Nat) : Int) = 52 := rfl
    have e3 : double.binade = 2 ^ 52 := rfl
    simp only [e3, e4, e5]
    obtain ⟨last, hl⟩ : ∃ last : Int, last = max (i + (m.log2 : Int) - 52) (-1074) := ⟨_, rfl⟩
    rw [← hl]
    obtain ⟨kept, hk⟩ : ∃ kept, kept = Toward.even.cut false (m <<< (i - last).toNat) (last - i).toNat := ⟨_, rfl⟩
    rw [← hk]
    have hkept : kept ≤ 2 ^ 53 := by
      rw [hk]
      refine cut_even_le _ _ _ 53 ?_
      rw [shl]
      have hml := lt_pow_log2 m
      rcases Int.le_total last i with hle | hle
      · rw [show (last - i).toNat = 0 by omega]
        have : m * 2 ^ (i - last).toNat < 2 ^ (m.log2 + 1) * 2 ^ (i - last).toNat := Nat.mul_lt_mul_of_pos_right hml (Nat.two_pow_pos _)
        rw [← Nat.pow_add] at this
        exact Nat.lt_of_lt_of_le this (Nat.pow_le_pow_right (by decide) (by omega))
      · rw [show (i - last).toNat = 0 by omega, Nat.pow_zero, Nat.mul_one]
        exact Nat.lt_of_lt_of_le hml (Nat.pow_le_pow_right (by decide) (by omega))
    obtain ⟨E, hE⟩ : ∃ E : Nat, (E : Int) = last + 1074 := ⟨(last + 1074).toNat, by omega⟩
    rw [show (last - -1074).toNat = E by omega]
    have hEb : E ≤ 1950 := by omega
    have hr : E * 2 ^ 52 + kept < double.infRung := by
      have e1 : double.infRung = 2047 * 2 ^ 52 := rfl
      rw [e1]; omega
    rw [Nat.min_eq_left (Nat.le_of_lt hr), read_rung _ hr]
    by_cases hs : E * 2 ^ 52 + kept < 2 ^ 52
    · rw [if_pos hs]
      refine ⟨_, _, rfl, ?_⟩
      by_cases h0 : E * 2 ^ 52 + kept = 0
      · exact .inl h0
      · right
        have := log2_lt' hs h0
        omega
    · rw [if_neg hs]
      refine ⟨_, _, rfl, .inr ?_⟩
      have hlt : 2 ^ 52 + (E * 2 ^ 52 + kept) % 2 ^ 52 < 2 ^ 53 := by omega
      have h1 := log2_lt' hlt (by omega)
      have h2 : (E * 2 ^ 52 + kept) / 2 ^ 52 ≤ E + 2 := by omega
      generalize (2 ^ 52 + (E * 2 ^ 52 + kept) % 2 ^ 52).log2 = x at *
      generalize (E * 2 ^ 52 + kept) / 2 ^ 52 = y at *
      omega

theorem rootFrom_lt (n : Nat) : ∀ (todo root : Nat), Datum.rootFrom n todo root < root + 2 ^ todo
  | 0, root => by simp [Datum.rootFrom]
  | todo + 1, root => by
    unfold Datum.rootFrom
    dsimp only
    rw [shl, Nat.one_mul]
    split
    · have := rootFrom_lt n todo (root + 2 ^ todo)
      rw [Nat.pow_succ]; omega
    · have := rootFrom_lt n todo root
      rw [Nat.pow_succ]; omega

theorem root_tame (m : Nat) (i K : Int) (h : Tame m i K) : ∃ m' i', Datum.root 54 (.number false m i) = some (.number false m' i') ∧ (m = 0 ∧ m' = 0 ∨ Tame m' i' (K / 2 + 2)) := by
  unfold Datum.root
  by_cases hm : m = 0
  · subst hm
    exact ⟨0, i, rfl, .inl ⟨rfl, rfl⟩⟩
  · rcases h with h | h
    · exact absurd h hm
    simp only [if_neg hm, Bool.false_eq_true, if_false]
    obtain ⟨more, hmo⟩ : ∃ more : Nat, more = 2 * 54 - m.log2 + ((i - ((2 * 54 - m.log2 : Nat) : Int)) % 2).toNat := ⟨_, rfl⟩
    rw [← hmo]
    refine ⟨_, _, rfl, .inr ?_⟩
    have h1 : m <<< more < 2 ^ (m.log2 + 1 + more) := by
      rw [shl, Nat.pow_add]
      exact Nat.mul_lt_mul_of_pos_right (lt_pow_log2 m) (Nat.two_pow_pos _)
    have h2 : (m <<< more).log2 < m.log2 + 1 + more := by
      refine log2_lt' h1 ?_
      rw [shl]
      have := Nat.mul_pos (Nat.pos_of_ne_zero hm) (Nat.two_pow_pos more)
      omega
    have h3 := rootFrom_lt (m <<< more) ((m <<< more).log2 / 2 + 1) 0
    obtain ⟨x, hx⟩ : ∃ x, x = (m <<< more).log2 := ⟨_, rfl⟩
    rw [← hx] at h2 h3 ⊢
    obtain ⟨wh, hw⟩ : ∃ wh, wh = Datum.rootFrom (m <<< more) (x / 2 + 1) 0 := ⟨_, rfl⟩
    rw [← hw] at h3 ⊢
    have hb : ∀ y : Bool, y.toNat ≤ 1 := fun y => by cases y <;> decide
    have h4 := hb (wh * wh != m <<< more)
    obtain ⟨z, hz⟩ : ∃ z, z = (wh * wh != m <<< more).toNat := ⟨_, rfl⟩
    rw [← hz] at h4 ⊢
    by_cases h0 : 2 * wh + z = 0
    · exact .inl h0
    · right
      have h5 : 2 * wh + z < 2 ^ (x / 2 + 2) := by rw [Nat.pow_succ]; omega
      have h6 := log2_lt' h5 h0
      omega

/-- 'int64(math.Sqrt(float64(n)))' -/
theorem sqrt_int (n : Int) (h0 : 0 ≤ n) (hn : n < 9223372036854775808) : ∃ (b : Nat) (r : Int), FloatKind.f64.format.sqrt (floatOfInt .f64 n) = some b ∧ floatToIntVal .f64 b .i64 = some r ∧ 0 ≤ r ∧ r ≤ 1099511627776 := by
  obtain ⟨N, rfl⟩ := Int.eq_ofNat_of_zero_le h0
  have hN : N < 2 ^ 63 := by omega
  have t0 : Tame N 0 63 := by
    by_cases hz : N = 0
    · exact .inl hz
    · exact .inr (by have := log2_lt' hN hz; omega)
  have e1 : floatOfInt .f64 (N : Int) = double.nearest false N 0 := by
    show double.write (.number (decide ((N : Int) < 0)) (N : Int).natAbs 0) = _
    have : decide ((N : Int) < 0) = false := by simp
    rw [this]; rfl
  obtain ⟨m1, i1, r1, t1⟩ := nearest_tame N 0 63 t0 (by decide) (by decide)
  obtain ⟨m2, i2, r2, t2⟩ := root_tame m1 i1 64 t1
  have t2' : Tame m2 i2 34 := by
    rcases t2 with ⟨_, h⟩ | h
    · exact .inl h
    · exact h
  obtain ⟨m3, i3, r3, t3⟩ := nearest_tame m2 i2 34 t2' (by decide) (by decide)
  have e2 : FloatKind.f64.format.sqrt (floatOfInt .f64 (N : Int)) = some (double.nearest false m2 i2) := by
    rw [e1]
    show ((double.read (double.nearest false N 0)).root 54).map double.write = _
    rw [r1, r2]; rfl
  refine ⟨_, ((Toward.zero.cut false (m3 <<< i3.toNat) (-i3).toNat : Nat) : Int), e2, ?_, by omega, ?_⟩
  all_goals
    have hc : Toward.zero.cut false (m3 <<< i3.toNat) (-i3).toNat ≤ 2 ^ 40 := by
      refine cut_zero_le _ _ _ 40 ?_
      rcases t3 with h | h
      · rw [h, shl, Nat.zero_mul]; exact Nat.two_pow_pos _
      · rw [shl]
        have hml := lt_pow_log2 m3
        have : m3 * 2 ^ i3.toNat < 2 ^ (m3.log2 + 1) * 2 ^ i3.toNat := Nat.mul_lt_mul_of_pos_right hml (Nat.two_pow_pos _)
        rw [← Nat.pow_add] at this
        exact Nat.lt_of_lt_of_le this (Nat.pow_le_pow_right (by decide) (by omega))
  · unfold floatToIntVal
    have e3 : (FloatKind.f64.decode (double.nearest false m2 i2)).toInt .zero = some ((Toward.zero.cut false (m3 <<< i3.toNat) (-i3).toNat : Nat) : Int) := by
      show (double.read (double.nearest false m2 i2)).toInt .zero = _
      rw [r3]
      simp [Datum.toInt, Datum.integral, signed]
    rw [e3]
    have g1 : IntKind.i64.min = -9223372036854775808 := by decide
    have g2 : IntKind.i64.max = 9223372036854775807 := by decide
    simp only [g1, g2]
    rw [if_pos (by omega)]
  · omega

end Go.Proofs.YtjgndfphbmkhaaaGreatDoor
