/-
  The crossings of a track, as a plain list. No program is named. Conditions stand with each.
-/
import Derived.Test.YtdepdkpehbkcjaaL05a
import Derived.Test.YtdepdkpehbkcjaaRow
namespace Go.Proofs.Ytdepdkpehbkcjaa
set_option linter.unusedVariables false
open Go.RowKit Go.Deep Go.ChangeShapes Go.WideShapes

theorem low_bd {n d : Int} (h0 : 0 ≤ n) (h1 : n ≤ d) (hd : 1 ≤ d) : 0 ≤ lowN n d ∧ lowN n d ≤ lowD n d ∧ 1 ≤ lowD n d ∧ lowD n d ≤ d := by
  have hg : 0 < Int.gcd n d := Int.gcd_pos_of_ne_zero_right n (by omega)
  have hg' : (0 : Int) < (Int.gcd n d : Int) := by omega
  refine ⟨Int.ediv_nonneg h0 (by omega), Int.ediv_le_ediv hg' h1, ?_, Int.ediv_le_self _ (by omega)⟩
  have hdv : (Int.gcd n d : Int) ∣ d := Int.gcd_dvd_right ..
  exact Int.le_ediv_of_mul_le hg' (by have := Int.le_of_dvd (by omega) hdv; omega)
theorem pl_bd {a b : Int} (h : hasPl a b = true) (a1 : -8000000000000 ≤ a) (a2 : a ≤ 8000000000000) (b1 : -8000000000000 ≤ b) (b2 : b ≤ 8000000000000) : 0 ≤ plN a b ∧ plN a b ≤ plD a b ∧ 1 ≤ plD a b ∧ plD a b ≤ 16000000000000 := by
  have hh := (hasPl_iff a b).1 h
  have := low_bd (n := max a (-a)) (d := max (a - b) (b - a)) (by omega) (by omega) (by omega)
  unfold plN plD
  refine ⟨this.1, this.2.1, this.2.2.1, by omega⟩
theorem way_hasPl {ax ay bx cy px py qx qy : Int} (h : wayZ ax ay bx cy px py qx qy ≠ 0) : hasPl (crossZ ax ay bx cy px py) (crossZ ax ay bx cy qx qy) = true := by
  rw [hasPl_iff]
  unfold wayZ turnZ at h
  simp only [sgn_pos_iff] at h
  refine ⟨?_, ?_, ?_⟩
  all_goals
    intro g
    apply h
    exact if_pos (decide_eq_decide.2 (by omega))
theorem way_ne {ax ay bx cy px py qx qy : Int} (h : wayZ ax ay bx cy px py qx qy ≠ 0) : px ≠ qx ∨ py ≠ qy := by
  have hh := (hasPl_iff _ _).1 (way_hasPl h)
  rcases Int.lt_trichotomy px qx with g | rfl | g
  · exact .inl (by omega)
  · rcases Int.lt_trichotomy py qy with g | rfl | g
    · exact .inr (by omega)
    · exfalso; omega
    · exact .inr (by omega)
  · exact .inl (by omega)

structure Cr where
  t : Int
  leg : Int
  way : Int
  num : Int
  den : Int
def crFlat : List Cr → List Value
  | [] => []
  | c :: l => .int .i64 c.t :: .int .i64 c.leg :: .int .i64 c.way :: .int .i64 c.num :: .int .i64 c.den :: crFlat l
theorem crFlat_length : ∀ l : List Cr, (crFlat l).length = l.length * 5
  | [] => rfl
  | f :: l => by simp [crFlat, crFlat_length l]; omega
theorem crFlat_append : ∀ a b : List Cr, crFlat (a ++ b) = crFlat a ++ crFlat b
  | [], b => rfl
  | f :: a, b => by simp [crFlat, crFlat_append a b]
theorem crFlat_get : ∀ (l : List Cr) (i : Nat) (c : Cr), l[i]? = some c → (crFlat l)[i * 5]? = some (.int .i64 c.t) ∧ (crFlat l)[i * 5 + 1]? = some (.int .i64 c.leg) ∧ (crFlat l)[i * 5 + 2]? = some (.int .i64 c.way) ∧ (crFlat l)[i * 5 + 3]? = some (.int .i64 c.num) ∧ (crFlat l)[i * 5 + 4]? = some (.int .i64 c.den)
  | [], i, f, h => by simp at h
  | g :: l, 0, f, h => by simp at h; subst h; simp [crFlat]
  | g :: l, i + 1, f, h => by
    have := crFlat_get l i f (by simpa using h)
    rw [show (i + 1) * 5 = i * 5 + 1 + 1 + 1 + 1 + 1 by omega]
    simpa [crFlat] using this
def cr (l : List Cr) (i : Nat) : Cr := l.getD i ⟨0, 0, 0, 0, 0⟩
theorem cr_of {l : List Cr} {i : Nat} (h : i < l.length) : l[i]? = some (cr l i) := by
  unfold cr
  rw [List.getD_eq_getElem?_getD, List.getElem?_eq_getElem h]; rfl

section
variable (l : List Fx) (ax ay bx cy : Int)
def wayL (k : Nat) : Int := wayZ ax ay bx cy (fx l k).x (fx l k).y (fx l (k + 1)).x (fx l (k + 1)).y
def crN (k : Nat) : Int := plN (crossZ ax ay bx cy (fx l k).x (fx l k).y) (crossZ ax ay bx cy (fx l (k + 1)).x (fx l (k + 1)).y)
def crD (k : Nat) : Int := plD (crossZ ax ay bx cy (fx l k).x (fx l k).y) (crossZ ax ay bx cy (fx l (k + 1)).x (fx l (k + 1)).y)
def crT (k : Nat) : Int := if 0 < restZ l k (crN l ax ay bx cy k) (crD l ax ay bx cy k) then wholeZ l k (crN l ax ay bx cy k) (crD l ax ay bx cy k) + 1 else wholeZ l k (crN l ax ay bx cy k) (crD l ax ay bx cy k)
def crOf (k : Nat) : Cr := ⟨crT l ax ay bx cy k, k, wayL l ax ay bx cy k, crN l ax ay bx cy k, crD l ax ay bx cy k⟩
def crs : Nat → List Cr
  | 0 => []
  | k + 1 => if wayL l ax ay bx cy k = 0 then crs k else crs k ++ [crOf l ax ay bx cy k]
end
theorem crs_len (l : List Fx) (ax ay bx cy : Int) : ∀ k, (crs l ax ay bx cy k).length ≤ k
  | 0 => Nat.le_refl _
  | k + 1 => by
    have := crs_len l ax ay bx cy k
    unfold crs
    split
    · omega
    · simp; omega
theorem crs_no {l : List Fx} {ax ay bx cy : Int} {k : Nat} (h : wayL l ax ay bx cy k = 0) : crs l ax ay bx cy (k + 1) = crs l ax ay bx cy k := by rw [crs, if_pos h]
theorem crs_yes {l : List Fx} {ax ay bx cy : Int} {k : Nat} (h : wayL l ax ay bx cy k ≠ 0) : crs l ax ay bx cy (k + 1) = crs l ax ay bx cy k ++ [crOf l ax ay bx cy k] := by rw [crs, if_neg h]
/-- what is so of each crossing of a track -/
theorem cr_facts {l : List Fx} {ax ay bx cy : Int} (hT : isTrk l = true) (hA : isPt ax ay = true) (hB : isPt bx cy = true) {k : Nat} (hk : k + 1 < l.length) (h : wayL l ax ay bx cy k ≠ 0) :
    isSeg (fx l k).x (fx l k).y (fx l (k + 1)).x (fx l (k + 1)).y = true ∧ hasPl (crossZ ax ay bx cy (fx l k).x (fx l k).y) (crossZ ax ay bx cy (fx l (k + 1)).x (fx l (k + 1)).y) = true ∧
    0 ≤ crN l ax ay bx cy k ∧ crN l ax ay bx cy k ≤ crD l ax ay bx cy k ∧ 1 ≤ crD l ax ay bx cy k ∧ crD l ax ay bx cy k ≤ 16000000000000 := by
  obtain ⟨hp, hq, _⟩ := leg_facts hT hk
  have h1 := way_hasPl h
  have h2 := way_ne h
  have b1 := cross_bd rfl hA hB hp
  have b2 := cross_bd rfl hA hB hq
  refine ⟨?_, h1, pl_bd h1 b1.1 b1.2 b2.1 b2.2⟩
  rcases h2 with h2 | h2
  · exact (isSeg_ne1 hp hq h2).symm
  · exact (isSeg_ne2 hp hq h2).symm
theorem cr_time {l : List Fx} {k : Nat} {n d : Int} (hT : isTrk l = true) (hk : k + 1 < l.length) (h0 : 0 ≤ n) (h1 : n ≤ d) (hd : 1 ≤ d) : 0 ≤ wholeZ l k n d ∧ wholeZ l k n d ≤ 1000000000 ∧ 0 ≤ restZ l k n d ∧ restZ l k n d < d ∧ 0 ≤ lapZ l k * n / d ∧ lapZ l k * n / d ≤ lapZ l k := by
  obtain ⟨_, _, a, b, c⟩ := leg_facts hT hk
  have hl : lapZ l k = (fx l (k + 1)).t - (fx l k).t := rfl
  have h2 := place_bd (d := lapZ l k) (n := n) (m := d) (k := lapZ l k) hd h0 h1 (by omega) (by omega) (Int.le_refl _)
  have h3 : 0 ≤ lapZ l k * n / d := Int.ediv_nonneg (Int.mul_nonneg (by omega) h0) (by omega)
  have h4 := Int.emod_nonneg (lapZ l k * n) (show d ≠ 0 by omega)
  have h5 := Int.emod_lt_of_pos (lapZ l k * n) (show 0 < d by omega)
  unfold wholeZ restZ
  omega
end Go.Proofs.Ytdepdkpehbkcjaa
