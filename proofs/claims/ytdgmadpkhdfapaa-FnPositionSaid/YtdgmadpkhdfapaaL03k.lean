/-
  HeadingAt and PositionAt, the program's and the reference's. Conditions: the cells lie in the world; what else stands with each.
-/
import Derived.Test.YtdgmadpkhdfapaaL03s
import Derived.Test.YtdgmadpkhdfapaaHeld
namespace Go.Proofs.Ytdgmadpkhdfapaa
set_option linter.unusedVariables false
open Go.RowKit Go.Deep

theorem blt {W w1 : World} (hb : Below W.heap.size W w1) : ∀ b, b < W.heap.size → b < w1.heap.size := fun _ h => Nat.lt_of_lt_of_le h hb.size
theorem ble {W w1 : World} (hb : Below W.heap.size W w1) : ∀ b, b < W.heap.size → b ≤ w1.heap.size := fun _ h => Nat.le_of_lt (Nat.lt_of_lt_of_le h hb.size)
theorem blt1 {W w1 : World} (hb : Below W.heap.size W w1) : ∀ b, b < W.heap.size → b < w1.heap.size + 1 := fun _ h => Nat.lt_succ_of_lt (Nat.lt_of_lt_of_le h hb.size)
theorem blt2 {W w1 : World} (hb : Below W.heap.size W w1) : ∀ b, b < W.heap.size → b < w1.heap.size + 1 + 1 := fun _ h => Nat.lt_succ_of_lt (Nat.lt_succ_of_lt (Nat.lt_of_lt_of_le h hb.size))
theorem legS_lt (l : List Fx) (t : Int) : ∀ k, 0 < k → legS l t k < k
  | k + 1, _ => by
    have := legS_le l t k
    simp only [legS]; split <;> omega
theorem legN_lt {l : List Fx} (t : Int) (h : 2 ≤ l.length) : legN l t + 1 < l.length := by
  have := legS_lt l t (l.length - 1) (by omega)
  unfold legN
  omega
theorem legS_after {l : List Fx} {t : Int} : ∀ n j, legS l t n < j → j < n → t < (fx l j).t
  | 0, j, _, h => by omega
  | n + 1, j, h, hj => by
    simp only [legS] at h
    split at h
    · omega
    · rcases Nat.lt_or_eq_of_le (Nat.le_of_lt_succ hj) with g | g
      · exact legS_after n j h g
      · rw [g]; omega
theorem legS_before {l : List Fx} {t : Int} (h0 : (fx l 0).t ≤ t) : ∀ n, (fx l (legS l t n)).t ≤ t
  | 0 => h0
  | n + 1 => by
    simp only [legS]
    split
    · assumption
    · exact legS_before h0 n
theorem legN_times {l : List Fx} {t : Int} (h : isTrk l = true) (hl : lastsB l t = true) : (fx l (legN l t)).t ≤ t ∧ t ≤ (fx l (legN l t + 1)).t := by
  have h2 := (isTrk_true h).1
  have hr := inR_true hl
  have hlt := legN_lt t h2
  refine ⟨legS_before hr.1 _, ?_⟩
  rcases Nat.lt_or_eq_of_le (show legN l t + 1 ≤ l.length - 1 by omega) with g | g
  · have := legS_after (l := l) (t := t) (l.length - 1) (legN l t + 1) (by unfold legN; omega) g
    omega
  · rw [g]; exact hr.2
def headR (l : List Fx) (t : Int) : Int × Int × Int :=
  if codeZ l t = 0 then (if (fx l (legN l t + 1)).x - (fx l (legN l t)).x = 0 ∧ (fx l (legN l t + 1)).y - (fx l (legN l t)).y = 0 then (0, 0, 5) else ((fx l (legN l t + 1)).x - (fx l (legN l t)).x, (fx l (legN l t + 1)).y - (fx l (legN l t)).y, 0)) else (0, 0, codeZ l t)
def placeZ (a b t u v : Int) : Int := a + (b - a) * (t - u) / (v - u)
def posX (l : List Fx) (t : Int) : Int := placeZ (fx l (legN l t)).x (fx l (legN l t + 1)).x t (fx l (legN l t)).t (fx l (legN l t + 1)).t
def posY (l : List Fx) (t : Int) : Int := placeZ (fx l (legN l t)).y (fx l (legN l t + 1)).y t (fx l (legN l t)).t (fx l (legN l t + 1)).t
def posR (l : List Fx) (t : Int) : Int × Int × Int := if codeZ l t = 0 then (posX l t, posY l t, 0) else (0, 0, codeZ l t)

/-- the whole difference by its thousands -/
theorem split_div {d n m : Int} (hm : 1 ≤ m) : d * n / m = 1000 * (d / 1000 * n / m) + (1000 * (d / 1000 * n - d / 1000 * n / m * m) + (d - 1000 * (d / 1000)) * n) / m := by
  generalize d / 1000 * n / m = q
  generalize hh : d / 1000 = h
  have e : d * n = 1000 * (h * n - q * m) + (d - 1000 * h) * n + 1000 * q * m := by grind
  rw [e, Int.add_mul_ediv_right _ _ (by omega)]
  omega
theorem div_parts' (a b : Int) (hb : 1 ≤ b) : 0 ≤ a - a / b * b ∧ a - a / b * b < b := by
  have h1 := Int.ediv_mul_le a (show b ≠ 0 by omega)
  have h2 := Int.lt_ediv_add_one_mul_self a (show 0 < b by omega)
  rw [Int.add_mul] at h2
  omega
theorem place_bd {d n m : Int} (hm : 1 ≤ m) (h0 : 0 ≤ n) (h1 : n ≤ m) {k : Int} (hk : 0 ≤ k) (d1 : -k ≤ d) (d2 : d ≤ k) : -k ≤ d * n / m ∧ d * n / m ≤ k := by
  have a1 : -k * m ≤ d * n := by
    have x1 := Int.mul_nonneg (show 0 ≤ d + k by omega) h0
    have x2 := Int.mul_nonneg hk (show 0 ≤ m - n by omega)
    have e1 : (d + k) * n = d * n + k * n := Int.add_mul ..
    have e2 : k * (m - n) = k * m - k * n := Int.mul_sub ..
    rw [Int.neg_mul]; omega
  have a2 : d * n ≤ k * m := by
    have x1 := Int.mul_nonneg (show 0 ≤ k - d by omega) h0
    have x2 := Int.mul_nonneg hk (show 0 ≤ m - n by omega)
    have e1 : (k - d) * n = k * n - d * n := Int.sub_mul ..
    have e2 : k * (m - n) = k * m - k * n := Int.mul_sub ..
    omega
  exact ⟨by rw [Int.le_ediv_iff_mul_le (by omega)]; exact a1, by
    have := Int.ediv_le_ediv (show 0 < m by omega) a2
    rwa [Int.mul_ediv_cancel _ (by omega)] at this⟩
theorem head_err {l : List Fx} {t c : Int} (h : codeZ l t = c) (h0 : c ≠ 0) : headR l t = (0, 0, c) := by simp [headR, h, h0]
theorem head_5 {l : List Fx} {t : Int} (h : codeZ l t = 0) (hx : (fx l (legN l t + 1)).x - (fx l (legN l t)).x = 0) (hy : (fx l (legN l t + 1)).y - (fx l (legN l t)).y = 0) : headR l t = (0, 0, 5) := by simp [headR, h, hx, hy]
theorem head_0 {l : List Fx} {t : Int} (h : codeZ l t = 0) (hx : ¬ ((fx l (legN l t + 1)).x - (fx l (legN l t)).x = 0 ∧ (fx l (legN l t + 1)).y - (fx l (legN l t)).y = 0)) : headR l t = ((fx l (legN l t + 1)).x - (fx l (legN l t)).x, (fx l (legN l t + 1)).y - (fx l (legN l t)).y, 0) := by simp only [headR, h, if_true, if_neg hx]
set_option maxHeartbeats 3000000 in
theorem HeadingAt_c (a : Option Addr) (cap : Nat) (l : List Fx) (t : Int) (w : World) (hl : l.length ≤ 4611686018427387904) (hf : FixAt w a l) : Calls Try.prog 31 #[.agg #[.slice a l.length cap], .int .i64 t] w fun e w' => e = .returned (.tuple #[.agg #[.int .i64 (headR l t).1, .int .i64 (headR l t).2.1], .int .i64 (headR l t).2.2]) ∧ Below w.heap.size w w' := by
  cases e1 : isTrk l
  · have HF := Lib.hid (@head_err l t 1 (by simp [codeZ, e1]) (by omega))
    have CT := Lib.hid (fun w (hf : FixAt w a l) => (show codeZ l t = 1 by simp [codeZ, e1]) ▸ trackCode_c a cap l t w hl hf)
    go_enter Try.func31, Try.ntmps31
    go_wp2_with (go_at_call 63; refine (CT.out _ (FixAt.below (by assumption) (by repeat (first | with_reducible exact Below.refl _ _ | with_reducible assumption | with_reducible refine Below.drew ?_ | with_reducible refine Below.alloc ?_ (by first | exact Nat.le_refl _ | (simp; done) | (simp; omega) | omega) _ | with_reducible refine Below.setCell ?_ (by first | exact Nat.le_refl _ | (simp; done) | (simp; omega) | omega) _ | with_reducible refine Below.trans ?_ (Below.mono (by with_reducible assumption) (by first | exact Nat.le_refl _ | (simp; done) | (simp; omega) | omega)))))).mono ?_; rintro e w1 ⟨rfl, hb⟩; (try replace hb := below_trans (by with_reducible assumption) hb); obtain ⟨hc, hf⟩ := bcell hb; have hz := hb.size; (try simp at hz); (try have hz0 : w.heap.size ≤ w1.heap.size := by omega); (try have hz1 : w.heap.size < w1.heap.size := by omega); (try have hz2 : w.heap.size + 1 < w1.heap.size := by omega); (try have hz3 : w.heap.size + 1 + 1 < w1.heap.size := by omega); (try have hz4 : w.heap.size + 1 + 1 + 1 < w1.heap.size := by omega))
    exact bodyPost_ret (v := .tuple #[.agg #[.int .i64 0, .int .i64 0], .int .i64 1]) (by simp [results, Try.results31, go_sem, *]) rfl ⟨by rw [HF.out], (by repeat (first | with_reducible exact Below.refl _ _ | with_reducible assumption | with_reducible refine Below.drew ?_ | with_reducible refine Below.alloc ?_ (by first | exact Nat.le_refl _ | (simp; done) | (simp; omega) | omega) _ | with_reducible refine Below.setCell ?_ (by first | exact Nat.le_refl _ | (simp; done) | (simp; omega) | omega) _ | with_reducible refine Below.trans ?_ (Below.mono (by with_reducible assumption) (by first | exact Nat.le_refl _ | (simp; done) | (simp; omega) | omega))))⟩
  have h2 := (isTrk_true e1).1
  cases e2 : lastsB l t
  · have HF := Lib.hid (@head_err l t 2 (by simp [codeZ, e1, e2]) (by omega))
    have CT := Lib.hid (fun w (hf : FixAt w a l) => (show codeZ l t = 2 by simp [codeZ, e1, e2]) ▸ trackCode_c a cap l t w hl hf)
    go_enter Try.func31, Try.ntmps31
    go_wp2_with (go_at_call 63; refine (CT.out _ (FixAt.below (by assumption) (by repeat (first | with_reducible exact Below.refl _ _ | with_reducible assumption | with_reducible refine Below.drew ?_ | with_reducible refine Below.alloc ?_ (by first | exact Nat.le_refl _ | (simp; done) | (simp; omega) | omega) _ | with_reducible refine Below.setCell ?_ (by first | exact Nat.le_refl _ | (simp; done) | (simp; omega) | omega) _ | with_reducible refine Below.trans ?_ (Below.mono (by with_reducible assumption) (by first | exact Nat.le_refl _ | (simp; done) | (simp; omega) | omega)))))).mono ?_; rintro e w1 ⟨rfl, hb⟩; (try replace hb := below_trans (by with_reducible assumption) hb); obtain ⟨hc, hf⟩ := bcell hb; have hz := hb.size; (try simp at hz); (try have hz0 : w.heap.size ≤ w1.heap.size := by omega); (try have hz1 : w.heap.size < w1.heap.size := by omega); (try have hz2 : w.heap.size + 1 < w1.heap.size := by omega); (try have hz3 : w.heap.size + 1 + 1 < w1.heap.size := by omega); (try have hz4 : w.heap.size + 1 + 1 + 1 < w1.heap.size := by omega))
    exact bodyPost_ret (v := .tuple #[.agg #[.int .i64 0, .int .i64 0], .int .i64 2]) (by simp [results, Try.results31, go_sem, *]) rfl ⟨by rw [HF.out], (by repeat (first | with_reducible exact Below.refl _ _ | with_reducible assumption | with_reducible refine Below.drew ?_ | with_reducible refine Below.alloc ?_ (by first | exact Nat.le_refl _ | (simp; done) | (simp; omega) | omega) _ | with_reducible refine Below.setCell ?_ (by first | exact Nat.le_refl _ | (simp; done) | (simp; omega) | omega) _ | with_reducible refine Below.trans ?_ (Below.mono (by with_reducible assumption) (by first | exact Nat.le_refl _ | (simp; done) | (simp; omega) | omega))))⟩
  have CT := Lib.hid (fun w (hf : FixAt w a l) => (show codeZ l t = 0 by simp [codeZ, e1, e2]) ▸ trackCode_c a cap l t w hl hf)
  have hc0 : codeZ l t = 0 := by simp [codeZ, e1, e2]
  have hk := legN_lt t h2
  obtain ⟨hp, hq, t0, t1, t2⟩ := leg_facts e1 hk
  have HW := Lib.hid (fun w h => wayOf_c a cap l (legN l t) w hl hk hp hq h)
  have HL := Lib.hid (fun w h => legAt_c a cap l t w hl h2 h)
  have H5 := Lib.hid (fun hx hy => @head_5 l t hc0 hx hy)
  have H0 := Lib.hid (fun hx => @head_0 l t hc0 hx)
  clear hc0 hp hq t0 t1 t2 hk
  generalize (fx l (legN l t + 1)).x - (fx l (legN l t)).x = dx at *
  generalize (fx l (legN l t + 1)).y - (fx l (legN l t)).y = dy at *
  have hF0 := Lib.hid hf
  go_enter Try.func31, Try.ntmps31
  go_upto_region 4 with (go_at_call 63; refine (CT.out _ (FixAt.below hF0.out (by repeat (first | with_reducible exact Below.refl _ _ | with_reducible assumption | with_reducible refine Below.drew ?_ | with_reducible refine Below.alloc ?_ (by first | exact Nat.le_refl _ | (simp; done) | (simp; omega) | omega) _ | with_reducible refine Below.setCell ?_ (by first | exact Nat.le_refl _ | (simp; done) | (simp; omega) | omega) _ | with_reducible refine Below.trans ?_ (Below.mono (by with_reducible assumption) (by first | exact Nat.le_refl _ | (simp; done) | (simp; omega) | omega)))))).mono ?_; rintro e w1 ⟨rfl, hb⟩; (try replace hb := below_trans (by with_reducible assumption) hb); obtain ⟨hc, hf⟩ := bcell hb; have hz := hb.size; (try simp at hz); (try have hz0 : w.heap.size ≤ w1.heap.size := by omega); (try have hz1 : w.heap.size < w1.heap.size := by omega); (try have hz2 : w.heap.size + 1 < w1.heap.size := by omega); (try have hz3 : w.heap.size + 1 + 1 < w1.heap.size := by omega); (try have hz4 : w.heap.size + 1 + 1 + 1 < w1.heap.size := by omega))
  obtain ⟨wc0, hwc0⟩ : ∃ x : World, x = w1 := ⟨_, rfl⟩
  subst hwc0
  have HB0 : Below w.heap.size w wc0 := (by repeat (first | with_reducible exact Below.refl _ _ | with_reducible assumption | with_reducible refine Below.drew ?_ | with_reducible refine Below.alloc ?_ (by first | exact Nat.le_refl _ | (simp; done) | (simp; omega) | omega) _ | with_reducible refine Below.setCell ?_ (by first | exact Nat.le_refl _ | (simp; done) | (simp; omega) | omega) _ | with_reducible refine Below.trans ?_ (Below.mono (by with_reducible assumption) (by first | exact Nat.le_refl _ | (simp; done) | (simp; omega) | omega))))
  go_upto_region 4 with fail
  go_cut [7] (fun sp wx => ∃ g : Nat, sp = .pointer (some ⟨g, 0, none⟩) ∧ wx.cell? ⟨g, 0, none⟩ = some (.int .i64 dx) ∧ wx.cell? ⟨g, 1, none⟩ = some (.int .i64 dy) ∧ wc0.heap.size ≤ g ∧ g < wx.heap.size ∧ Below wc0.heap.size wc0 wx)
  case first =>
    go_region_held3 (fun wx => Below wc0.heap.size wc0 wx ∧ ∀ b o, b < wc0.heap.size → wx.cell? ⟨b, o, none⟩ = wc0.cell? ⟨b, o, none⟩)
      (first | with_reducible exact held_step (by assumption) hb | with_reducible exact held_alloc (by assumption) _ | with_reducible exact (held_set (by with_reducible assumption) (by first | exact Nat.le_refl _ | (simp; done) | (simp; omega) | omega) _) | with_reducible exact (held_set (held_set (by with_reducible assumption) (by first | exact Nat.le_refl _ | (simp; done) | (simp; omega) | omega) _) (by first | exact Nat.le_refl _ | (simp; done) | (simp; omega) | omega) _) | with_reducible exact held_realloc (by assumption) (by first | exact Nat.le_refl _ | (simp; done) | (simp; omega) | omega) _ | with_reducible exact held_start _ _ | with_reducible exact held_begin _)
      (first | (go_at_call 64; refine (HL.out _ (FixAt.below hF0.out (below_trans HB0 (And.left (by with_reducible assumption))))).mono ?_; rintro e w1 ⟨rfl, hb⟩; have hz := held_size (by with_reducible assumption) hb; (try simp at hz); obtain ⟨hc, hf⟩ := bcell hb; have hs := hb.size; (try simp at hs); (try have hl := below_lt hb); (try simp at hl); (try have hlW : wc0.heap.size < w1.heap.size := by first | omega | (simp; omega)); (try simp at hlW); (try have hz2 : w.heap.size + 1 < w1.heap.size := by omega); (try have hz3 : w.heap.size + 1 + 1 < w1.heap.size := by omega); (try have hz4 : w.heap.size + 1 + 1 + 1 < w1.heap.size := by omega)) | (go_at_call 71; refine (HW.out _ (FixAt.below hF0.out (below_trans HB0 (And.left (by with_reducible assumption))))).mono ?_; rintro e w1 ⟨rfl, hb⟩; have hz := held_size (by with_reducible assumption) hb; (try simp at hz); obtain ⟨hc, hf⟩ := bcell hb; have hs := hb.size; (try simp at hs); (try have hl := below_lt hb); (try simp at hl); (try have hlW : wc0.heap.size < w1.heap.size := by first | omega | (simp; omega)); (try simp at hlW); (try have hz2 : w.heap.size + 1 < w1.heap.size := by omega); (try have hz3 : w.heap.size + 1 + 1 < w1.heap.size := by omega); (try have hz4 : w.heap.size + 1 + 1 + 1 < w1.heap.size := by omega)))
    all_goals (go_wp2_with fail; go_meet; exact ⟨_, rfl, (by go_light; go_simp), (by go_light; go_simp), (by go_light; first | exact Nat.le_refl _ | (simp; done) | (simp; omega) | omega), (by go_light; first | (simp; done) | (simp; omega) | omega), (held_of (by with_reducible exact And.left (by with_reducible assumption))).1⟩)
  obtain ⟨g1, rfl, q10, q11, hg1, hl1, hb1⟩ := hcut
  obtain ⟨hc1, hf1⟩ := bcell hb1
  have hz1 := hb1.size
  (try simp at hz1 hg1)
  (try have hy10 : w.heap.size ≤ wc.heap.size := by omega)
  (try have hy11 : w.heap.size < wc.heap.size := by omega)
  (try have hy12 : w.heap.size + 1 < wc.heap.size := by omega)
  (try have hy13 : w.heap.size + 1 + 1 < wc.heap.size := by omega)
  (try have hy14 : w.heap.size + 1 + 1 + 1 < wc.heap.size := by omega)
  obtain ⟨wc1, rfl⟩ : ∃ x : World, x = wc := ⟨_, rfl⟩
  by_cases hx : dx = 0
  · by_cases hy : dy = 0
    · subst hx hy
      have HF := Lib.hid (H5.out rfl rfl)
      go_wp2
      exact bodyPost_ret (v := .tuple #[.agg #[.int .i64 0, .int .i64 0], .int .i64 5]) (by simp [results, Try.results31, go_sem, *]) rfl ⟨by rw [HF.out], (by repeat (first | with_reducible exact Below.refl _ _ | with_reducible assumption | with_reducible refine Below.drew ?_ | with_reducible refine Below.alloc ?_ (by first | exact Nat.le_refl _ | (simp; done) | (simp; omega) | omega) _ | with_reducible refine Below.setCell ?_ (by first | exact Nat.le_refl _ | (simp; done) | (simp; omega) | omega) _ | with_reducible refine Below.trans ?_ (Below.mono (by with_reducible assumption) (by first | exact Nat.le_refl _ | (simp; done) | (simp; omega) | omega))))⟩
    · have HF := Lib.hid (H0.out (fun h => hy h.2))
      subst hx
      go_wp2
      exact bodyPost_ret (v := .tuple #[.agg #[.int .i64 0, .int .i64 dy], .int .i64 0]) (by simp [results, Try.results31, go_sem, *]) rfl ⟨by rw [HF.out], (by repeat (first | with_reducible exact Below.refl _ _ | with_reducible assumption | with_reducible refine Below.drew ?_ | with_reducible refine Below.alloc ?_ (by first | exact Nat.le_refl _ | (simp; done) | (simp; omega) | omega) _ | with_reducible refine Below.setCell ?_ (by first | exact Nat.le_refl _ | (simp; done) | (simp; omega) | omega) _ | with_reducible refine Below.trans ?_ (Below.mono (by with_reducible assumption) (by first | exact Nat.le_refl _ | (simp; done) | (simp; omega) | omega))))⟩
  · have HF := Lib.hid (H0.out (fun h => hx h.1))
    go_wp2
    exact bodyPost_ret (v := .tuple #[.agg #[.int .i64 dx, .int .i64 dy], .int .i64 0]) (by simp [results, Try.results31, go_sem, *]) rfl ⟨by rw [HF.out], (by repeat (first | with_reducible exact Below.refl _ _ | with_reducible assumption | with_reducible refine Below.drew ?_ | with_reducible refine Below.alloc ?_ (by first | exact Nat.le_refl _ | (simp; done) | (simp; omega) | omega) _ | with_reducible refine Below.setCell ?_ (by first | exact Nat.le_refl _ | (simp; done) | (simp; omega) | omega) _ | with_reducible refine Below.trans ?_ (Below.mono (by with_reducible assumption) (by first | exact Nat.le_refl _ | (simp; done) | (simp; omega) | omega))))⟩
set_option maxHeartbeats 3000000 in
theorem HeadingAtS_c (a : Option Addr) (cap : Nat) (l : List Fx) (t : Int) (w : World) (hl : l.length ≤ 4611686018427387904) (hf : FixAt w a l) : Calls Try.prog 30 #[.agg #[.slice a l.length cap], .int .i64 t] w fun e w' => e = .returned (.tuple #[.agg #[.int .i64 (headR l t).1, .int .i64 (headR l t).2.1], .int .i64 (headR l t).2.2]) ∧ Below w.heap.size w w' := by
  cases e1 : isTrk l
  · have HF := Lib.hid (@head_err l t 1 (by simp [codeZ, e1]) (by omega))
    have CT := Lib.hid (fun w (hf : FixAt w a l) => (show legR l t = (0, 1) by simp [legR, e1]) ▸ LegAtS_c a cap l t w hl hf)
    go_enter Try.func30, Try.ntmps30
    go_wp2_with (go_at_call 23; refine (CT.out _ (FixAt.below (by assumption) (by repeat (first | with_reducible exact Below.refl _ _ | with_reducible assumption | with_reducible refine Below.drew ?_ | with_reducible refine Below.alloc ?_ (by first | exact Nat.le_refl _ | (simp; done) | (simp; omega) | omega) _ | with_reducible refine Below.setCell ?_ (by first | exact Nat.le_refl _ | (simp; done) | (simp; omega) | omega) _ | with_reducible refine Below.trans ?_ (Below.mono (by with_reducible assumption) (by first | exact Nat.le_refl _ | (simp; done) | (simp; omega) | omega)))))).mono ?_; rintro e w1 ⟨rfl, hb⟩; (try replace hb := below_trans (by with_reducible assumption) hb); obtain ⟨hc, hf⟩ := bcell hb; have hz := hb.size; (try simp at hz); (try have hz0 : w.heap.size ≤ w1.heap.size := by omega); (try have hz1 : w.heap.size < w1.heap.size := by omega); (try have hz2 : w.heap.size + 1 < w1.heap.size := by omega); (try have hz3 : w.heap.size + 1 + 1 < w1.heap.size := by omega); (try have hz4 : w.heap.size + 1 + 1 + 1 < w1.heap.size := by omega))
    exact bodyPost_ret (v := .tuple #[.agg #[.int .i64 0, .int .i64 0], .int .i64 1]) (by simp [results, Try.results30, go_sem, *]) rfl ⟨by rw [HF.out], (by repeat (first | with_reducible exact Below.refl _ _ | with_reducible assumption | with_reducible refine Below.drew ?_ | with_reducible refine Below.alloc ?_ (by first | exact Nat.le_refl _ | (simp; done) | (simp; omega) | omega) _ | with_reducible refine Below.setCell ?_ (by first | exact Nat.le_refl _ | (simp; done) | (simp; omega) | omega) _ | with_reducible refine Below.trans ?_ (Below.mono (by with_reducible assumption) (by first | exact Nat.le_refl _ | (simp; done) | (simp; omega) | omega))))⟩
  have h2 := (isTrk_true e1).1
  cases e2 : lastsB l t
  · have HF := Lib.hid (@head_err l t 2 (by simp [codeZ, e1, e2]) (by omega))
    have CT := Lib.hid (fun w (hf : FixAt w a l) => (show legR l t = (0, 2) by simp [legR, e1, e2]) ▸ LegAtS_c a cap l t w hl hf)
    go_enter Try.func30, Try.ntmps30
    go_wp2_with (go_at_call 23; refine (CT.out _ (FixAt.below (by assumption) (by repeat (first | with_reducible exact Below.refl _ _ | with_reducible assumption | with_reducible refine Below.drew ?_ | with_reducible refine Below.alloc ?_ (by first | exact Nat.le_refl _ | (simp; done) | (simp; omega) | omega) _ | with_reducible refine Below.setCell ?_ (by first | exact Nat.le_refl _ | (simp; done) | (simp; omega) | omega) _ | with_reducible refine Below.trans ?_ (Below.mono (by with_reducible assumption) (by first | exact Nat.le_refl _ | (simp; done) | (simp; omega) | omega)))))).mono ?_; rintro e w1 ⟨rfl, hb⟩; (try replace hb := below_trans (by with_reducible assumption) hb); obtain ⟨hc, hf⟩ := bcell hb; have hz := hb.size; (try simp at hz); (try have hz0 : w.heap.size ≤ w1.heap.size := by omega); (try have hz1 : w.heap.size < w1.heap.size := by omega); (try have hz2 : w.heap.size + 1 < w1.heap.size := by omega); (try have hz3 : w.heap.size + 1 + 1 < w1.heap.size := by omega); (try have hz4 : w.heap.size + 1 + 1 + 1 < w1.heap.size := by omega))
    exact bodyPost_ret (v := .tuple #[.agg #[.int .i64 0, .int .i64 0], .int .i64 2]) (by simp [results, Try.results30, go_sem, *]) rfl ⟨by rw [HF.out], (by repeat (first | with_reducible exact Below.refl _ _ | with_reducible assumption | with_reducible refine Below.drew ?_ | with_reducible refine Below.alloc ?_ (by first | exact Nat.le_refl _ | (simp; done) | (simp; omega) | omega) _ | with_reducible refine Below.setCell ?_ (by first | exact Nat.le_refl _ | (simp; done) | (simp; omega) | omega) _ | with_reducible refine Below.trans ?_ (Below.mono (by with_reducible assumption) (by first | exact Nat.le_refl _ | (simp; done) | (simp; omega) | omega))))⟩
  have CT := Lib.hid (fun w (hf : FixAt w a l) => (show legR l t = (((legN l t : Nat) : Int), 0) by simp [legR, e1, e2]) ▸ LegAtS_c a cap l t w hl hf)
  have hc0 : codeZ l t = 0 := by simp [codeZ, e1, e2]
  have hk := legN_lt t h2
  obtain ⟨hp, hq, t0, t1, t2⟩ := leg_facts e1 hk
  have HW := Lib.hid (fun w h => l03Heading_c a cap l (legN l t) w hl hk hp hq h)
  have H5 := Lib.hid (fun hx hy => @head_5 l t hc0 hx hy)
  have H0 := Lib.hid (fun hx => @head_0 l t hc0 hx)
  clear hc0 hp hq t0 t1 t2 hk
  generalize (fx l (legN l t + 1)).x - (fx l (legN l t)).x = dx at *
  generalize (fx l (legN l t + 1)).y - (fx l (legN l t)).y = dy at *
  have hF0 := Lib.hid hf
  by_cases hx : dx = 0
  · by_cases hy : dy = 0
    · subst hx hy
      have HF := Lib.hid (H5.out rfl rfl)
      go_enter Try.func30, Try.ntmps30
      go_wp2_with (first | (go_at_call 23; refine (CT.out _ (FixAt.below hF0.out (by repeat (first | with_reducible exact Below.refl _ _ | with_reducible assumption | with_reducible refine Below.drew ?_ | with_reducible refine Below.alloc ?_ (by first | exact Nat.le_refl _ | (simp; done) | (simp; omega) | omega) _ | with_reducible refine Below.setCell ?_ (by first | exact Nat.le_refl _ | (simp; done) | (simp; omega) | omega) _ | with_reducible refine Below.trans ?_ (Below.mono (by with_reducible assumption) (by first | exact Nat.le_refl _ | (simp; done) | (simp; omega) | omega)))))).mono ?_; rintro e w1 ⟨rfl, hb⟩; (try replace hb := below_trans (by with_reducible assumption) hb); obtain ⟨hc, hf⟩ := bcell hb; have hz := hb.size; (try simp at hz); (try have hz0 : w.heap.size ≤ w1.heap.size := by omega); (try have hz1 : w.heap.size < w1.heap.size := by omega); (try have hz2 : w.heap.size + 1 < w1.heap.size := by omega); (try have hz3 : w.heap.size + 1 + 1 < w1.heap.size := by omega); (try have hz4 : w.heap.size + 1 + 1 + 1 < w1.heap.size := by omega)) | (go_at_call 70; refine (HW.out _ (FixAt.below hF0.out (by repeat (first | with_reducible exact Below.refl _ _ | with_reducible assumption | with_reducible refine Below.drew ?_ | with_reducible refine Below.alloc ?_ (by first | exact Nat.le_refl _ | (simp; done) | (simp; omega) | omega) _ | with_reducible refine Below.setCell ?_ (by first | exact Nat.le_refl _ | (simp; done) | (simp; omega) | omega) _ | with_reducible refine Below.trans ?_ (Below.mono (by with_reducible assumption) (by first | exact Nat.le_refl _ | (simp; done) | (simp; omega) | omega)))))).mono ?_; rintro e w1 ⟨rfl, hb⟩; (try replace hb := below_trans (by with_reducible assumption) hb); obtain ⟨hc, hf⟩ := bcell hb; have hz := hb.size; (try simp at hz); (try have hz0 : w.heap.size ≤ w1.heap.size := by omega); (try have hz1 : w.heap.size < w1.heap.size := by omega); (try have hz2 : w.heap.size + 1 < w1.heap.size := by omega); (try have hz3 : w.heap.size + 1 + 1 < w1.heap.size := by omega); (try have hz4 : w.heap.size + 1 + 1 + 1 < w1.heap.size := by omega)))
      exact bodyPost_ret (v := .tuple #[.agg #[.int .i64 0, .int .i64 0], .int .i64 5]) (by simp [results, Try.results30, go_sem, *]) rfl ⟨by rw [HF.out], (by repeat (first | with_reducible exact Below.refl _ _ | with_reducible assumption | with_reducible refine Below.drew ?_ | with_reducible refine Below.alloc ?_ (by first | exact Nat.le_refl _ | (simp; done) | (simp; omega) | omega) _ | with_reducible refine Below.setCell ?_ (by first | exact Nat.le_refl _ | (simp; done) | (simp; omega) | omega) _ | with_reducible refine Below.trans ?_ (Below.mono (by with_reducible assumption) (by first | exact Nat.le_refl _ | (simp; done) | (simp; omega) | omega))))⟩
    · have HF := Lib.hid (H0.out (fun h => hy h.2))
      subst hx
      go_enter Try.func30, Try.ntmps30
      go_wp2_with (first | (go_at_call 23; refine (CT.out _ (FixAt.below hF0.out (by repeat (first | with_reducible exact Below.refl _ _ | with_reducible assumption | with_reducible refine Below.drew ?_ | with_reducible refine Below.alloc ?_ (by first | exact Nat.le_refl _ | (simp; done) | (simp; omega) | omega) _ | with_reducible refine Below.setCell ?_ (by first | exact Nat.le_refl _ | (simp; done) | (simp; omega) | omega) _ | with_reducible refine Below.trans ?_ (Below.mono (by with_reducible assumption) (by first | exact Nat.le_refl _ | (simp; done) | (simp; omega) | omega)))))).mono ?_; rintro e w1 ⟨rfl, hb⟩; (try replace hb := below_trans (by with_reducible assumption) hb); obtain ⟨hc, hf⟩ := bcell hb; have hz := hb.size; (try simp at hz); (try have hz0 : w.heap.size ≤ w1.heap.size := by omega); (try have hz1 : w.heap.size < w1.heap.size := by omega); (try have hz2 : w.heap.size + 1 < w1.heap.size := by omega); (try have hz3 : w.heap.size + 1 + 1 < w1.heap.size := by omega); (try have hz4 : w.heap.size + 1 + 1 + 1 < w1.heap.size := by omega)) | (go_at_call 70; refine (HW.out _ (FixAt.below hF0.out (by repeat (first | with_reducible exact Below.refl _ _ | with_reducible assumption | with_reducible refine Below.drew ?_ | with_reducible refine Below.alloc ?_ (by first | exact Nat.le_refl _ | (simp; done) | (simp; omega) | omega) _ | with_reducible refine Below.setCell ?_ (by first | exact Nat.le_refl _ | (simp; done) | (simp; omega) | omega) _ | with_reducible refine Below.trans ?_ (Below.mono (by with_reducible assumption) (by first | exact Nat.le_refl _ | (simp; done) | (simp; omega) | omega)))))).mono ?_; rintro e w1 ⟨rfl, hb⟩; (try replace hb := below_trans (by with_reducible assumption) hb); obtain ⟨hc, hf⟩ := bcell hb; have hz := hb.size; (try simp at hz); (try have hz0 : w.heap.size ≤ w1.heap.size := by omega); (try have hz1 : w.heap.size < w1.heap.size := by omega); (try have hz2 : w.heap.size + 1 < w1.heap.size := by omega); (try have hz3 : w.heap.size + 1 + 1 < w1.heap.size := by omega); (try have hz4 : w.heap.size + 1 + 1 + 1 < w1.heap.size := by omega)))
      exact bodyPost_ret (v := .tuple #[.agg #[.int .i64 0, .int .i64 dy], .int .i64 0]) (by simp [results, Try.results30, go_sem, *]) rfl ⟨by rw [HF.out], (by repeat (first | with_reducible exact Below.refl _ _ | with_reducible assumption | with_reducible refine Below.drew ?_ | with_reducible refine Below.alloc ?_ (by first | exact Nat.le_refl _ | (simp; done) | (simp; omega) | omega) _ | with_reducible refine Below.setCell ?_ (by first | exact Nat.le_refl _ | (simp; done) | (simp; omega) | omega) _ | with_reducible refine Below.trans ?_ (Below.mono (by with_reducible assumption) (by first | exact Nat.le_refl _ | (simp; done) | (simp; omega) | omega))))⟩
  · have HF := Lib.hid (H0.out (fun h => hx h.1))
    go_enter Try.func30, Try.ntmps30
    go_wp2_with (first | (go_at_call 23; refine (CT.out _ (FixAt.below hF0.out (by repeat (first | with_reducible exact Below.refl _ _ | with_reducible assumption | with_reducible refine Below.drew ?_ | with_reducible refine Below.alloc ?_ (by first | exact Nat.le_refl _ | (simp; done) | (simp; omega) | omega) _ | with_reducible refine Below.setCell ?_ (by first | exact Nat.le_refl _ | (simp; done) | (simp; omega) | omega) _ | with_reducible refine Below.trans ?_ (Below.mono (by with_reducible assumption) (by first | exact Nat.le_refl _ | (simp; done) | (simp; omega) | omega)))))).mono ?_; rintro e w1 ⟨rfl, hb⟩; (try replace hb := below_trans (by with_reducible assumption) hb); obtain ⟨hc, hf⟩ := bcell hb; have hz := hb.size; (try simp at hz); (try have hz0 : w.heap.size ≤ w1.heap.size := by omega); (try have hz1 : w.heap.size < w1.heap.size := by omega); (try have hz2 : w.heap.size + 1 < w1.heap.size := by omega); (try have hz3 : w.heap.size + 1 + 1 < w1.heap.size := by omega); (try have hz4 : w.heap.size + 1 + 1 + 1 < w1.heap.size := by omega)) | (go_at_call 70; refine (HW.out _ (FixAt.below hF0.out (by repeat (first | with_reducible exact Below.refl _ _ | with_reducible assumption | with_reducible refine Below.drew ?_ | with_reducible refine Below.alloc ?_ (by first | exact Nat.le_refl _ | (simp; done) | (simp; omega) | omega) _ | with_reducible refine Below.setCell ?_ (by first | exact Nat.le_refl _ | (simp; done) | (simp; omega) | omega) _ | with_reducible refine Below.trans ?_ (Below.mono (by with_reducible assumption) (by first | exact Nat.le_refl _ | (simp; done) | (simp; omega) | omega)))))).mono ?_; rintro e w1 ⟨rfl, hb⟩; (try replace hb := below_trans (by with_reducible assumption) hb); obtain ⟨hc, hf⟩ := bcell hb; have hz := hb.size; (try simp at hz); (try have hz0 : w.heap.size ≤ w1.heap.size := by omega); (try have hz1 : w.heap.size < w1.heap.size := by omega); (try have hz2 : w.heap.size + 1 < w1.heap.size := by omega); (try have hz3 : w.heap.size + 1 + 1 < w1.heap.size := by omega); (try have hz4 : w.heap.size + 1 + 1 + 1 < w1.heap.size := by omega)))
    exact bodyPost_ret (v := .tuple #[.agg #[.int .i64 dx, .int .i64 dy], .int .i64 0]) (by simp [results, Try.results30, go_sem, *]) rfl ⟨by rw [HF.out], (by repeat (first | with_reducible exact Below.refl _ _ | with_reducible assumption | with_reducible refine Below.drew ?_ | with_reducible refine Below.alloc ?_ (by first | exact Nat.le_refl _ | (simp; done) | (simp; omega) | omega) _ | with_reducible refine Below.setCell ?_ (by first | exact Nat.le_refl _ | (simp; done) | (simp; omega) | omega) _ | with_reducible refine Below.trans ?_ (Below.mono (by with_reducible assumption) (by first | exact Nat.le_refl _ | (simp; done) | (simp; omega) | omega))))⟩
set_option maxHeartbeats 400000 in
theorem eqPoint_same (x y : Int) (w : World) : Calls Try.prog 29 #[.agg #[.int .i64 x, .int .i64 y], .agg #[.int .i64 x, .int .i64 y]] w fun e w' => e = .returned (.bool true) ∧ Below w.heap.size w w' := by
  go_enter Try.func29, Try.ntmps29
  go_wp2
  go_ret
  exact ⟨rfl, (by repeat (first | with_reducible exact Below.refl _ _ | with_reducible assumption | with_reducible refine Below.drew ?_ | with_reducible refine Below.alloc ?_ (by first | exact Nat.le_refl _ | (simp; done) | (simp; omega) | omega) _ | with_reducible refine Below.setCell ?_ (by first | exact Nat.le_refl _ | (simp; done) | (simp; omega) | omega) _ | with_reducible refine Below.trans ?_ (Below.mono (by with_reducible assumption) (by first | exact Nat.le_refl _ | (simp; done) | (simp; omega) | omega))))⟩
end Go.Proofs.Ytdgmadpkhdfapaa
