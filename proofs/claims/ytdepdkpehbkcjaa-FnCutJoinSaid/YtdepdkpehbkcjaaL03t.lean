/-
  SideAt, the program's and the reference's. Conditions: the cells lie in the world.
-/
import Derived.Test.YtdepdkpehbkcjaaL03r
namespace Go.Proofs.Ytdepdkpehbkcjaa
set_option linter.unusedVariables false
open Go.RowKit Go.Deep

theorem place_between {d n m : Int} (hm : 1 ≤ m) (h0 : 0 ≤ n) (h1 : n ≤ m) : (0 ≤ d → 0 ≤ d * n / m ∧ d * n / m ≤ d) ∧ (d ≤ 0 → d ≤ d * n / m ∧ d * n / m ≤ 0) := by
  constructor
  · intro h
    exact ⟨Int.ediv_nonneg (Int.mul_nonneg h h0) (by omega), (place_bd hm h0 h1 (k := d) h (by omega) (Int.le_refl _)).2⟩
  · intro h
    refine ⟨by have := (place_bd hm h0 h1 (k := -d) (d := d) (by omega) (by omega) (by omega)).1; omega, ?_⟩
    have hp : d * n ≤ 0 := by
      have := Int.mul_nonneg (show 0 ≤ -d by omega) h0
      rw [Int.neg_mul] at this
      omega
    exact ((div_bd (a := d * n) hm).2 hp).2
theorem pos_pt {l : List Fx} {t : Int} (e1 : isTrk l = true) (e2 : lastsB l t = true) : isPt (posX l t) (posY l t) = true := by
  have hk := legN_lt t (isTrk_true e1).1
  obtain ⟨hp, hq, t0, t1, t2⟩ := leg_facts e1 hk
  obtain ⟨u1, u2⟩ := legN_times e1 e2
  obtain ⟨p1, p2, p3, p4⟩ := isPt_true hp
  obtain ⟨q1, q2, q3, q4⟩ := isPt_true hq
  unfold posX posY placeZ
  generalize fx l (legN l t) = fk at *
  generalize fx l (legN l t + 1) = fm at *
  have x1 := place_between (d := fm.x - fk.x) (n := t - fk.t) (m := fm.t - fk.t) (by omega) (by omega) (by omega)
  have y1 := place_between (d := fm.y - fk.y) (n := t - fk.t) (m := fm.t - fk.t) (by omega) (by omega) (by omega)
  generalize (fm.x - fk.x) * (t - fk.t) / (fm.t - fk.t) = X at *
  generalize (fm.y - fk.y) * (t - fk.t) / (fm.t - fk.t) = Y at *
  rcases Int.le_total 0 (fm.x - fk.x) with h | h <;> rcases Int.le_total 0 (fm.y - fk.y) with g | g
  · have := x1.1 h; have := y1.1 g; exact isPt_mk (by omega) (by omega) (by omega) (by omega)
  · have := x1.1 h; have := y1.2 g; exact isPt_mk (by omega) (by omega) (by omega) (by omega)
  · have := x1.2 h; have := y1.1 g; exact isPt_mk (by omega) (by omega) (by omega) (by omega)
  · have := x1.2 h; have := y1.2 g; exact isPt_mk (by omega) (by omega) (by omega) (by omega)
def sideR (l : List Fx) (ax ay bx cy t : Int) : Int × Int := if isTrk l = true ∧ isSeg ax ay bx cy = true then (if lastsB l t = true then (turnZ ax ay bx cy (posX l t) (posY l t), 0) else (0, 2)) else (0, 1)
set_option maxHeartbeats 1600000 in
theorem lineCode_c (a : Option Addr) (cap : Nat) (l : List Fx) (ax ay bx cy : Int) (w : World) (hl : l.length ≤ 4611686018427387904) (hf : FixAt w a l) : Calls Try.prog 88 #[.agg #[.slice a l.length cap], .agg #[.int .i64 ax, .int .i64 ay, .int .i64 bx, .int .i64 cy]] w fun e w' => e = .returned (.int .i64 (if isTrk l = true ∧ isSeg ax ay bx cy = true then 0 else 1)) ∧ Below w.heap.size w w' := by
  have hF0 := Lib.hid hf
  clear hf
  cases e1 : isTrk l
  all_goals cases e2 : isSeg ax ay bx cy
  all_goals
    go_enter Try.func88, Try.ntmps88
    go_wp2_with (first | (go_at_call 24; refine (IsTrack_c _ _ l _ hl (FixAt.below hF0.out (by repeat (first | with_reducible exact Below.refl _ _ | with_reducible assumption | with_reducible refine Below.drew ?_ | with_reducible refine Below.alloc ?_ (by first | exact Nat.le_refl _ | (simp; done) | (simp; omega) | omega) _ | with_reducible refine Below.setCell ?_ (by first | exact Nat.le_refl _ | (simp; done) | (simp; omega) | omega) _ | with_reducible refine Below.trans ?_ (Below.mono (by with_reducible assumption) (by first | exact Nat.le_refl _ | (simp; done) | (simp; omega) | omega)))))).mono ?_; rintro e w1 ⟨rfl, hb⟩; (try replace hb := below_trans (by with_reducible assumption) hb); obtain ⟨hc, hf⟩ := bcell hb; have hz := hb.size; (try simp at hz); (try have hz0 : w.heap.size ≤ w1.heap.size := by omega); (try have hz1 : w.heap.size < w1.heap.size := by omega); (try have hz2 : w.heap.size + 1 < w1.heap.size := by omega); (try have hz3 : w.heap.size + 1 + 1 < w1.heap.size := by omega); (try have hz4 : w.heap.size + 1 + 1 + 1 < w1.heap.size := by omega)) | (go_at_call 100; refine (isLine_c _ _ _ _ _).mono ?_; rintro e w1 ⟨rfl, hb⟩; (try replace hb := below_trans (by with_reducible assumption) hb); obtain ⟨hc, hf⟩ := bcell hb; have hz := hb.size; (try simp at hz); (try have hz0 : w.heap.size ≤ w1.heap.size := by omega); (try have hz1 : w.heap.size < w1.heap.size := by omega); (try have hz2 : w.heap.size + 1 < w1.heap.size := by omega); (try have hz3 : w.heap.size + 1 + 1 < w1.heap.size := by omega); (try have hz4 : w.heap.size + 1 + 1 + 1 < w1.heap.size := by omega)))
    go_ret
    exact ⟨by simp, (by repeat (first | with_reducible exact Below.refl _ _ | with_reducible assumption | with_reducible refine Below.drew ?_ | with_reducible refine Below.alloc ?_ (by first | exact Nat.le_refl _ | (simp; done) | (simp; omega) | omega) _ | with_reducible refine Below.setCell ?_ (by first | exact Nat.le_refl _ | (simp; done) | (simp; omega) | omega) _ | with_reducible refine Below.trans ?_ (Below.mono (by with_reducible assumption) (by first | exact Nat.le_refl _ | (simp; done) | (simp; omega) | omega))))⟩
end Go.Proofs.Ytdepdkpehbkcjaa
