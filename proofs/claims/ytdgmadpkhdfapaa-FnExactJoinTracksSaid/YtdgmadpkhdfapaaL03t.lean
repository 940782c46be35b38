/-
  SideAt, the program's and the reference's. Conditions: the cells lie in the world.
-/
import Derived.Test.YtdgmadpkhdfapaaL03r
namespace Go.Proofs.Ytdgmadpkhdfapaa
set_option linter.unusedVariables false
open Go.RowKit Go.Deep

theorem place_between {d n m : Int} (hm : 1 ≤ m) (h0 : 0 ≤ n) (h1 : n ≤ m) : (0 ≤ d → 0 ≤ d * n / m ∧ d * n / m ≤ d) ∧ (d ≤ 0 → d ≤ d * n / m ∧ d * n / m ≤ 0) := by
  constructor
  · intro h
    exact ⟨Int.ediv_nonneg (Int.mul_nonneg h h0) (by omega), (place_bd hm h0 h1 (k := d) h (by omega) (Int.le_refl _)).2⟩
  · intro h
    refine ⟨by have := (place_bd hm h0 h1 (k := -d) (d := d) (by omega) (by omega) (by omega)).1; omega, ?_⟩
    have hp : d * n ≤ 0 := by
      have := Int.mul_nonneg (show 0 ≤ -d by omega) h0
      rw [Int.neg_mul] at this
      omega
    exact ((div_bd (a := d * n) hm).2 hp).2
theorem pos_pt {l : List Fx} {t : Int} (e1 : isTrk l = true) (e2 : lastsB l t = true) : isPt (posX l t) (posY l t) = true := by
  have hk := legN_lt t (isTrk_true e1).1
  obtain ⟨hp, hq, t0, t1, t2⟩ := leg_facts e1 hk
  obtain ⟨u1, u2⟩ := legN_times e1 e2
  obtain ⟨p1, p2, p3, p4⟩ := isPt_true hp
  obtain ⟨q1, q2, q3, q4⟩ := isPt_true hq
  unfold posX posY placeZ
  generalize fx l (legN l t) = fk at *
  generalize fx l (legN l t + 1) = fm at *
  have x1 := place_between (d := fm.x - fk.x) (n := t - fk.t) (m := fm.t - fk.t) (by omega) (by omega) (by omega)
  have y1 := place_between (d := fm.y - fk.y) (n := t - fk.t) (m := fm.t - fk.t) (by omega) (by omega) (by omega)
  generalize (fm.x - fk.x) * (t - fk.t) / (fm.t - fk.t) = X at *
  generalize (fm.y - fk.y) * (t - fk.t) / (fm.t - fk.t) = Y at *
  rcases Int.le_total 0 (fm.x - fk.x) with h | h <;> rcases Int.le_total 0 (fm.y - fk.y) with g | g
  · have := x1.1 h; have := y1.1 g; exact isPt_mk (by omega) (by omega) (by omega) (by omega)
  · have := x1.1 h; have := y1.2 g; exact isPt_mk (by omega) (by omega) (by omega) (by omega)
  · have := x1.2 h; have := y1.1 g; exact isPt_mk (by omega) (by omega) (by omega) (by omega)
  · have := x1.2 h; have := y1.2 g; exact isPt_mk (by omega) (by omega) (by omega) (by omega)
def sideR (l : List Fx) (ax ay bx cy t : Int) : Int × Int := if isTrk l = true ∧ isSeg ax ay bx cy = true then (if lastsB l t = true then (turnZ ax ay bx cy (posX l t) (posY l t), 0) else (0, 2)) else (0, 1)
set_option maxHeartbeats 1600000 in
theorem lineCode_c (a : Option Addr) (cap : Nat) (l : List Fx) (ax ay bx cy : Int) (w : World) (hl : l.length ≤ 4611686018427387904) (hf : FixAt w a l) : Calls Try.prog 79 #[.agg #[.slice a l.length cap], .agg #[.int .i64 ax, .int .i64 ay, .int .i64 bx, .int .i64 cy]] w fun e w' => e = .returned (.int .i64 (if isTrk l = true ∧ isSeg ax ay bx cy = true then 0 else 1)) ∧ Below w.heap.size w w' := by
  have hF0 := Lib.hid hf
  clear hf
  cases e1 : isTrk l
  all_goals cases e2 : isSeg ax ay bx cy
  all_goals
    go_enter Try.func79, Try.ntmps79
    go_wp2_with (first | (go_at_call 18; refine (IsTrack_c _ _ l _ hl (FixAt.below hF0.out (by repeat (first | with_reducible exact Below.refl _ _ | with_reducible assumption | with_reducible refine Below.drew ?_ | with_reducible refine Below.alloc ?_ (by first | exact Nat.le_refl _ | (simp; done) | (simp; omega) | omega) _ | with_reducible refine Below.setCell ?_ (by first | exact Nat.le_refl _ | (simp; done) | (simp; omega) | omega) _ | with_reducible refine Below.trans ?_ (Below.mono (by with_reducible assumption) (by first | exact Nat.le_refl _ | (simp; done) | (simp; omega) | omega)))))).mono ?_; rintro e w1 ⟨rfl, hb⟩; (try replace hb := below_trans (by with_reducible assumption) hb); obtain ⟨hc, hf⟩ := bcell hb; have hz := hb.size; (try simp at hz); (try have hz0 : w.heap.size ≤ w1.heap.size := by omega); (try have hz1 : w.heap.size < w1.heap.size := by omega); (try have hz2 : w.heap.size + 1 < w1.heap.size := by omega); (try have hz3 : w.heap.size + 1 + 1 < w1.heap.size := by omega); (try have hz4 : w.heap.size + 1 + 1 + 1 < w1.heap.size := by omega)) | (go_at_call 99; refine (isLine_c _ _ _ _ _).mono ?_; rintro e w1 ⟨rfl, hb⟩; (try replace hb := below_trans (by with_reducible assumption) hb); obtain ⟨hc, hf⟩ := bcell hb; have hz := hb.size; (try simp at hz); (try have hz0 : w.heap.size ≤ w1.heap.size := by omega); (try have hz1 : w.heap.size < w1.heap.size := by omega); (try have hz2 : w.heap.size + 1 < w1.heap.size := by omega); (try have hz3 : w.heap.size + 1 + 1 < w1.heap.size := by omega); (try have hz4 : w.heap.size + 1 + 1 + 1 < w1.heap.size := by omega)))
    go_ret
    exact ⟨by simp, (by repeat (first | with_reducible exact Below.refl _ _ | with_reducible assumption | with_reducible refine Below.drew ?_ | with_reducible refine Below.alloc ?_ (by first | exact Nat.le_refl _ | (simp; done) | (simp; omega) | omega) _ | with_reducible refine Below.setCell ?_ (by first | exact Nat.le_refl _ | (simp; done) | (simp; omega) | omega) _ | with_reducible refine Below.trans ?_ (Below.mono (by with_reducible assumption) (by first | exact Nat.le_refl _ | (simp; done) | (simp; omega) | omega))))⟩
set_option maxHeartbeats 1600000 in
theorem SideAt_c (a : Option Addr) (cap : Nat) (l : List Fx) (ax ay bx cy t : Int) (w : World) (hl : l.length ≤ 4611686018427387904) (hf : FixAt w a l) : Calls Try.prog 40 #[.agg #[.slice a l.length cap], .agg #[.int .i64 ax, .int .i64 ay, .int .i64 bx, .int .i64 cy], .int .i64 t] w fun e w' => e = .returned (.tuple #[.int .i64 (sideR l ax ay bx cy t).1, .int .i64 (sideR l ax ay bx cy t).2]) ∧ Below w.heap.size w w' := by
  have hF0 := Lib.hid hf
  clear hf
  by_cases e : isTrk l = true ∧ isSeg ax ay bx cy = true
  · have CT := Lib.hid (fun w h => (if_pos e) ▸ lineCode_c a cap l ax ay bx cy w hl h)
    obtain ⟨e1, es⟩ := e
    have h2 := (isTrk_true e1).1
    obtain ⟨hA, hB, _⟩ := isSeg_true es
    cases e2 : lastsB l t
    · have HF := Lib.hid (show sideR l ax ay bx cy t = (0, 2) by simp [sideR, e1, es, e2])
      go_enter Try.func40, Try.ntmps40
      go_wp2_with (first | (go_at_call 79; refine (CT.out _ (FixAt.below hF0.out (by repeat (first | with_reducible exact Below.refl _ _ | with_reducible assumption | with_reducible refine Below.drew ?_ | with_reducible refine Below.alloc ?_ (by first | exact Nat.le_refl _ | (simp; done) | (simp; omega) | omega) _ | with_reducible refine Below.setCell ?_ (by first | exact Nat.le_refl _ | (simp; done) | (simp; omega) | omega) _ | with_reducible refine Below.trans ?_ (Below.mono (by with_reducible assumption) (by first | exact Nat.le_refl _ | (simp; done) | (simp; omega) | omega)))))).mono ?_; rintro e w1 ⟨rfl, hb⟩; (try replace hb := below_trans (by with_reducible assumption) hb); obtain ⟨hc, hf⟩ := bcell hb; have hz := hb.size; (try simp at hz); (try have hz0 : w.heap.size ≤ w1.heap.size := by omega); (try have hz1 : w.heap.size < w1.heap.size := by omega); (try have hz2 : w.heap.size + 1 < w1.heap.size := by omega); (try have hz3 : w.heap.size + 1 + 1 < w1.heap.size := by omega); (try have hz4 : w.heap.size + 1 + 1 + 1 < w1.heap.size := by omega)) | (go_at_call 80; refine (lasts_c _ _ l _ _ hl h2 (FixAt.below hF0.out (by repeat (first | with_reducible exact Below.refl _ _ | with_reducible assumption | with_reducible refine Below.drew ?_ | with_reducible refine Below.alloc ?_ (by first | exact Nat.le_refl _ | (simp; done) | (simp; omega) | omega) _ | with_reducible refine Below.setCell ?_ (by first | exact Nat.le_refl _ | (simp; done) | (simp; omega) | omega) _ | with_reducible refine Below.trans ?_ (Below.mono (by with_reducible assumption) (by first | exact Nat.le_refl _ | (simp; done) | (simp; omega) | omega)))))).mono ?_; rintro e w1 ⟨rfl, hb⟩; (try replace hb := below_trans (by with_reducible assumption) hb); obtain ⟨hc, hf⟩ := bcell hb; have hz := hb.size; (try simp at hz); (try have hz0 : w.heap.size ≤ w1.heap.size := by omega); (try have hz1 : w.heap.size < w1.heap.size := by omega); (try have hz2 : w.heap.size + 1 < w1.heap.size := by omega); (try have hz3 : w.heap.size + 1 + 1 < w1.heap.size := by omega); (try have hz4 : w.heap.size + 1 + 1 + 1 < w1.heap.size := by omega)))
      go_ret2
      exact ⟨by rw [HF.out]; rfl, (by repeat (first | with_reducible exact Below.refl _ _ | with_reducible assumption | with_reducible refine Below.drew ?_ | with_reducible refine Below.alloc ?_ (by first | exact Nat.le_refl _ | (simp; done) | (simp; omega) | omega) _ | with_reducible refine Below.setCell ?_ (by first | exact Nat.le_refl _ | (simp; done) | (simp; omega) | omega) _ | with_reducible refine Below.trans ?_ (Below.mono (by with_reducible assumption) (by first | exact Nat.le_refl _ | (simp; done) | (simp; omega) | omega))))⟩
    · have HF := Lib.hid (show sideR l ax ay bx cy t = (turnZ ax ay bx cy (posX l t) (posY l t), 0) by simp [sideR, e1, es, e2])
      have HP := pos_pt e1 e2
      go_enter Try.func40, Try.ntmps40
      go_wp2_with (first | (go_at_call 79; refine (CT.out _ (FixAt.below hF0.out (by repeat (first | with_reducible exact Below.refl _ _ | with_reducible assumption | with_reducible refine Below.drew ?_ | with_reducible refine Below.alloc ?_ (by first | exact Nat.le_refl _ | (simp; done) | (simp; omega) | omega) _ | with_reducible refine Below.setCell ?_ (by first | exact Nat.le_refl _ | (simp; done) | (simp; omega) | omega) _ | with_reducible refine Below.trans ?_ (Below.mono (by with_reducible assumption) (by first | exact Nat.le_refl _ | (simp; done) | (simp; omega) | omega)))))).mono ?_; rintro e w1 ⟨rfl, hb⟩; (try replace hb := below_trans (by with_reducible assumption) hb); obtain ⟨hc, hf⟩ := bcell hb; have hz := hb.size; (try simp at hz); (try have hz0 : w.heap.size ≤ w1.heap.size := by omega); (try have hz1 : w.heap.size < w1.heap.size := by omega); (try have hz2 : w.heap.size + 1 < w1.heap.size := by omega); (try have hz3 : w.heap.size + 1 + 1 < w1.heap.size := by omega); (try have hz4 : w.heap.size + 1 + 1 + 1 < w1.heap.size := by omega)) | (go_at_call 80; refine (lasts_c _ _ l _ _ hl h2 (FixAt.below hF0.out (by repeat (first | with_reducible exact Below.refl _ _ | with_reducible assumption | with_reducible refine Below.drew ?_ | with_reducible refine Below.alloc ?_ (by first | exact Nat.le_refl _ | (simp; done) | (simp; omega) | omega) _ | with_reducible refine Below.setCell ?_ (by first | exact Nat.le_refl _ | (simp; done) | (simp; omega) | omega) _ | with_reducible refine Below.trans ?_ (Below.mono (by with_reducible assumption) (by first | exact Nat.le_refl _ | (simp; done) | (simp; omega) | omega)))))).mono ?_; rintro e w1 ⟨rfl, hb⟩; (try replace hb := below_trans (by with_reducible assumption) hb); obtain ⟨hc, hf⟩ := bcell hb; have hz := hb.size; (try simp at hz); (try have hz0 : w.heap.size ≤ w1.heap.size := by omega); (try have hz1 : w.heap.size < w1.heap.size := by omega); (try have hz2 : w.heap.size + 1 < w1.heap.size := by omega); (try have hz3 : w.heap.size + 1 + 1 < w1.heap.size := by omega); (try have hz4 : w.heap.size + 1 + 1 + 1 < w1.heap.size := by omega)))
      have hFX : Hid (FixAt w1 a l) := Lib.hid (FixAt.below hF0.out (by repeat (first | with_reducible exact Below.refl _ _ | with_reducible assumption | with_reducible refine Below.drew ?_ | with_reducible refine Below.alloc ?_ (by first | exact Nat.le_refl _ | (simp; done) | (simp; omega) | omega) _ | with_reducible refine Below.setCell ?_ (by first | exact Nat.le_refl _ | (simp; done) | (simp; omega) | omega) _ | with_reducible refine Below.trans ?_ (Below.mono (by with_reducible assumption) (by first | exact Nat.le_refl _ | (simp; done) | (simp; omega) | omega)))))
      refine wp_region_later (by kernel_rfl) (by kernel_rfl) ?_
      repeat (first | go_big_quiet_step ((first | (go_at_call 73; exact later_of _ (positionAt_c _ _ l _ _ hl e1 e2 (FixAt.below hFX.out (Later.below _)))) | (go_at_call 81; exact later_of _ (sideOf_c _ _ _ _ _ _ _ hA hB HP)))) | quiet_step ((first | (go_at_call 73; exact later_of _ (positionAt_c _ _ l _ _ hl e1 e2 (FixAt.below hFX.out (Later.below _)))) | (go_at_call 81; exact later_of _ (sideOf_c _ _ _ _ _ _ _ hA hB HP)))))
      refine wpQuiet_nil ?_
      intro _ hw'
      obtain ⟨s6, hw''⟩ := hw'
      subst hw''
      have hb6 := s6.below
      generalize s6.w = w6 at hb6 ⊢
      clear s6
      try replace hb6 := below_trans (by with_reducible assumption) hb6
      obtain ⟨hc6, hf6⟩ := bcell hb6
      have hz6 := hb6.size
      try simp at hz6
      try have hz60 : w.heap.size ≤ w6.heap.size := by omega
      try have hz61 : w.heap.size < w6.heap.size := by omega
      try have hz62 : w.heap.size + 1 < w6.heap.size := by omega
      try have hz63 : w.heap.size + 1 + 1 < w6.heap.size := by omega
      try have hz64 : w.heap.size + 1 + 1 + 1 < w6.heap.size := by omega
      go_wp2
      go_ret2
      exact ⟨by rw [HF.out]; rfl, (by repeat (first | with_reducible exact Below.refl _ _ | with_reducible assumption | with_reducible refine Below.drew ?_ | with_reducible refine Below.alloc ?_ (by first | exact Nat.le_refl _ | (simp; done) | (simp; omega) | omega) _ | with_reducible refine Below.setCell ?_ (by first | exact Nat.le_refl _ | (simp; done) | (simp; omega) | omega) _ | with_reducible refine Below.trans ?_ (Below.mono (by with_reducible assumption) (by first | exact Nat.le_refl _ | (simp; done) | (simp; omega) | omega))))⟩
  · have HF := Lib.hid (show sideR l ax ay bx cy t = (0, 1) by simp only [sideR, if_neg e])
    have CT := Lib.hid (fun w h => (if_neg e) ▸ lineCode_c a cap l ax ay bx cy w hl h)
    clear e
    go_enter Try.func40, Try.ntmps40
    go_wp2_with (go_at_call 79; refine (CT.out _ (FixAt.below hF0.out (by repeat (first | with_reducible exact Below.refl _ _ | with_reducible assumption | with_reducible refine Below.drew ?_ | with_reducible refine Below.alloc ?_ (by first | exact Nat.le_refl _ | (simp; done) | (simp; omega) | omega) _ | with_reducible refine Below.setCell ?_ (by first | exact Nat.le_refl _ | (simp; done) | (simp; omega) | omega) _ | with_reducible refine Below.trans ?_ (Below.mono (by with_reducible assumption) (by first | exact Nat.le_refl _ | (simp; done) | (simp; omega) | omega)))))).mono ?_; rintro e w1 ⟨rfl, hb⟩; (try replace hb := below_trans (by with_reducible assumption) hb); obtain ⟨hc, hf⟩ := bcell hb; have hz := hb.size; (try simp at hz); (try have hz0 : w.heap.size ≤ w1.heap.size := by omega); (try have hz1 : w.heap.size < w1.heap.size := by omega); (try have hz2 : w.heap.size + 1 < w1.heap.size := by omega); (try have hz3 : w.heap.size + 1 + 1 < w1.heap.size := by omega); (try have hz4 : w.heap.size + 1 + 1 + 1 < w1.heap.size := by omega))
    go_ret2
    exact ⟨by rw [HF.out]; rfl, (by repeat (first | with_reducible exact Below.refl _ _ | with_reducible assumption | with_reducible refine Below.drew ?_ | with_reducible refine Below.alloc ?_ (by first | exact Nat.le_refl _ | (simp; done) | (simp; omega) | omega) _ | with_reducible refine Below.setCell ?_ (by first | exact Nat.le_refl _ | (simp; done) | (simp; omega) | omega) _ | with_reducible refine Below.trans ?_ (Below.mono (by with_reducible assumption) (by first | exact Nat.le_refl _ | (simp; done) | (simp; omega) | omega))))⟩
set_option maxHeartbeats 1600000 in
theorem SideAtS_c (a : Option Addr) (cap : Nat) (l : List Fx) (ax ay bx cy t : Int) (w : World) (hl : l.length ≤ 4611686018427387904) (hf : FixAt w a l) : Calls Try.prog 38 #[.agg #[.slice a l.length cap], .agg #[.int .i64 ax, .int .i64 ay, .int .i64 bx, .int .i64 cy], .int .i64 t] w fun e w' => e = .returned (.tuple #[.int .i64 (sideR l ax ay bx cy t).1, .int .i64 (sideR l ax ay bx cy t).2]) ∧ Below w.heap.size w w' := by
  have hF0 := Lib.hid hf
  clear hf
  cases e1 : isTrk l
  · have HF := Lib.hid (show sideR l ax ay bx cy t = (0, 1) by simp [sideR, e1])
    go_enter Try.func38, Try.ntmps38
    go_wp2_with (first | (go_at_call 16; refine (IsTrackS_c _ _ l _ hl (FixAt.below hF0.out (by repeat (first | with_reducible exact Below.refl _ _ | with_reducible assumption | with_reducible refine Below.drew ?_ | with_reducible refine Below.alloc ?_ (by first | exact Nat.le_refl _ | (simp; done) | (simp; omega) | omega) _ | with_reducible refine Below.setCell ?_ (by first | exact Nat.le_refl _ | (simp; done) | (simp; omega) | omega) _ | with_reducible refine Below.trans ?_ (Below.mono (by with_reducible assumption) (by first | exact Nat.le_refl _ | (simp; done) | (simp; omega) | omega)))))).mono ?_; rintro e w1 ⟨rfl, hb⟩; (try replace hb := below_trans (by with_reducible assumption) hb); obtain ⟨hc, hf⟩ := bcell hb; have hz := hb.size; (try simp at hz); (try have hz0 : w.heap.size ≤ w1.heap.size := by omega); (try have hz1 : w.heap.size < w1.heap.size := by omega); (try have hz2 : w.heap.size + 1 < w1.heap.size := by omega); (try have hz3 : w.heap.size + 1 + 1 < w1.heap.size := by omega); (try have hz4 : w.heap.size + 1 + 1 + 1 < w1.heap.size := by omega)) | (go_at_call 77; refine (isLineS_c _ _ _ _ _).mono ?_; rintro e w1 ⟨rfl, hb⟩; (try replace hb := below_trans (by with_reducible assumption) hb); obtain ⟨hc, hf⟩ := bcell hb; have hz := hb.size; (try simp at hz); (try have hz0 : w.heap.size ≤ w1.heap.size := by omega); (try have hz1 : w.heap.size < w1.heap.size := by omega); (try have hz2 : w.heap.size + 1 < w1.heap.size := by omega); (try have hz3 : w.heap.size + 1 + 1 < w1.heap.size := by omega); (try have hz4 : w.heap.size + 1 + 1 + 1 < w1.heap.size := by omega)))
    go_ret2
    exact ⟨by rw [HF.out]; rfl, (by repeat (first | with_reducible exact Below.refl _ _ | with_reducible assumption | with_reducible refine Below.drew ?_ | with_reducible refine Below.alloc ?_ (by first | exact Nat.le_refl _ | (simp; done) | (simp; omega) | omega) _ | with_reducible refine Below.setCell ?_ (by first | exact Nat.le_refl _ | (simp; done) | (simp; omega) | omega) _ | with_reducible refine Below.trans ?_ (Below.mono (by with_reducible assumption) (by first | exact Nat.le_refl _ | (simp; done) | (simp; omega) | omega))))⟩
  cases es : isSeg ax ay bx cy
  · have HF := Lib.hid (show sideR l ax ay bx cy t = (0, 1) by simp [sideR, e1, es])
    go_enter Try.func38, Try.ntmps38
    go_wp2_with (first | (go_at_call 16; refine (IsTrackS_c _ _ l _ hl (FixAt.below hF0.out (by repeat (first | with_reducible exact Below.refl _ _ | with_reducible assumption | with_reducible refine Below.drew ?_ | with_reducible refine Below.alloc ?_ (by first | exact Nat.le_refl _ | (simp; done) | (simp; omega) | omega) _ | with_reducible refine Below.setCell ?_ (by first | exact Nat.le_refl _ | (simp; done) | (simp; omega) | omega) _ | with_reducible refine Below.trans ?_ (Below.mono (by with_reducible assumption) (by first | exact Nat.le_refl _ | (simp; done) | (simp; omega) | omega)))))).mono ?_; rintro e w1 ⟨rfl, hb⟩; (try replace hb := below_trans (by with_reducible assumption) hb); obtain ⟨hc, hf⟩ := bcell hb; have hz := hb.size; (try simp at hz); (try have hz0 : w.heap.size ≤ w1.heap.size := by omega); (try have hz1 : w.heap.size < w1.heap.size := by omega); (try have hz2 : w.heap.size + 1 < w1.heap.size := by omega); (try have hz3 : w.heap.size + 1 + 1 < w1.heap.size := by omega); (try have hz4 : w.heap.size + 1 + 1 + 1 < w1.heap.size := by omega)) | (go_at_call 77; refine (isLineS_c _ _ _ _ _).mono ?_; rintro e w1 ⟨rfl, hb⟩; (try replace hb := below_trans (by with_reducible assumption) hb); obtain ⟨hc, hf⟩ := bcell hb; have hz := hb.size; (try simp at hz); (try have hz0 : w.heap.size ≤ w1.heap.size := by omega); (try have hz1 : w.heap.size < w1.heap.size := by omega); (try have hz2 : w.heap.size + 1 < w1.heap.size := by omega); (try have hz3 : w.heap.size + 1 + 1 < w1.heap.size := by omega); (try have hz4 : w.heap.size + 1 + 1 + 1 < w1.heap.size := by omega)))
    go_ret2
    exact ⟨by rw [HF.out]; rfl, (by repeat (first | with_reducible exact Below.refl _ _ | with_reducible assumption | with_reducible refine Below.drew ?_ | with_reducible refine Below.alloc ?_ (by first | exact Nat.le_refl _ | (simp; done) | (simp; omega) | omega) _ | with_reducible refine Below.setCell ?_ (by first | exact Nat.le_refl _ | (simp; done) | (simp; omega) | omega) _ | with_reducible refine Below.trans ?_ (Below.mono (by with_reducible assumption) (by first | exact Nat.le_refl _ | (simp; done) | (simp; omega) | omega))))⟩
  have h2 := (isTrk_true e1).1
  obtain ⟨hA, hB, _⟩ := isSeg_true es
  cases e2 : lastsB l t
  · have HF := Lib.hid (show sideR l ax ay bx cy t = (0, 2) by simp [sideR, e1, es, e2])
    go_enter Try.func38, Try.ntmps38
    go_wp2_with (first | (go_at_call 16; refine (IsTrackS_c _ _ l _ hl (FixAt.below hF0.out (by repeat (first | with_reducible exact Below.refl _ _ | with_reducible assumption | with_reducible refine Below.drew ?_ | with_reducible refine Below.alloc ?_ (by first | exact Nat.le_refl _ | (simp; done) | (simp; omega) | omega) _ | with_reducible refine Below.setCell ?_ (by first | exact Nat.le_refl _ | (simp; done) | (simp; omega) | omega) _ | with_reducible refine Below.trans ?_ (Below.mono (by with_reducible assumption) (by first | exact Nat.le_refl _ | (simp; done) | (simp; omega) | omega)))))).mono ?_; rintro e w1 ⟨rfl, hb⟩; (try replace hb := below_trans (by with_reducible assumption) hb); obtain ⟨hc, hf⟩ := bcell hb; have hz := hb.size; (try simp at hz); (try have hz0 : w.heap.size ≤ w1.heap.size := by omega); (try have hz1 : w.heap.size < w1.heap.size := by omega); (try have hz2 : w.heap.size + 1 < w1.heap.size := by omega); (try have hz3 : w.heap.size + 1 + 1 < w1.heap.size := by omega); (try have hz4 : w.heap.size + 1 + 1 + 1 < w1.heap.size := by omega)) | (go_at_call 77; refine (isLineS_c _ _ _ _ _).mono ?_; rintro e w1 ⟨rfl, hb⟩; (try replace hb := below_trans (by with_reducible assumption) hb); obtain ⟨hc, hf⟩ := bcell hb; have hz := hb.size; (try simp at hz); (try have hz0 : w.heap.size ≤ w1.heap.size := by omega); (try have hz1 : w.heap.size < w1.heap.size := by omega); (try have hz2 : w.heap.size + 1 < w1.heap.size := by omega); (try have hz3 : w.heap.size + 1 + 1 < w1.heap.size := by omega); (try have hz4 : w.heap.size + 1 + 1 + 1 < w1.heap.size := by omega)) | (go_at_call 61; refine (l03Lasts_c _ _ l _ _ hl h2 (FixAt.below hF0.out (by repeat (first | with_reducible exact Below.refl _ _ | with_reducible assumption | with_reducible refine Below.drew ?_ | with_reducible refine Below.alloc ?_ (by first | exact Nat.le_refl _ | (simp; done) | (simp; omega) | omega) _ | with_reducible refine Below.setCell ?_ (by first | exact Nat.le_refl _ | (simp; done) | (simp; omega) | omega) _ | with_reducible refine Below.trans ?_ (Below.mono (by with_reducible assumption) (by first | exact Nat.le_refl _ | (simp; done) | (simp; omega) | omega)))))).mono ?_; rintro e w1 ⟨rfl, hb⟩; (try replace hb := below_trans (by with_reducible assumption) hb); obtain ⟨hc, hf⟩ := bcell hb; have hz := hb.size; (try simp at hz); (try have hz0 : w.heap.size ≤ w1.heap.size := by omega); (try have hz1 : w.heap.size < w1.heap.size := by omega); (try have hz2 : w.heap.size + 1 < w1.heap.size := by omega); (try have hz3 : w.heap.size + 1 + 1 < w1.heap.size := by omega); (try have hz4 : w.heap.size + 1 + 1 + 1 < w1.heap.size := by omega)))
    go_ret2
    exact ⟨by rw [HF.out]; rfl, (by repeat (first | with_reducible exact Below.refl _ _ | with_reducible assumption | with_reducible refine Below.drew ?_ | with_reducible refine Below.alloc ?_ (by first | exact Nat.le_refl _ | (simp; done) | (simp; omega) | omega) _ | with_reducible refine Below.setCell ?_ (by first | exact Nat.le_refl _ | (simp; done) | (simp; omega) | omega) _ | with_reducible refine Below.trans ?_ (Below.mono (by with_reducible assumption) (by first | exact Nat.le_refl _ | (simp; done) | (simp; omega) | omega))))⟩
  · have HF := Lib.hid (show sideR l ax ay bx cy t = (turnZ ax ay bx cy (posX l t) (posY l t), 0) by simp [sideR, e1, es, e2])
    have HP := pos_pt e1 e2
    go_enter Try.func38, Try.ntmps38
    go_wp2_with (first | (go_at_call 16; refine (IsTrackS_c _ _ l _ hl (FixAt.below hF0.out (by repeat (first | with_reducible exact Below.refl _ _ | with_reducible assumption | with_reducible refine Below.drew ?_ | with_reducible refine Below.alloc ?_ (by first | exact Nat.le_refl _ | (simp; done) | (simp; omega) | omega) _ | with_reducible refine Below.setCell ?_ (by first | exact Nat.le_refl _ | (simp; done) | (simp; omega) | omega) _ | with_reducible refine Below.trans ?_ (Below.mono (by with_reducible assumption) (by first | exact Nat.le_refl _ | (simp; done) | (simp; omega) | omega)))))).mono ?_; rintro e w1 ⟨rfl, hb⟩; (try replace hb := below_trans (by with_reducible assumption) hb); obtain ⟨hc, hf⟩ := bcell hb; have hz := hb.size; (try simp at hz); (try have hz0 : w.heap.size ≤ w1.heap.size := by omega); (try have hz1 : w.heap.size < w1.heap.size := by omega); (try have hz2 : w.heap.size + 1 < w1.heap.size := by omega); (try have hz3 : w.heap.size + 1 + 1 < w1.heap.size := by omega); (try have hz4 : w.heap.size + 1 + 1 + 1 < w1.heap.size := by omega)) | (go_at_call 77; refine (isLineS_c _ _ _ _ _).mono ?_; rintro e w1 ⟨rfl, hb⟩; (try replace hb := below_trans (by with_reducible assumption) hb); obtain ⟨hc, hf⟩ := bcell hb; have hz := hb.size; (try simp at hz); (try have hz0 : w.heap.size ≤ w1.heap.size := by omega); (try have hz1 : w.heap.size < w1.heap.size := by omega); (try have hz2 : w.heap.size + 1 < w1.heap.size := by omega); (try have hz3 : w.heap.size + 1 + 1 < w1.heap.size := by omega); (try have hz4 : w.heap.size + 1 + 1 + 1 < w1.heap.size := by omega)) | (go_at_call 61; refine (l03Lasts_c _ _ l _ _ hl h2 (FixAt.below hF0.out (by repeat (first | with_reducible exact Below.refl _ _ | with_reducible assumption | with_reducible refine Below.drew ?_ | with_reducible refine Below.alloc ?_ (by first | exact Nat.le_refl _ | (simp; done) | (simp; omega) | omega) _ | with_reducible refine Below.setCell ?_ (by first | exact Nat.le_refl _ | (simp; done) | (simp; omega) | omega) _ | with_reducible refine Below.trans ?_ (Below.mono (by with_reducible assumption) (by first | exact Nat.le_refl _ | (simp; done) | (simp; omega) | omega)))))).mono ?_; rintro e w1 ⟨rfl, hb⟩; (try replace hb := below_trans (by with_reducible assumption) hb); obtain ⟨hc, hf⟩ := bcell hb; have hz := hb.size; (try simp at hz); (try have hz0 : w.heap.size ≤ w1.heap.size := by omega); (try have hz1 : w.heap.size < w1.heap.size := by omega); (try have hz2 : w.heap.size + 1 < w1.heap.size := by omega); (try have hz3 : w.heap.size + 1 + 1 < w1.heap.size := by omega); (try have hz4 : w.heap.size + 1 + 1 + 1 < w1.heap.size := by omega)))
    have hFX : Hid (FixAt w1 a l) := Lib.hid (FixAt.below hF0.out (by repeat (first | with_reducible exact Below.refl _ _ | with_reducible assumption | with_reducible refine Below.drew ?_ | with_reducible refine Below.alloc ?_ (by first | exact Nat.le_refl _ | (simp; done) | (simp; omega) | omega) _ | with_reducible refine Below.setCell ?_ (by first | exact Nat.le_refl _ | (simp; done) | (simp; omega) | omega) _ | with_reducible refine Below.trans ?_ (Below.mono (by with_reducible assumption) (by first | exact Nat.le_refl _ | (simp; done) | (simp; omega) | omega)))))
    refine wp_region_later (by kernel_rfl) (by kernel_rfl) ?_
    repeat (first | go_big_quiet_step ((first | (go_at_call 72; exact later_of _ (l03At_c _ _ l _ _ hl e1 e2 (FixAt.below hFX.out (Later.below _)))) | (go_at_call 78; exact later_of _ (l04Before_c _ _ _ _ _ _ _ hA hB HP)))) | quiet_step ((first | (go_at_call 72; exact later_of _ (l03At_c _ _ l _ _ hl e1 e2 (FixAt.below hFX.out (Later.below _)))) | (go_at_call 78; exact later_of _ (l04Before_c _ _ _ _ _ _ _ hA hB HP)))))
    refine wpQuiet_nil ?_
    intro _ hw'
    obtain ⟨s6, hw''⟩ := hw'
    subst hw''
    have hb6 := s6.below
    generalize s6.w = w6 at hb6 ⊢
    clear s6
    try replace hb6 := below_trans (by with_reducible assumption) hb6
    obtain ⟨hc6, hf6⟩ := bcell hb6
    have hz6 := hb6.size
    try simp at hz6
    try have hz60 : w.heap.size ≤ w6.heap.size := by omega
    try have hz61 : w.heap.size < w6.heap.size := by omega
    try have hz62 : w.heap.size + 1 < w6.heap.size := by omega
    try have hz63 : w.heap.size + 1 + 1 < w6.heap.size := by omega
    try have hz64 : w.heap.size + 1 + 1 + 1 < w6.heap.size := by omega
    go_wp2
    go_ret2
    exact ⟨by rw [HF.out]; rfl, (by repeat (first | with_reducible exact Below.refl _ _ | with_reducible assumption | with_reducible refine Below.drew ?_ | with_reducible refine Below.alloc ?_ (by first | exact Nat.le_refl _ | (simp; done) | (simp; omega) | omega) _ | with_reducible refine Below.setCell ?_ (by first | exact Nat.le_refl _ | (simp; done) | (simp; omega) | omega) _ | with_reducible refine Below.trans ?_ (Below.mono (by with_reducible assumption) (by first | exact Nat.le_refl _ | (simp; done) | (simp; omega) | omega))))⟩
end Go.Proofs.Ytdgmadpkhdfapaa
