/-
  The position on a track, the program's. Conditions: the cells lie in the world; what else stands with each.
  The position on a track, the reference's. Conditions: the cells lie in the world; what else stands with each.
  PositionAt, the program's and the reference's. Conditions: the cells lie in the world.
  SideAt, the program's and the reference's. Conditions: the cells lie in the world.
-/
import Derived.Test.YthgngpmeaobidaaGreatDoorL03k
import Derived.Test.YthgngpmeaobidaaGreatDoorH4
namespace Go.Proofs.YthgngpmeaobidaaGreatDoor
section
set_option linter.unusedVariables false
open Go.RowKit Go.Deep

theorem h4_undrew {W wx : World} {B : Nat} (h : ((∀ b o, b < W.heap.size → b ≠ B → wx.drew.cell? ⟨b, o, none⟩ = W.cell? ⟨b, o, none⟩) ∧ wx.drew.cell? ⟨B, 0, none⟩ = some (.int .i64 (rd wx.drew ⟨B, 0, none⟩)) ∧ wx.drew.cell? ⟨B, 1, none⟩ = some (.int .i64 (rd wx.drew ⟨B, 1, none⟩)) ∧ wx.drew.frozen? ⟨B, 0, none⟩ = false ∧ wx.drew.frozen? ⟨B, 1, none⟩ = false ∧ Kept B W wx.drew)) : ((∀ b o, b < W.heap.size → b ≠ B → wx.cell? ⟨b, o, none⟩ = W.cell? ⟨b, o, none⟩) ∧ wx.cell? ⟨B, 0, none⟩ = some (.int .i64 (rd wx ⟨B, 0, none⟩)) ∧ wx.cell? ⟨B, 1, none⟩ = some (.int .i64 (rd wx ⟨B, 1, none⟩)) ∧ wx.frozen? ⟨B, 0, none⟩ = false ∧ wx.frozen? ⟨B, 1, none⟩ = false ∧ Kept B W wx) :=
  ⟨h.1, h.2.1, h.2.2.1, h.2.2.2.1, h.2.2.2.2.1, ⟨h.2.2.2.2.2.os, h.2.2.2.2.2.tape, h.2.2.2.2.2.output, h.2.2.2.2.2.size, h.2.2.2.2.2.block⟩⟩
theorem h4_drew {W wx : World} {B : Nat} (h : ((∀ b o, b < W.heap.size → b ≠ B → wx.cell? ⟨b, o, none⟩ = W.cell? ⟨b, o, none⟩) ∧ wx.cell? ⟨B, 0, none⟩ = some (.int .i64 (rd wx ⟨B, 0, none⟩)) ∧ wx.cell? ⟨B, 1, none⟩ = some (.int .i64 (rd wx ⟨B, 1, none⟩)) ∧ wx.frozen? ⟨B, 0, none⟩ = false ∧ wx.frozen? ⟨B, 1, none⟩ = false ∧ Kept B W wx)) : ((∀ b o, b < W.heap.size → b ≠ B → wx.drew.cell? ⟨b, o, none⟩ = W.cell? ⟨b, o, none⟩) ∧ wx.drew.cell? ⟨B, 0, none⟩ = some (.int .i64 (rd wx.drew ⟨B, 0, none⟩)) ∧ wx.drew.cell? ⟨B, 1, none⟩ = some (.int .i64 (rd wx.drew ⟨B, 1, none⟩)) ∧ wx.drew.frozen? ⟨B, 0, none⟩ = false ∧ wx.drew.frozen? ⟨B, 1, none⟩ = false ∧ Kept B W wx.drew) :=
  ⟨h.1, h.2.1, h.2.2.1, h.2.2.2.1, h.2.2.2.2.1, h.2.2.2.2.2.drew⟩
end

section
set_option linter.unusedVariables false
open Go.RowKit Go.Deep
end

section
set_option linter.unusedVariables false
open Go.RowKit Go.Deep
end

section
set_option linter.unusedVariables false
open Go.RowKit Go.Deep

theorem place_between {d n m : Int} (hm : 1 ≤ m) (h0 : 0 ≤ n) (h1 : n ≤ m) : (0 ≤ d → 0 ≤ d * n / m ∧ d * n / m ≤ d) ∧ (d ≤ 0 → d ≤ d * n / m ∧ d * n / m ≤ 0) := by
  constructor
  · intro h
    exact ⟨Int.ediv_nonneg (Int.mul_nonneg h h0) (by omega), (place_bd hm h0 h1 (k := d) h (by omega) (Int.le_refl _)).2⟩
  · intro h
    refine ⟨by have := (place_bd hm h0 h1 (k := -d) (d := d) (by omega) (by omega) (by omega)).1; omega, ?_⟩
    have hp : d * n ≤ 0 := by
      have := Int.mul_nonneg (show 0 ≤ -d by omega) h0
      rw [Int.neg_mul] at this
      omega
    exact ((div_bd (a := d * n) hm).2 hp).2
theorem pos_pt {l : List Fx} {t : Int} (e1 : isTrk l = true) (e2 : lastsB l t = true) : isPt (posX l t) (posY l t) = true := by
  have hk := legN_lt t (isTrk_true e1).1
  obtain ⟨hp, hq, t0, t1, t2⟩ := leg_facts e1 hk
  obtain ⟨u1, u2⟩ := legN_times e1 e2
  obtain ⟨p1, p2, p3, p4⟩ := isPt_true hp
  obtain ⟨q1, q2, q3, q4⟩ := isPt_true hq
  unfold posX posY placeZ
  generalize fx l (legN l t) = fk at *
  generalize fx l (legN l t + 1) = fm at *
  have x1 := place_between (d := fm.x - fk.x) (n := t - fk.t) (m := fm.t - fk.t) (by omega) (by omega) (by omega)
  have y1 := place_between (d := fm.y - fk.y) (n := t - fk.t) (m := fm.t - fk.t) (by omega) (by omega) (by omega)
  generalize (fm.x - fk.x) * (t - fk.t) / (fm.t - fk.t) = X at *
  generalize (fm.y - fk.y) * (t - fk.t) / (fm.t - fk.t) = Y at *
  rcases Int.le_total 0 (fm.x - fk.x) with h | h <;> rcases Int.le_total 0 (fm.y - fk.y) with g | g
  · have := x1.1 h; have := y1.1 g; exact isPt_mk (by omega) (by omega) (by omega) (by omega)
  · have := x1.1 h; have := y1.2 g; exact isPt_mk (by omega) (by omega) (by omega) (by omega)
  · have := x1.2 h; have := y1.1 g; exact isPt_mk (by omega) (by omega) (by omega) (by omega)
  · have := x1.2 h; have := y1.2 g; exact isPt_mk (by omega) (by omega) (by omega) (by omega)
def sideR (l : List Fx) (ax ay bx cy t : Int) : Int × Int := if isTrk l = true ∧ isSeg ax ay bx cy = true then (if lastsB l t = true then (turnZ ax ay bx cy (posX l t) (posY l t), 0) else (0, 2)) else (0, 1)
end
end Go.Proofs.YthgngpmeaobidaaGreatDoor
