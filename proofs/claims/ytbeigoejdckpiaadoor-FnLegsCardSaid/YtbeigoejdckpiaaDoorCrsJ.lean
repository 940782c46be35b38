/-
  The rounding line of a mark, both sides. Conditions: a course; where its marks lie.
-/
import Derived.Test.YtbeigoejdckpiaaDoorCrsM
namespace Go.Proofs.YtbeigoejdckpiaaDoor
set_option linter.unusedVariables false
open Go.RowKit Go.Deep

theorem held_set2 {W w0 : World} {B : Nat} (h : Below W.heap.size W w0 ∧ ∀ b o, b < W.heap.size → (w0).cell? ⟨b, o, none⟩ = W.cell? ⟨b, o, none⟩) (hB : W.heap.size ≤ B) (v0 v1 : Value) : Below W.heap.size W ((w0.setCell ⟨B, 0, none⟩ v0).setCell ⟨B, 1, none⟩ v1) ∧ ∀ b o, b < W.heap.size → (((w0.setCell ⟨B, 0, none⟩ v0).setCell ⟨B, 1, none⟩ v1)).cell? ⟨b, o, none⟩ = W.cell? ⟨b, o, none⟩ := (held_set (held_set h (p := ⟨B, 0, none⟩) hB v0) (p := ⟨B, 1, none⟩) hB v1)
theorem held_set4 {W w0 : World} {B : Nat} (h : Below W.heap.size W w0 ∧ ∀ b o, b < W.heap.size → (w0).cell? ⟨b, o, none⟩ = W.cell? ⟨b, o, none⟩) (hB : W.heap.size ≤ B) (v0 v1 v2 v3 : Value) : Below W.heap.size W ((((w0.setCell ⟨B, 0, none⟩ v0).setCell ⟨B, 1, none⟩ v1).setCell ⟨B, 2, none⟩ v2).setCell ⟨B, 3, none⟩ v3) ∧ ∀ b o, b < W.heap.size → (((((w0.setCell ⟨B, 0, none⟩ v0).setCell ⟨B, 1, none⟩ v1).setCell ⟨B, 2, none⟩ v2).setCell ⟨B, 3, none⟩ v3)).cell? ⟨b, o, none⟩ = W.cell? ⟨b, o, none⟩ := (held_set (held_set (held_set (held_set h (p := ⟨B, 0, none⟩) hB v0) (p := ⟨B, 1, none⟩) hB v1) (p := ⟨B, 2, none⟩) hB v2) (p := ⟨B, 3, none⟩) hB v3)
theorem held_set5 {W w0 : World} {B : Nat} (h : Below W.heap.size W w0 ∧ ∀ b o, b < W.heap.size → (w0).cell? ⟨b, o, none⟩ = W.cell? ⟨b, o, none⟩) (hB : W.heap.size ≤ B) (v0 v1 v2 v3 v4 : Value) : Below W.heap.size W (((((w0.setCell ⟨B, 0, none⟩ v0).setCell ⟨B, 1, none⟩ v1).setCell ⟨B, 2, none⟩ v2).setCell ⟨B, 3, none⟩ v3).setCell ⟨B, 4, none⟩ v4) ∧ ∀ b o, b < W.heap.size → ((((((w0.setCell ⟨B, 0, none⟩ v0).setCell ⟨B, 1, none⟩ v1).setCell ⟨B, 2, none⟩ v2).setCell ⟨B, 3, none⟩ v3).setCell ⟨B, 4, none⟩ v4)).cell? ⟨b, o, none⟩ = W.cell? ⟨b, o, none⟩ := (held_set (held_set (held_set (held_set (held_set h (p := ⟨B, 0, none⟩) hB v0) (p := ⟨B, 1, none⟩) hB v1) (p := ⟨B, 2, none⟩) hB v2) (p := ⟨B, 3, none⟩) hB v3) (p := ⟨B, 4, none⟩) hB v4)
theorem held_refl (W : World) : Below W.heap.size W W ∧ ∀ b o, b < W.heap.size → W.cell? ⟨b, o, none⟩ = W.cell? ⟨b, o, none⟩ := held_of (Below.refl _ _)
theorem held_drew {W w1 : World} (h : Below W.heap.size W w1 ∧ ∀ b o, b < W.heap.size → w1.cell? ⟨b, o, none⟩ = W.cell? ⟨b, o, none⟩) : Below W.heap.size W w1.drew ∧ ∀ b o, b < W.heap.size → w1.drew.cell? ⟨b, o, none⟩ = W.cell? ⟨b, o, none⟩ := held_of h.1.drew
theorem held_back {W w1 : World} {o : Obj} (h : Below W.heap.size W (w1.alloc o) ∧ ∀ b o', b < W.heap.size → (w1.alloc o).cell? ⟨b, o', none⟩ = W.cell? ⟨b, o', none⟩) (hw : W.heap.size ≤ w1.heap.size) : Below W.heap.size W w1 ∧ ∀ b o', b < W.heap.size → w1.cell? ⟨b, o', none⟩ = W.cell? ⟨b, o', none⟩ :=
  held_of ⟨h.1.os, h.1.tape, h.1.output, hw, fun b hb => by
    have := h.1.block b hb
    rwa [Below.heap_alloc _ _ _ (by omega)] at this⟩
theorem held_realloc1 {W w1 : World} {o : Obj} (h : Below W.heap.size W (w1.alloc o) ∧ ∀ b o', b < W.heap.size → (w1.alloc o).cell? ⟨b, o', none⟩ = W.cell? ⟨b, o', none⟩) (hw : W.heap.size ≤ w1.heap.size) (u : Obj) : Below W.heap.size W (w1.alloc u) ∧ ∀ b o', b < W.heap.size → (w1.alloc u).cell? ⟨b, o', none⟩ = W.cell? ⟨b, o', none⟩ := held_alloc (held_back h hw) u
theorem held_realloc2 {W w1 : World} {o p : Obj} (h : Below W.heap.size W ((w1.alloc o).alloc p) ∧ ∀ b o', b < W.heap.size → ((w1.alloc o).alloc p).cell? ⟨b, o', none⟩ = W.cell? ⟨b, o', none⟩) (hw : W.heap.size ≤ w1.heap.size) (u v : Obj) : Below W.heap.size W ((w1.alloc u).alloc v) ∧ ∀ b o', b < W.heap.size → ((w1.alloc u).alloc v).cell? ⟨b, o', none⟩ = W.cell? ⟨b, o', none⟩ := held_alloc (held_alloc (held_back (held_back h (by simp; omega)) hw) u) v
theorem bltC {W w1 : World} (hb : Below W.heap.size W w1) : ∀ b, b < W.heap.size → b < w1.heap.size := fun _ h => Nat.lt_of_lt_of_le h hb.size
/-- the weight of a mark's side, times its zone -/
def rlW (m : Mk) : Int := if m.s = 2 then -(10 * m.z) else 10 * m.z
def rlN (m : Mk) (p : Int × Int) : Int := rootZ ((m.x - p.1) * (m.x - p.1) + (m.y - p.2) * (m.y - p.2))
def rlE (m : Mk) (p : Int × Int) : Int × Int := (m.x + (m.y - p.2) * rlW m / rlN m p, m.y - (m.x - p.1) * rlW m / rlN m p)
/-- the rounding line -/
def rlL (m : Mk) (p : Int × Int) : Int × Int × Int × Int := if m.s = 2 then ((rlE m p).1, (rlE m p).2, m.x, m.y) else (m.x, m.y, (rlE m p).1, (rlE m p).2)
noncomputable def rlAt (x0 x1 x2 x3 x4 x5 x6 x7 : Int) (l : List Mk) (k : Nat) : Int × Int × Int × Int := rlL (mk l k) (pt (stn x0 x1 x2 x3 x4 x5 x6 x7 l) k)
theorem alloc_top {X w1 : World} {o : Obj} (hb : Below (X.alloc o).heap.size (X.alloc o) w1) : (∀ i, w1.cell? ⟨X.heap.size, i, none⟩ = (X.alloc o).cell? ⟨X.heap.size, i, none⟩) ∧ (∀ i, w1.frozen? ⟨X.heap.size, i, none⟩ = (X.alloc o).frozen? ⟨X.heap.size, i, none⟩) ∧ X.heap.size < w1.heap.size := by
  obtain ⟨hc, hf⟩ := bcell hb
  have hz := hb.size
  simp at hz
  exact ⟨fun i => hc _ i (by simp), fun i => hf _ i (by simp), by omega⟩
theorem rl_bd {x y q n : Int} (x1 : -2000000 ≤ x) (x2 : x ≤ 2000000) (y1 : -2000000 ≤ y) (y2 : y ≤ 2000000) (q1 : -50000 ≤ q) (q2 : q ≤ 50000) (hn : 1 ≤ n) :
    (-100000000000 ≤ y * q ∧ y * q ≤ 100000000000) ∧ (-100000000000 ≤ x * q ∧ x * q ≤ 100000000000) ∧ (-100000000000 ≤ y * q / n ∧ y * q / n ≤ 100000000000) ∧ (-100000000000 ≤ x * q / n ∧ x * q / n ≤ 100000000000) := by
  have a := mul_bd y1 y2 q1 q2
  have b := mul_bd x1 x2 q1 q2
  have da := div_bd (a := y * q) hn
  have db := div_bd (a := x * q) hn
  refine ⟨by omega, by omega, ?_, ?_⟩
  · rcases Int.le_total 0 (y * q) with h | h
    · have := da.1 h; omega
    · have := da.2 h; omega
  · rcases Int.le_total 0 (x * q) with h | h
    · have := db.1 h; omega
    · have := db.2 h; omega
theorem sum_sq {x y : Int} (x1 : -2000000 ≤ x) (x2 : x ≤ 2000000) (y1 : -2000000 ≤ y) (y2 : y ≤ 2000000) (h : x ≠ 0 ∨ y ≠ 0) : (0 ≤ x * x ∧ x * x ≤ 4000000000000) ∧ (0 ≤ y * y ∧ y * y ≤ 4000000000000) ∧ 1 ≤ x * x + y * y := by
  have a := mul_bd2 x1 x2 x1 x2
  have b := mul_bd2 y1 y2 y1 y2
  have sx : 0 ≤ x * x := by rcases Int.le_total 0 x with h | h; exact Int.mul_nonneg h h; exact Int.mul_nonneg_of_nonpos_of_nonpos h h
  have sy : 0 ≤ y * y := by rcases Int.le_total 0 y with h | h; exact Int.mul_nonneg h h; exact Int.mul_nonneg_of_nonpos_of_nonpos h h
  refine ⟨⟨sx, a.2⟩, ⟨sy, b.2⟩, ?_⟩
  rcases h with h | h
  · have : x * x ≠ 0 := fun e => h (by rcases Int.mul_eq_zero.1 e with e | e <;> exact e)
    omega
  · have : y * y ≠ 0 := fun e => h (by rcases Int.mul_eq_zero.1 e with e | e <;> exact e)
    omega
theorem root_pos {n : Int} (h : 1 ≤ n) (h2 : n ≤ 8000000000000) : 1 ≤ rootZ n ∧ rootZ n ≤ 8000000000000 := by
  obtain ⟨r0, r1, r2⟩ := rootZ_is (n := n) (by omega)
  constructor
  · rcases Int.lt_or_le 0 (rootZ n) with h' | h'
    · omega
    · have : rootZ n = 0 := by omega
      rw [this] at r2
      omega
  · rcases Int.lt_or_le 8000000000000 (rootZ n) with h' | h'
    · have : 1 * rootZ n ≤ rootZ n * rootZ n := Int.mul_le_mul_of_nonneg_right (by omega) (by omega)
      omega
    · exact h'
theorem rl_facts {x0 x1 x2 x3 x4 x5 x6 x7 : Int} {l : List Mk} (hc : CourseP x0 x1 x2 x3 x4 x5 x6 x7 l) {k : Nat} (hk : k < l.length) : isPt (mk l k).x (mk l k).y = true ∧ isPt (pt (stn x0 x1 x2 x3 x4 x5 x6 x7 l) k).1 (pt (stn x0 x1 x2 x3 x4 x5 x6 x7 l) k).2 = true ∧ ((mk l k).s = 1 ∨ (mk l k).s = 2) ∧ 1 ≤ (mk l k).z ∧ (mk l k).z ≤ 5000 ∧ ((mk l k).x - (pt (stn x0 x1 x2 x3 x4 x5 x6 x7 l) k).1 ≠ 0 ∨ (mk l k).y - (pt (stn x0 x1 x2 x3 x4 x5 x6 x7 l) k).2 ≠ 0) := by
  have hm := markOK_true (hc.2.2.2.2.1 k hk).1
  refine ⟨hm.1, stn_pt hc (by omega), hm.2.1, hm.2.2.1, hm.2.2.2, ?_⟩
  have ht := hc.2.2.2.2.2 (k + 1) (by omega) (by rw [stn_len]; omega)
  rw [Nat.add_sub_cancel, stn_mark _ _ _ _ _ _ _ _ l hk] at ht
  by_cases h : (mk l k).x - (pt (stn x0 x1 x2 x3 x4 x5 x6 x7 l) k).1 = 0
  · refine .inr fun h2 => ht ?_
    have e1 : (pt (stn x0 x1 x2 x3 x4 x5 x6 x7 l) k).1 = (mk l k).x := by omega
    have e2 : (pt (stn x0 x1 x2 x3 x4 x5 x6 x7 l) k).2 = (mk l k).y := by omega
    exact Prod.ext e1 e2
  · exact .inl h
set_option maxRecDepth 100000 in
set_option maxHeartbeats 16000000 in
theorem roundingLine_c (x0 x1 x2 x3 x4 x5 x6 x7 : Int) (a : Option Addr) (cap : Nat) (l : List Mk) (k : Nat) (w : World) (hk : k < l.length) (hc : CourseP x0 x1 x2 x3 x4 x5 x6 x7 l) (h : RowAt w a (mflat l)) :
    Calls Tryd.prog 72 #[.agg #[.int .i64 x0, .int .i64 x1, .int .i64 x2, .int .i64 x3, .int .i64 x4, .int .i64 x5, .int .i64 x6, .int .i64 x7, .slice a l.length cap], .int .i64 (k : Int)] w fun e w' => e = .returned (.agg #[.int .i64 (rlAt x0 x1 x2 x3 x4 x5 x6 x7 l k).1, .int .i64 (rlAt x0 x1 x2 x3 x4 x5 x6 x7 l k).2.1, .int .i64 (rlAt x0 x1 x2 x3 x4 x5 x6 x7 l k).2.2.1, .int .i64 (rlAt x0 x1 x2 x3 x4 x5 x6 x7 l k).2.2.2]) ∧ Below w.heap.size w w' := by
  have hfx := rl_facts hc hk
  obtain ⟨hsg1, hsg2, _, hl8, _⟩ := hc
  obtain ⟨sA, sB, _⟩ := isSeg_true hsg1
  obtain ⟨sC, sD, _⟩ := isSeg_true hsg2
  have H0 := Lib.hid h
  clear h hsg1 hsg2
  go_enter Tryd.func72, Tryd.ntmps72
  go_wp2_with fail
  obtain ⟨W, hW⟩ : ∃ W, W = ((w.alloc (.cells #[.int .i64 x0, .int .i64 x1, .int .i64 x2, .int .i64 x3, .int .i64 x4, .int .i64 x5, .int .i64 x6, .int .i64 x7, .slice a l.length cap] 36)).alloc (.cells #[.int .i64 0, .int .i64 0, .int .i64 0, .int .i64 0] 33)) := ⟨_, rfl⟩
  have HD : Below w.heap.size w W := by subst hW; exact (by repeat (first | with_reducible exact Below.refl _ _ | with_reducible assumption | with_reducible refine Below.drew ?_ | with_reducible refine Below.alloc ?_ (by first | exact Nat.le_refl _ | (simp; done) | (simp; omega) | omega) _ | with_reducible refine Below.setCell ?_ (by first | exact Nat.le_refl _ | (simp; done) | (simp; omega) | omega) _ | with_reducible refine Below.trans ?_ (Below.mono (by with_reducible assumption) (by first | exact Nat.le_refl _ | (simp; done) | (simp; omega) | omega))))
  have b00 : W.cell? ⟨w.heap.size, 0, none⟩ = some (.int .i64 x0) := by subst hW; simp [go_sem]
  have b01 : W.cell? ⟨w.heap.size, 1, none⟩ = some (.int .i64 x1) := by subst hW; simp [go_sem]
  have b02 : W.cell? ⟨w.heap.size, 2, none⟩ = some (.int .i64 x2) := by subst hW; simp [go_sem]
  have b03 : W.cell? ⟨w.heap.size, 3, none⟩ = some (.int .i64 x3) := by subst hW; simp [go_sem]
  have b04 : W.cell? ⟨w.heap.size, 4, none⟩ = some (.int .i64 x4) := by subst hW; simp [go_sem]
  have b05 : W.cell? ⟨w.heap.size, 5, none⟩ = some (.int .i64 x5) := by subst hW; simp [go_sem]
  have b06 : W.cell? ⟨w.heap.size, 6, none⟩ = some (.int .i64 x6) := by subst hW; simp [go_sem]
  have b07 : W.cell? ⟨w.heap.size, 7, none⟩ = some (.int .i64 x7) := by subst hW; simp [go_sem]
  have b08 : W.cell? ⟨w.heap.size, 8, none⟩ = some (.slice a l.length cap) := by subst hW; simp [go_sem]
  have L0 : w.heap.size < W.heap.size := by subst hW; first | (simp; done) | (simp; omega)
  have b10 : W.cell? ⟨w.heap.size + 1, 0, none⟩ = some (.int .i64 0) := by subst hW; simp [go_sem]
  have b11 : W.cell? ⟨w.heap.size + 1, 1, none⟩ = some (.int .i64 0) := by subst hW; simp [go_sem]
  have b12 : W.cell? ⟨w.heap.size + 1, 2, none⟩ = some (.int .i64 0) := by subst hW; simp [go_sem]
  have b13 : W.cell? ⟨w.heap.size + 1, 3, none⟩ = some (.int .i64 0) := by subst hW; simp [go_sem]
  have L1 : w.heap.size + 1 < W.heap.size := by subst hW; first | (simp; done) | (simp; omega)
  have n01 : w.heap.size ≠ w.heap.size + 1 := by omega
  have R1 : w.heap.size ≤ w.heap.size + 1 := by omega
  have fz1 : ∀ o, W.frozen? ⟨w.heap.size + 1, o, none⟩ = false := by subst hW; intro o; simp [go_sem]
  rw [← hW]
  clear hW
  generalize w.heap.size + 1 = B1 at *
  obtain ⟨B0, hB0⟩ : ∃ B, B = w.heap.size := ⟨_, rfl⟩
  rw [← hB0] at b00 b01 b02 b03 b04 b05 b06 b07 b08 L0
  try rw [← hB0]
  replace hB0 := Lib.hid hB0
  try rw [← hB0.out] at n01
  have FV := Lib.hid (H0.out.below HD)
  clear H0
  have CST := Lib.hid (fun w h => stationsOf_c x0 x1 x2 x3 x4 x5 x6 x7 a cap l w hl8 h sA sB sC sD)
  clear sA sB sC sD
  have hkz : (k : Int) < (l.length : Int) := by omega
  have hkz2 : (k : Int) < ((l.length + 2 : Nat) : Int) := by omega
  have hkz3 : (k : Int) < (l.length : Int) + 2 := by omega
  have hkz0 : (0 : Int) ≤ (k : Int) := by omega
  have hk2 : k < l.length + 2 := by omega
  obtain ⟨f1, f2⟩ := pflat_get (stn x0 x1 x2 x3 x4 x5 x6 x7 l) k _ (pt_of (by rw [stn_len]; omega))
  obtain ⟨b, off, rfl, hlt, c0, c1, c2, c3, c4⟩ := mark_cell FV.out hk
  have hAt : rlAt x0 x1 x2 x3 x4 x5 x6 x7 l k = rlL (mk l k) (pt (stn x0 x1 x2 x3 x4 x5 x6 x7 l) k) := rfl
  generalize stn x0 x1 x2 x3 x4 x5 x6 x7 l = ST at *
  generalize pt ST k = p at *
  generalize mk l k = m at *
  obtain ⟨p0, p1⟩ := p
  obtain ⟨n0, u0, u1, u2, u3⟩ := m
  dsimp only at c0 c1 c2 c3 c4 f1 f2
  have HFF := Lib.hid (And.intro f1 f2)
  clear f1 f2
  replace hAt := Lib.hid hAt
  obtain ⟨hm, hp, hsd, z1, z2, hne⟩ := hfx
  dsimp only at hm hp hsd z1 z2 hne
  go_cut [5, 6] (fun s5 s6 wx => ∃ g0 g1 : Nat, s5 = .pointer (some ⟨g0, 0, none⟩) ∧ s6 = .pointer (some ⟨g1, 0, none⟩) ∧ wx.cell? ⟨g0, 0, none⟩ = some (.int .i64 p0) ∧ wx.cell? ⟨g0, 1, none⟩ = some (.int .i64 p1) ∧ wx.cell? ⟨g1, 0, none⟩ = some (.string n0) ∧ wx.cell? ⟨g1, 1, none⟩ = some (.int .i64 u0) ∧ wx.cell? ⟨g1, 2, none⟩ = some (.int .i64 u1) ∧ wx.cell? ⟨g1, 3, none⟩ = some (.int .i64 u2) ∧ wx.cell? ⟨g1, 4, none⟩ = some (.int .i64 u3) ∧ g0 < wx.heap.size ∧ g1 < wx.heap.size ∧ W.heap.size ≤ g0 ∧ W.heap.size ≤ g1 ∧ Below W.heap.size W wx)
  case first =>
    rw [show Op.load 31 (Operand.tmp 15) = id (Op.load 31 (Operand.tmp 15)) from rfl]
    go_region_held3 (fun wx => Below W.heap.size W wx ∧ ∀ b o, b < W.heap.size → wx.cell? ⟨b, o, none⟩ = W.cell? ⟨b, o, none⟩)
      (repeat (first | with_reducible assumption | with_reducible refine held_set5 ?_ (by first | with_reducible exact Nat.le_refl _ | with_reducible exact Nat.le_add_right _ _ | with_reducible assumption | omega | (simp; omega)) _ _ _ _ _ | with_reducible exact held_back (by with_reducible assumption) (by first | with_reducible exact Nat.le_refl _ | with_reducible exact Nat.le_add_right _ _ | with_reducible assumption | omega | (simp; omega)) | with_reducible exact held_back (held_back (by with_reducible assumption) (by first | with_reducible exact Nat.le_refl _ | with_reducible exact Nat.le_add_right _ _ | with_reducible assumption | omega | (simp; omega))) (by first | with_reducible exact Nat.le_refl _ | with_reducible exact Nat.le_add_right _ _ | with_reducible assumption | omega | (simp; omega)) | with_reducible refine held_set4 ?_ (by first | with_reducible exact Nat.le_refl _ | with_reducible exact Nat.le_add_right _ _ | with_reducible assumption | omega | (simp; omega)) _ _ _ _ | with_reducible refine held_set2 ?_ (by first | with_reducible exact Nat.le_refl _ | with_reducible exact Nat.le_add_right _ _ | with_reducible assumption | omega | (simp; omega)) _ _ | with_reducible refine held_alloc ?_ _ | with_reducible exact held_step (by assumption) hb | with_reducible refine held_drew ?_ | with_reducible exact held_refl _ | with_reducible exact held_start _ _ | with_reducible exact held_begin _))
      (first | (go_at_call 53; refine (CST.out _ (FV.out.below (And.left (by with_reducible assumption)))).mono ?_; rintro e w1 ⟨⟨g, cp, rfl, ho⟩, hb⟩; have q0 := (ho.cellAt (k * 2) (by omega)).trans HFF.out.1; have q1 := (ho.cellAt (k * 2 + 1) (by omega)).trans HFF.out.2; have hgl := (ho.lt g rfl).2; obtain ⟨hc, hf⟩ := bcell hb; (try have hm0 := fun o => hc W.heap.size o (by first | omega | (simp; done) | (simp; omega))); (try have hp0 := fun o => hf W.heap.size o (by first | omega | (simp; done) | (simp; omega))); (try have hm1 := fun o => hc (W.heap.size + 1) o (by first | omega | (simp; done) | (simp; omega))); (try have hp1 := fun o => hf (W.heap.size + 1) o (by first | omega | (simp; done) | (simp; omega))); clear hc hf; (try (have e00 := hm0 0; (try simp [go_sem] at e00))); (try (have p00x := hp0 0; (try simp [go_sem] at p00x))); (try (have e01 := hm0 1; (try simp [go_sem] at e01))); (try (have p01x := hp0 1; (try simp [go_sem] at p01x))); (try (have e02 := hm0 2; (try simp [go_sem] at e02))); (try (have p02x := hp0 2; (try simp [go_sem] at p02x))); (try (have e03 := hm0 3; (try simp [go_sem] at e03))); (try (have p03x := hp0 3; (try simp [go_sem] at p03x))); (try (have e04 := hm0 4; (try simp [go_sem] at e04))); (try (have p04x := hp0 4; (try simp [go_sem] at p04x))); (try (have e10 := hm1 0; (try simp [go_sem] at e10))); (try (have p10x := hp1 0; (try simp [go_sem] at p10x))); (try (have e11 := hm1 1; (try simp [go_sem] at e11))); (try (have p11x := hp1 1; (try simp [go_sem] at p11x))); (try (have e12 := hm1 2; (try simp [go_sem] at e12))); (try (have p12x := hp1 2; (try simp [go_sem] at p12x))); (try (have e13 := hm1 3; (try simp [go_sem] at e13))); (try (have p13x := hp1 3; (try simp [go_sem] at p13x))); (try (have e14 := hm1 4; (try simp [go_sem] at e14))); (try (have p14x := hp1 4; (try simp [go_sem] at p14x))); (try clear hm0 hp0); (try clear hm1 hp1); (try have hyA : W.heap.size < w1.heap.size := by have := hb.size; simp at this; omega); (try have hyB : W.heap.size + 1 < w1.heap.size := by have := hb.size; simp at this; omega); have hz := held_size (by with_reducible assumption) hb; (try simp at hz); have hs := hb.size; (try simp at hs)) | fail)
    all_goals (go_wp2_with fail; go_meet; exact ⟨_, _, rfl, rfl, (by go_light; go_simp), (by go_light; go_simp), (by go_light; go_simp), (by go_light; go_simp), (by go_light; go_simp), (by go_light; go_simp), (by go_light; go_simp), (by go_light; first | (simp; done) | (simp; omega) | omega), (by go_light; first | (simp; done) | (simp; omega) | omega), (by go_light; first | exact Nat.le_refl _ | (simp; done) | (simp; omega) | omega), (by go_light; first | exact Nat.le_refl _ | (simp; done) | (simp; omega) | omega), (held_of (by with_reducible exact And.left (by with_reducible assumption))).1⟩)
  case rest =>
    obtain ⟨C0, C1, rfl, rfl, k00, k01, k10, k11, k12, k13, k14, K0, K1, W0, W1, hb⟩ := hcut
    obtain ⟨V2, rfl⟩ : ∃ x : World, x = wc := ⟨_, rfl⟩
    replace HD := HD.trans (hb.mono HD.size)
    obtain ⟨hc, hf⟩ := bcell hb
    have hz := hb.size
    replace b00 := (hc _ 0 L0).trans b00
    replace b01 := (hc _ 1 L0).trans b01
    replace b02 := (hc _ 2 L0).trans b02
    replace b03 := (hc _ 3 L0).trans b03
    replace b04 := (hc _ 4 L0).trans b04
    replace b05 := (hc _ 5 L0).trans b05
    replace b06 := (hc _ 6 L0).trans b06
    replace b07 := (hc _ 7 L0).trans b07
    replace b08 := (hc _ 8 L0).trans b08
    replace b10 := (hc _ 0 L1).trans b10
    replace b11 := (hc _ 1 L1).trans b11
    replace b12 := (hc _ 2 L1).trans b12
    replace b13 := (hc _ 3 L1).trans b13
    replace c0 := (hc _ (off + k * 5) hlt).trans c0
    replace c1 := (hc _ (off + k * 5 + 1) hlt).trans c1
    replace c2 := (hc _ (off + k * 5 + 2) hlt).trans c2
    replace c3 := (hc _ (off + k * 5 + 3) hlt).trans c3
    replace c4 := (hc _ (off + k * 5 + 4) hlt).trans c4
    replace fz1 := fun o => (hf _ o L1).trans (fz1 o)
    replace FV := Lib.hid (RowAt.below FV.out hb)
    replace L0 := Nat.lt_of_lt_of_le L0 hz
    replace L1 := Nat.lt_of_lt_of_le L1 hz
    replace hlt := Nat.lt_of_lt_of_le hlt hz
    clear hc hf hz hb
    clear b00 b01 b02 b03 b04 b05 b06 b07 b08 c0 c1 c2 c3 c4 CST HFF FV
    rcases hsd with rfl | rfl
    case inl =>
      obtain ⟨m1, m2, m3, m4⟩ := isPt_true hm
      obtain ⟨d1, d2, d3, d4⟩ := isPt_true hp
      have wx : IntKind.i64.wrap (u0 - p0) = u0 - p0 := by rw [IntKind.wrap_i64]; omega
      have wy : IntKind.i64.wrap (u1 - p1) = u1 - p1 := by rw [IntKind.wrap_i64]; omega
      obtain ⟨x1, x2⟩ : -2000000 ≤ u0 - p0 ∧ u0 - p0 ≤ 2000000 := by omega
      obtain ⟨y1, y2⟩ : -2000000 ≤ u1 - p1 ∧ u1 - p1 ≤ 2000000 := by omega
      obtain ⟨q, hq⟩ : ∃ q, q = 10 * u3 := ⟨_, rfl⟩
      have q1 : -50000 ≤ q := by omega
      have q2 : q ≤ 50000 := by omega
      have w10 : IntKind.i64.wrap (10 * u3) = q := by rw [IntKind.wrap_i64]; omega
      obtain ⟨⟨s1, s2⟩, ⟨s3, s4⟩, s5⟩ := sum_sq x1 x2 y1 y2 hne
      have hN := root_pos s5 (by omega)
      have HF : rlL ⟨n0, u0, u1, 1, u3⟩ (p0, p1) = (u0, u1, u0 + (u1 - p1) * q / rootZ ((u0 - p0) * (u0 - p0) + (u1 - p1) * (u1 - p1)), u1 - (u0 - p0) * q / rootZ ((u0 - p0) * (u0 - p0) + (u1 - p1) * (u1 - p1))) := by rw [hq]; rfl
      have wxx : IntKind.i64.wrap ((u0 - p0) * (u0 - p0)) = (u0 - p0) * (u0 - p0) := by rw [IntKind.wrap_i64]; omega
      have wyy : IntKind.i64.wrap ((u1 - p1) * (u1 - p1)) = (u1 - p1) * (u1 - p1) := by rw [IntKind.wrap_i64]; omega
      have wss : IntKind.i64.wrap ((u0 - p0) * (u0 - p0) + (u1 - p1) * (u1 - p1)) = (u0 - p0) * (u0 - p0) + (u1 - p1) * (u1 - p1) := by rw [IntKind.wrap_i64]; omega
      obtain ⟨N0, hN0⟩ : ∃ N0, N0 = rootZ ((u0 - p0) * (u0 - p0) + (u1 - p1) * (u1 - p1)) := ⟨_, rfl⟩
      rw [← hN0] at hN HF
      obtain ⟨hN1, hN2⟩ := hN
      obtain ⟨⟨y3, y4⟩, ⟨xx3, xx4⟩, ⟨y5, y6⟩, ⟨xx5, xx6⟩⟩ := rl_bd x1 x2 y1 y2 q1 q2 hN1
      have CR := Lib.hid (fun w => hN0 ▸ rootOf_c ((u0 - p0) * (u0 - p0) + (u1 - p1) * (u1 - p1)) w (by omega) (by omega))
      have CRB := Lib.hid (fun w => Calls.mono (CR.out w) (fun e w' h => (show _ ∧ Below w.heap.size w w' from ⟨h.1, h.2 ▸ Below.refl _ _⟩)))
      clear hN0 s5 hne d1 d2 d3 d4 hp
      have wyq : IntKind.i64.wrap ((u1 - p1) * q) = (u1 - p1) * q := by rw [IntKind.wrap_i64]; omega
      have wxq : IntKind.i64.wrap ((u0 - p0) * q) = (u0 - p0) * q := by rw [IntKind.wrap_i64]; omega
      have CY := Lib.hid (fun w => Calls.mono (floorDiv_c ((u1 - p1) * q) N0 w hN1 (by omega) (by omega) (by omega)) (fun e w' h => (show _ ∧ Below w.heap.size w w' from ⟨h.1, h.2 ▸ Below.refl _ _⟩)))
      have CX := Lib.hid (fun w => Calls.mono (floorDiv_c ((u0 - p0) * q) N0 w hN1 (by omega) (by omega) (by omega)) (fun e w' h => (show _ ∧ Below w.heap.size w w' from ⟨h.1, h.2 ▸ Below.refl _ _⟩)))
      have we0 : IntKind.i64.wrap (u0 + (u1 - p1) * q / N0) = u0 + (u1 - p1) * q / N0 := by rw [IntKind.wrap_i64]; omega
      have we1 : IntKind.i64.wrap (u1 - (u0 - p0) * q / N0) = u1 - (u0 - p0) * q / N0 := by rw [IntKind.wrap_i64]; omega
      clear x1 x2 y1 y2 q1 q2 s1 s2 s3 s4 hN1 hN2 y3 y4 y5 y6 xx3 xx4 xx5 xx6 m1 m2 m3 m4 hm
      replace HF := Lib.hid HF
      replace hq := Lib.hid hq
      go_wp2_with fail
      go_cut [7, 8] (fun s7 s8 wx => s7 = .int .i64 (u0 - p0) ∧ s8 = .int .i64 (u1 - p1) ∧ Below V2.heap.size V2 wx)
      case first =>
        go_region_held3 (fun wx => Below V2.heap.size V2 wx ∧ ∀ b o, b < V2.heap.size → wx.cell? ⟨b, o, none⟩ = V2.cell? ⟨b, o, none⟩)
          (first | with_reducible exact held_step (by assumption) hb | with_reducible exact held_start _ _ | with_reducible exact held_begin _)
          (first | fail)
        all_goals go_wp2_with fail
        all_goals (go_meet; exact ⟨rfl, rfl, And.left (by with_reducible assumption)⟩)
      case rest =>
        obtain ⟨rfl, rfl, hb⟩ := hcut
        obtain ⟨V3, rfl⟩ : ∃ x : World, x = wc := ⟨_, rfl⟩
        replace HD := HD.trans (hb.mono HD.size)
        obtain ⟨hc, hf⟩ := bcell hb
        have hz := hb.size
        replace b10 := (hc _ 0 L1).trans b10
        replace b11 := (hc _ 1 L1).trans b11
        replace b12 := (hc _ 2 L1).trans b12
        replace b13 := (hc _ 3 L1).trans b13
        replace k00 := (hc _ 0 K0).trans k00
        replace k01 := (hc _ 1 K0).trans k01
        replace k10 := (hc _ 0 K1).trans k10
        replace k11 := (hc _ 1 K1).trans k11
        replace k12 := (hc _ 2 K1).trans k12
        replace k13 := (hc _ 3 K1).trans k13
        replace k14 := (hc _ 4 K1).trans k14
        replace fz1 := fun o => (hf _ o L1).trans (fz1 o)
        replace L0 := Nat.lt_of_lt_of_le L0 hz
        replace L1 := Nat.lt_of_lt_of_le L1 hz
        replace hlt := Nat.lt_of_lt_of_le hlt hz
        replace K0 := Nat.lt_of_lt_of_le K0 hz
        replace K1 := Nat.lt_of_lt_of_le K1 hz
        clear hc hf hz hb
        generalize hX : u0 - p0 = x at *
        generalize hY : u1 - p1 = y at *
        clear hX hY
        go_wp2_with fail
        go_cut [9, 10] (fun s9 s10 wx => s9 = .int .i64 N0 ∧ s10 = .int .i64 q ∧ Below V3.heap.size V3 wx)
        case first =>
          go_region_held3 (fun wx => Below V3.heap.size V3 wx ∧ ∀ b o, b < V3.heap.size → wx.cell? ⟨b, o, none⟩ = V3.cell? ⟨b, o, none⟩)
            (first | with_reducible exact held_step (by assumption) hb | with_reducible exact held_start _ _ | with_reducible exact held_begin _)
            (first | (go_at_call 67; refine (CRB.out _).mono ?_; rintro e w1 ⟨rfl, hb⟩; have hz := held_size (by with_reducible assumption) hb; (try simp at hz); have hs := hb.size; (try simp at hs)))
          all_goals go_wp2_with fail
          all_goals (go_meet; exact ⟨rfl, rfl, And.left (by with_reducible assumption)⟩)
        case rest =>
          obtain ⟨rfl, rfl, hb⟩ := hcut
          obtain ⟨V4, rfl⟩ : ∃ x : World, x = wc := ⟨_, rfl⟩
          replace HD := HD.trans (hb.mono HD.size)
          obtain ⟨hc, hf⟩ := bcell hb
          have hz := hb.size
          replace b10 := (hc _ 0 L1).trans b10
          replace b11 := (hc _ 1 L1).trans b11
          replace b12 := (hc _ 2 L1).trans b12
          replace b13 := (hc _ 3 L1).trans b13
          replace k00 := (hc _ 0 K0).trans k00
          replace k01 := (hc _ 1 K0).trans k01
          replace k10 := (hc _ 0 K1).trans k10
          replace k11 := (hc _ 1 K1).trans k11
          replace k12 := (hc _ 2 K1).trans k12
          replace k13 := (hc _ 3 K1).trans k13
          replace k14 := (hc _ 4 K1).trans k14
          replace fz1 := fun o => (hf _ o L1).trans (fz1 o)
          replace L0 := Nat.lt_of_lt_of_le L0 hz
          replace L1 := Nat.lt_of_lt_of_le L1 hz
          replace hlt := Nat.lt_of_lt_of_le hlt hz
          replace K0 := Nat.lt_of_lt_of_le K0 hz
          replace K1 := Nat.lt_of_lt_of_le K1 hz
          clear hc hf hz hb
          go_wp2_with fail
          go_cut [11] (fun s11 wx => ∃ g0 : Nat, s11 = .pointer (some ⟨g0, 0, none⟩) ∧ wx.cell? ⟨g0, 0, none⟩ = some (.int .i64 (u0 + y * q / N0)) ∧ wx.cell? ⟨g0, 1, none⟩ = some (.int .i64 (u1 - x * q / N0)) ∧ g0 < wx.heap.size ∧ V4.heap.size ≤ g0 ∧ Below V4.heap.size V4 wx)
          case first =>
            go_region_held3 (fun wx => Below V4.heap.size V4 wx ∧ ∀ b o, b < V4.heap.size → wx.cell? ⟨b, o, none⟩ = V4.cell? ⟨b, o, none⟩)
              (repeat (first | with_reducible assumption | with_reducible refine held_set5 ?_ (by first | with_reducible exact Nat.le_refl _ | with_reducible exact Nat.le_add_right _ _ | with_reducible assumption | omega | (simp; omega)) _ _ _ _ _ | with_reducible exact held_back (by with_reducible assumption) (by first | with_reducible exact Nat.le_refl _ | with_reducible exact Nat.le_add_right _ _ | with_reducible assumption | omega | (simp; omega)) | with_reducible exact held_back (held_back (by with_reducible assumption) (by first | with_reducible exact Nat.le_refl _ | with_reducible exact Nat.le_add_right _ _ | with_reducible assumption | omega | (simp; omega))) (by first | with_reducible exact Nat.le_refl _ | with_reducible exact Nat.le_add_right _ _ | with_reducible assumption | omega | (simp; omega)) | with_reducible refine held_set4 ?_ (by first | with_reducible exact Nat.le_refl _ | with_reducible exact Nat.le_add_right _ _ | with_reducible assumption | omega | (simp; omega)) _ _ _ _ | with_reducible refine held_set2 ?_ (by first | with_reducible exact Nat.le_refl _ | with_reducible exact Nat.le_add_right _ _ | with_reducible assumption | omega | (simp; omega)) _ _ | with_reducible refine held_alloc ?_ _ | with_reducible exact held_step (by assumption) hb | with_reducible refine held_drew ?_ | with_reducible exact held_refl _ | with_reducible exact held_start _ _ | with_reducible exact held_begin _))
              (first | (go_at_call_of 92 (y * q); refine (CY.out _).mono ?_; rintro e w1 ⟨rfl, hb⟩; (try (have hTT := alloc_top hb; obtain ⟨hmT, hpT, hlT⟩ := hTT; have eT0 := hmT 0; have eT1 := hmT 1; have pT0 := hpT 0; have pT1 := hpT 1; clear hmT hpT; (try simp [go_sem] at eT0); (try simp [go_sem] at eT1); (try simp [go_sem] at pT0); (try simp [go_sem] at pT1); (try simp at hlT))); obtain ⟨hc, hf⟩ := bcell hb; (try have hm0 := fun o => hc V4.heap.size o (by first | omega | (simp; done) | (simp; omega))); (try have hp0 := fun o => hf V4.heap.size o (by first | omega | (simp; done) | (simp; omega))); (try have hm1 := fun o => hc (V4.heap.size + 1) o (by first | omega | (simp; done) | (simp; omega))); (try have hp1 := fun o => hf (V4.heap.size + 1) o (by first | omega | (simp; done) | (simp; omega))); clear hc hf; (try (have e00 := hm0 0; (try simp [go_sem] at e00))); (try (have p00x := hp0 0; (try simp [go_sem] at p00x))); (try (have e01 := hm0 1; (try simp [go_sem] at e01))); (try (have p01x := hp0 1; (try simp [go_sem] at p01x))); (try (have e02 := hm0 2; (try simp [go_sem] at e02))); (try (have p02x := hp0 2; (try simp [go_sem] at p02x))); (try (have e03 := hm0 3; (try simp [go_sem] at e03))); (try (have p03x := hp0 3; (try simp [go_sem] at p03x))); (try (have e04 := hm0 4; (try simp [go_sem] at e04))); (try (have p04x := hp0 4; (try simp [go_sem] at p04x))); (try (have e10 := hm1 0; (try simp [go_sem] at e10))); (try (have p10x := hp1 0; (try simp [go_sem] at p10x))); (try (have e11 := hm1 1; (try simp [go_sem] at e11))); (try (have p11x := hp1 1; (try simp [go_sem] at p11x))); (try (have e12 := hm1 2; (try simp [go_sem] at e12))); (try (have p12x := hp1 2; (try simp [go_sem] at p12x))); (try (have e13 := hm1 3; (try simp [go_sem] at e13))); (try (have p13x := hp1 3; (try simp [go_sem] at p13x))); (try (have e14 := hm1 4; (try simp [go_sem] at e14))); (try (have p14x := hp1 4; (try simp [go_sem] at p14x))); (try clear hm0 hp0); (try clear hm1 hp1); (try have hyA : V4.heap.size < w1.heap.size := by have := hb.size; simp at this; omega); (try have hyB : V4.heap.size + 1 < w1.heap.size := by have := hb.size; simp at this; omega); have hz := held_size (by with_reducible assumption) hb; (try simp at hz); have hs := hb.size; (try simp at hs)) | (go_at_call_of 92 (x * q); refine (CX.out _).mono ?_; rintro e w1 ⟨rfl, hb⟩; (try (have hTT := alloc_top hb; obtain ⟨hmT, hpT, hlT⟩ := hTT; have eT0 := hmT 0; have eT1 := hmT 1; have pT0 := hpT 0; have pT1 := hpT 1; clear hmT hpT; (try simp [go_sem] at eT0); (try simp [go_sem] at eT1); (try simp [go_sem] at pT0); (try simp [go_sem] at pT1); (try simp at hlT))); obtain ⟨hc, hf⟩ := bcell hb; (try have hm0 := fun o => hc V4.heap.size o (by first | omega | (simp; done) | (simp; omega))); (try have hp0 := fun o => hf V4.heap.size o (by first | omega | (simp; done) | (simp; omega))); (try have hm1 := fun o => hc (V4.heap.size + 1) o (by first | omega | (simp; done) | (simp; omega))); (try have hp1 := fun o => hf (V4.heap.size + 1) o (by first | omega | (simp; done) | (simp; omega))); clear hc hf; (try (have e00 := hm0 0; (try simp [go_sem] at e00))); (try (have p00x := hp0 0; (try simp [go_sem] at p00x))); (try (have e01 := hm0 1; (try simp [go_sem] at e01))); (try (have p01x := hp0 1; (try simp [go_sem] at p01x))); (try (have e02 := hm0 2; (try simp [go_sem] at e02))); (try (have p02x := hp0 2; (try simp [go_sem] at p02x))); (try (have e03 := hm0 3; (try simp [go_sem] at e03))); (try (have p03x := hp0 3; (try simp [go_sem] at p03x))); (try (have e04 := hm0 4; (try simp [go_sem] at e04))); (try (have p04x := hp0 4; (try simp [go_sem] at p04x))); (try (have e10 := hm1 0; (try simp [go_sem] at e10))); (try (have p10x := hp1 0; (try simp [go_sem] at p10x))); (try (have e11 := hm1 1; (try simp [go_sem] at e11))); (try (have p11x := hp1 1; (try simp [go_sem] at p11x))); (try (have e12 := hm1 2; (try simp [go_sem] at e12))); (try (have p12x := hp1 2; (try simp [go_sem] at p12x))); (try (have e13 := hm1 3; (try simp [go_sem] at e13))); (try (have p13x := hp1 3; (try simp [go_sem] at p13x))); (try (have e14 := hm1 4; (try simp [go_sem] at e14))); (try (have p14x := hp1 4; (try simp [go_sem] at p14x))); (try clear hm0 hp0); (try clear hm1 hp1); (try have hyA : V4.heap.size < w1.heap.size := by have := hb.size; simp at this; omega); (try have hyB : V4.heap.size + 1 < w1.heap.size := by have := hb.size; simp at this; omega); have hz := held_size (by with_reducible assumption) hb; (try simp at hz); have hs := hb.size; (try simp at hs)) | fail)
            all_goals (go_wp2_with fail; go_meet; exact ⟨_, rfl, (by go_light; go_simp), (by go_light; go_simp), (by go_light; first | (simp; done) | (simp; omega) | omega), (by go_light; first | exact Nat.le_refl _ | (simp; done) | (simp; omega) | omega), (held_of (by with_reducible exact And.left (by with_reducible assumption))).1⟩)
          case rest =>
            obtain ⟨C2, rfl, k20, k21, K2, W2, hb⟩ := hcut
            obtain ⟨V5, rfl⟩ : ∃ x : World, x = wc := ⟨_, rfl⟩
            replace HD := HD.trans (hb.mono HD.size)
            obtain ⟨hc, hf⟩ := bcell hb
            have hz := hb.size
            replace b10 := (hc _ 0 L1).trans b10
            replace b11 := (hc _ 1 L1).trans b11
            replace b12 := (hc _ 2 L1).trans b12
            replace b13 := (hc _ 3 L1).trans b13
            replace k00 := (hc _ 0 K0).trans k00
            replace k01 := (hc _ 1 K0).trans k01
            replace k10 := (hc _ 0 K1).trans k10
            replace k11 := (hc _ 1 K1).trans k11
            replace k12 := (hc _ 2 K1).trans k12
            replace k13 := (hc _ 3 K1).trans k13
            replace k14 := (hc _ 4 K1).trans k14
            replace fz1 := fun o => (hf _ o L1).trans (fz1 o)
            replace L0 := Nat.lt_of_lt_of_le L0 hz
            replace L1 := Nat.lt_of_lt_of_le L1 hz
            replace hlt := Nat.lt_of_lt_of_le hlt hz
            replace K0 := Nat.lt_of_lt_of_le K0 hz
            replace K1 := Nat.lt_of_lt_of_le K1 hz
            clear hc hf hz hb
            go_wp2_with fail
            exact bodyPost_ret (v := .agg #[.int .i64 u0, .int .i64 u1, .int .i64 (u0 + y * q / N0), .int .i64 (u1 - x * q / N0)]) (by simp [results, Tryd.results72, go_sem, *]) rfl ⟨by rw [hAt.out, HF.out], (by repeat (first | with_reducible exact Below.refl _ _ | with_reducible assumption | with_reducible refine Below.drew ?_ | with_reducible refine Below.alloc ?_ (by first | exact Nat.le_refl _ | (simp; done) | (simp; omega) | omega) _ | with_reducible refine Below.setCell ?_ (by first | exact Nat.le_refl _ | (simp; done) | (simp; omega) | omega) _ | with_reducible refine Below.trans ?_ (Below.mono (by with_reducible assumption) (by first | exact Nat.le_refl _ | (simp; done) | (simp; omega) | omega))))⟩
    case inr =>
      obtain ⟨m1, m2, m3, m4⟩ := isPt_true hm
      obtain ⟨d1, d2, d3, d4⟩ := isPt_true hp
      have wx : IntKind.i64.wrap (u0 - p0) = u0 - p0 := by rw [IntKind.wrap_i64]; omega
      have wy : IntKind.i64.wrap (u1 - p1) = u1 - p1 := by rw [IntKind.wrap_i64]; omega
      obtain ⟨x1, x2⟩ : -2000000 ≤ u0 - p0 ∧ u0 - p0 ≤ 2000000 := by omega
      obtain ⟨y1, y2⟩ : -2000000 ≤ u1 - p1 ∧ u1 - p1 ≤ 2000000 := by omega
      obtain ⟨q, hq⟩ : ∃ q, q = -(10 * u3) := ⟨_, rfl⟩
      have q1 : -50000 ≤ q := by omega
      have q2 : q ≤ 50000 := by omega
      have w10 : IntKind.i64.wrap (10 * u3) = 10 * u3 := by rw [IntKind.wrap_i64]; omega
      have wn : IntKind.i64.wrap (-(10 * u3)) = q := by rw [IntKind.wrap_i64]; omega
      obtain ⟨⟨s1, s2⟩, ⟨s3, s4⟩, s5⟩ := sum_sq x1 x2 y1 y2 hne
      have hN := root_pos s5 (by omega)
      have HF : rlL ⟨n0, u0, u1, 2, u3⟩ (p0, p1) = (u0 + (u1 - p1) * q / rootZ ((u0 - p0) * (u0 - p0) + (u1 - p1) * (u1 - p1)), u1 - (u0 - p0) * q / rootZ ((u0 - p0) * (u0 - p0) + (u1 - p1) * (u1 - p1)), u0, u1) := by rw [hq]; rfl
      have wxx : IntKind.i64.wrap ((u0 - p0) * (u0 - p0)) = (u0 - p0) * (u0 - p0) := by rw [IntKind.wrap_i64]; omega
      have wyy : IntKind.i64.wrap ((u1 - p1) * (u1 - p1)) = (u1 - p1) * (u1 - p1) := by rw [IntKind.wrap_i64]; omega
      have wss : IntKind.i64.wrap ((u0 - p0) * (u0 - p0) + (u1 - p1) * (u1 - p1)) = (u0 - p0) * (u0 - p0) + (u1 - p1) * (u1 - p1) := by rw [IntKind.wrap_i64]; omega
      obtain ⟨N0, hN0⟩ : ∃ N0, N0 = rootZ ((u0 - p0) * (u0 - p0) + (u1 - p1) * (u1 - p1)) := ⟨_, rfl⟩
      rw [← hN0] at hN HF
      obtain ⟨hN1, hN2⟩ := hN
      obtain ⟨⟨y3, y4⟩, ⟨xx3, xx4⟩, ⟨y5, y6⟩, ⟨xx5, xx6⟩⟩ := rl_bd x1 x2 y1 y2 q1 q2 hN1
      have CR := Lib.hid (fun w => hN0 ▸ rootOf_c ((u0 - p0) * (u0 - p0) + (u1 - p1) * (u1 - p1)) w (by omega) (by omega))
      have CRB := Lib.hid (fun w => Calls.mono (CR.out w) (fun e w' h => (show _ ∧ Below w.heap.size w w' from ⟨h.1, h.2 ▸ Below.refl _ _⟩)))
      clear hN0 s5 hne d1 d2 d3 d4 hp
      have wyq : IntKind.i64.wrap ((u1 - p1) * q) = (u1 - p1) * q := by rw [IntKind.wrap_i64]; omega
      have wxq : IntKind.i64.wrap ((u0 - p0) * q) = (u0 - p0) * q := by rw [IntKind.wrap_i64]; omega
      have CY := Lib.hid (fun w => Calls.mono (floorDiv_c ((u1 - p1) * q) N0 w hN1 (by omega) (by omega) (by omega)) (fun e w' h => (show _ ∧ Below w.heap.size w w' from ⟨h.1, h.2 ▸ Below.refl _ _⟩)))
      have CX := Lib.hid (fun w => Calls.mono (floorDiv_c ((u0 - p0) * q) N0 w hN1 (by omega) (by omega) (by omega)) (fun e w' h => (show _ ∧ Below w.heap.size w w' from ⟨h.1, h.2 ▸ Below.refl _ _⟩)))
      have we0 : IntKind.i64.wrap (u0 + (u1 - p1) * q / N0) = u0 + (u1 - p1) * q / N0 := by rw [IntKind.wrap_i64]; omega
      have we1 : IntKind.i64.wrap (u1 - (u0 - p0) * q / N0) = u1 - (u0 - p0) * q / N0 := by rw [IntKind.wrap_i64]; omega
      clear x1 x2 y1 y2 q1 q2 s1 s2 s3 s4 hN1 hN2 y3 y4 y5 y6 xx3 xx4 xx5 xx6 m1 m2 m3 m4 hm
      replace HF := Lib.hid HF
      replace hq := Lib.hid hq
      go_wp2_with fail
      go_cut [7, 8] (fun s7 s8 wx => s7 = .int .i64 (u0 - p0) ∧ s8 = .int .i64 (u1 - p1) ∧ Below V2.heap.size V2 wx)
      case first =>
        go_region_held3 (fun wx => Below V2.heap.size V2 wx ∧ ∀ b o, b < V2.heap.size → wx.cell? ⟨b, o, none⟩ = V2.cell? ⟨b, o, none⟩)
          (first | with_reducible exact held_step (by assumption) hb | with_reducible exact held_start _ _ | with_reducible exact held_begin _)
          (first | fail)
        all_goals go_wp2_with fail
        all_goals (go_meet; exact ⟨rfl, rfl, And.left (by with_reducible assumption)⟩)
      case rest =>
        obtain ⟨rfl, rfl, hb⟩ := hcut
        obtain ⟨V3, rfl⟩ : ∃ x : World, x = wc := ⟨_, rfl⟩
        replace HD := HD.trans (hb.mono HD.size)
        obtain ⟨hc, hf⟩ := bcell hb
        have hz := hb.size
        replace b10 := (hc _ 0 L1).trans b10
        replace b11 := (hc _ 1 L1).trans b11
        replace b12 := (hc _ 2 L1).trans b12
        replace b13 := (hc _ 3 L1).trans b13
        replace k00 := (hc _ 0 K0).trans k00
        replace k01 := (hc _ 1 K0).trans k01
        replace k10 := (hc _ 0 K1).trans k10
        replace k11 := (hc _ 1 K1).trans k11
        replace k12 := (hc _ 2 K1).trans k12
        replace k13 := (hc _ 3 K1).trans k13
        replace k14 := (hc _ 4 K1).trans k14
        replace fz1 := fun o => (hf _ o L1).trans (fz1 o)
        replace L0 := Nat.lt_of_lt_of_le L0 hz
        replace L1 := Nat.lt_of_lt_of_le L1 hz
        replace hlt := Nat.lt_of_lt_of_le hlt hz
        replace K0 := Nat.lt_of_lt_of_le K0 hz
        replace K1 := Nat.lt_of_lt_of_le K1 hz
        clear hc hf hz hb
        generalize hX : u0 - p0 = x at *
        generalize hY : u1 - p1 = y at *
        clear hX hY
        go_wp2_with fail
        go_cut [9, 10] (fun s9 s10 wx => s9 = .int .i64 N0 ∧ s10 = .int .i64 (10 * u3) ∧ Below V3.heap.size V3 wx)
        case first =>
          go_region_held3 (fun wx => Below V3.heap.size V3 wx ∧ ∀ b o, b < V3.heap.size → wx.cell? ⟨b, o, none⟩ = V3.cell? ⟨b, o, none⟩)
            (first | with_reducible exact held_step (by assumption) hb | with_reducible exact held_start _ _ | with_reducible exact held_begin _)
            (first | (go_at_call 67; refine (CRB.out _).mono ?_; rintro e w1 ⟨rfl, hb⟩; have hz := held_size (by with_reducible assumption) hb; (try simp at hz); have hs := hb.size; (try simp at hs)))
          all_goals go_wp2_with fail
          all_goals (go_meet; exact ⟨rfl, rfl, And.left (by with_reducible assumption)⟩)
        case rest =>
          obtain ⟨rfl, rfl, hb⟩ := hcut
          obtain ⟨V4, rfl⟩ : ∃ x : World, x = wc := ⟨_, rfl⟩
          replace HD := HD.trans (hb.mono HD.size)
          obtain ⟨hc, hf⟩ := bcell hb
          have hz := hb.size
          replace b10 := (hc _ 0 L1).trans b10
          replace b11 := (hc _ 1 L1).trans b11
          replace b12 := (hc _ 2 L1).trans b12
          replace b13 := (hc _ 3 L1).trans b13
          replace k00 := (hc _ 0 K0).trans k00
          replace k01 := (hc _ 1 K0).trans k01
          replace k10 := (hc _ 0 K1).trans k10
          replace k11 := (hc _ 1 K1).trans k11
          replace k12 := (hc _ 2 K1).trans k12
          replace k13 := (hc _ 3 K1).trans k13
          replace k14 := (hc _ 4 K1).trans k14
          replace fz1 := fun o => (hf _ o L1).trans (fz1 o)
          replace L0 := Nat.lt_of_lt_of_le L0 hz
          replace L1 := Nat.lt_of_lt_of_le L1 hz
          replace hlt := Nat.lt_of_lt_of_le hlt hz
          replace K0 := Nat.lt_of_lt_of_le K0 hz
          replace K1 := Nat.lt_of_lt_of_le K1 hz
          clear hc hf hz hb
          go_wp2_with fail
          go_cut [11] (fun s11 wx => ∃ g0 : Nat, s11 = .pointer (some ⟨g0, 0, none⟩) ∧ wx.cell? ⟨g0, 0, none⟩ = some (.int .i64 (u0 + y * q / N0)) ∧ wx.cell? ⟨g0, 1, none⟩ = some (.int .i64 (u1 - x * q / N0)) ∧ g0 < wx.heap.size ∧ V4.heap.size ≤ g0 ∧ Below V4.heap.size V4 wx)
          case first =>
            go_region_held3 (fun wx => Below V4.heap.size V4 wx ∧ ∀ b o, b < V4.heap.size → wx.cell? ⟨b, o, none⟩ = V4.cell? ⟨b, o, none⟩)
              (repeat (first | with_reducible assumption | with_reducible refine held_set5 ?_ (by first | with_reducible exact Nat.le_refl _ | with_reducible exact Nat.le_add_right _ _ | with_reducible assumption | omega | (simp; omega)) _ _ _ _ _ | with_reducible exact held_back (by with_reducible assumption) (by first | with_reducible exact Nat.le_refl _ | with_reducible exact Nat.le_add_right _ _ | with_reducible assumption | omega | (simp; omega)) | with_reducible exact held_back (held_back (by with_reducible assumption) (by first | with_reducible exact Nat.le_refl _ | with_reducible exact Nat.le_add_right _ _ | with_reducible assumption | omega | (simp; omega))) (by first | with_reducible exact Nat.le_refl _ | with_reducible exact Nat.le_add_right _ _ | with_reducible assumption | omega | (simp; omega)) | with_reducible refine held_set4 ?_ (by first | with_reducible exact Nat.le_refl _ | with_reducible exact Nat.le_add_right _ _ | with_reducible assumption | omega | (simp; omega)) _ _ _ _ | with_reducible refine held_set2 ?_ (by first | with_reducible exact Nat.le_refl _ | with_reducible exact Nat.le_add_right _ _ | with_reducible assumption | omega | (simp; omega)) _ _ | with_reducible refine held_alloc ?_ _ | with_reducible exact held_step (by assumption) hb | with_reducible refine held_drew ?_ | with_reducible exact held_refl _ | with_reducible exact held_start _ _ | with_reducible exact held_begin _))
              (first | (go_at_call_of 92 (y * q); refine (CY.out _).mono ?_; rintro e w1 ⟨rfl, hb⟩; (try (have hTT := alloc_top hb; obtain ⟨hmT, hpT, hlT⟩ := hTT; have eT0 := hmT 0; have eT1 := hmT 1; have pT0 := hpT 0; have pT1 := hpT 1; clear hmT hpT; (try simp [go_sem] at eT0); (try simp [go_sem] at eT1); (try simp [go_sem] at pT0); (try simp [go_sem] at pT1); (try simp at hlT))); obtain ⟨hc, hf⟩ := bcell hb; (try have hm0 := fun o => hc V4.heap.size o (by first | omega | (simp; done) | (simp; omega))); (try have hp0 := fun o => hf V4.heap.size o (by first | omega | (simp; done) | (simp; omega))); (try have hm1 := fun o => hc (V4.heap.size + 1) o (by first | omega | (simp; done) | (simp; omega))); (try have hp1 := fun o => hf (V4.heap.size + 1) o (by first | omega | (simp; done) | (simp; omega))); clear hc hf; (try (have e00 := hm0 0; (try simp [go_sem] at e00))); (try (have p00x := hp0 0; (try simp [go_sem] at p00x))); (try (have e01 := hm0 1; (try simp [go_sem] at e01))); (try (have p01x := hp0 1; (try simp [go_sem] at p01x))); (try (have e02 := hm0 2; (try simp [go_sem] at e02))); (try (have p02x := hp0 2; (try simp [go_sem] at p02x))); (try (have e03 := hm0 3; (try simp [go_sem] at e03))); (try (have p03x := hp0 3; (try simp [go_sem] at p03x))); (try (have e04 := hm0 4; (try simp [go_sem] at e04))); (try (have p04x := hp0 4; (try simp [go_sem] at p04x))); (try (have e10 := hm1 0; (try simp [go_sem] at e10))); (try (have p10x := hp1 0; (try simp [go_sem] at p10x))); (try (have e11 := hm1 1; (try simp [go_sem] at e11))); (try (have p11x := hp1 1; (try simp [go_sem] at p11x))); (try (have e12 := hm1 2; (try simp [go_sem] at e12))); (try (have p12x := hp1 2; (try simp [go_sem] at p12x))); (try (have e13 := hm1 3; (try simp [go_sem] at e13))); (try (have p13x := hp1 3; (try simp [go_sem] at p13x))); (try (have e14 := hm1 4; (try simp [go_sem] at e14))); (try (have p14x := hp1 4; (try simp [go_sem] at p14x))); (try clear hm0 hp0); (try clear hm1 hp1); (try have hyA : V4.heap.size < w1.heap.size := by have := hb.size; simp at this; omega); (try have hyB : V4.heap.size + 1 < w1.heap.size := by have := hb.size; simp at this; omega); have hz := held_size (by with_reducible assumption) hb; (try simp at hz); have hs := hb.size; (try simp at hs)) | (go_at_call_of 92 (x * q); refine (CX.out _).mono ?_; rintro e w1 ⟨rfl, hb⟩; (try (have hTT := alloc_top hb; obtain ⟨hmT, hpT, hlT⟩ := hTT; have eT0 := hmT 0; have eT1 := hmT 1; have pT0 := hpT 0; have pT1 := hpT 1; clear hmT hpT; (try simp [go_sem] at eT0); (try simp [go_sem] at eT1); (try simp [go_sem] at pT0); (try simp [go_sem] at pT1); (try simp at hlT))); obtain ⟨hc, hf⟩ := bcell hb; (try have hm0 := fun o => hc V4.heap.size o (by first | omega | (simp; done) | (simp; omega))); (try have hp0 := fun o => hf V4.heap.size o (by first | omega | (simp; done) | (simp; omega))); (try have hm1 := fun o => hc (V4.heap.size + 1) o (by first | omega | (simp; done) | (simp; omega))); (try have hp1 := fun o => hf (V4.heap.size + 1) o (by first | omega | (simp; done) | (simp; omega))); clear hc hf; (try (have e00 := hm0 0; (try simp [go_sem] at e00))); (try (have p00x := hp0 0; (try simp [go_sem] at p00x))); (try (have e01 := hm0 1; (try simp [go_sem] at e01))); (try (have p01x := hp0 1; (try simp [go_sem] at p01x))); (try (have e02 := hm0 2; (try simp [go_sem] at e02))); (try (have p02x := hp0 2; (try simp [go_sem] at p02x))); (try (have e03 := hm0 3; (try simp [go_sem] at e03))); (try (have p03x := hp0 3; (try simp [go_sem] at p03x))); (try (have e04 := hm0 4; (try simp [go_sem] at e04))); (try (have p04x := hp0 4; (try simp [go_sem] at p04x))); (try (have e10 := hm1 0; (try simp [go_sem] at e10))); (try (have p10x := hp1 0; (try simp [go_sem] at p10x))); (try (have e11 := hm1 1; (try simp [go_sem] at e11))); (try (have p11x := hp1 1; (try simp [go_sem] at p11x))); (try (have e12 := hm1 2; (try simp [go_sem] at e12))); (try (have p12x := hp1 2; (try simp [go_sem] at p12x))); (try (have e13 := hm1 3; (try simp [go_sem] at e13))); (try (have p13x := hp1 3; (try simp [go_sem] at p13x))); (try (have e14 := hm1 4; (try simp [go_sem] at e14))); (try (have p14x := hp1 4; (try simp [go_sem] at p14x))); (try clear hm0 hp0); (try clear hm1 hp1); (try have hyA : V4.heap.size < w1.heap.size := by have := hb.size; simp at this; omega); (try have hyB : V4.heap.size + 1 < w1.heap.size := by have := hb.size; simp at this; omega); have hz := held_size (by with_reducible assumption) hb; (try simp at hz); have hs := hb.size; (try simp at hs)) | fail)
            all_goals (go_wp2_with fail; go_meet; exact ⟨_, rfl, (by go_light; go_simp), (by go_light; go_simp), (by go_light; first | (simp; done) | (simp; omega) | omega), (by go_light; first | exact Nat.le_refl _ | (simp; done) | (simp; omega) | omega), (held_of (by with_reducible exact And.left (by with_reducible assumption))).1⟩)
          case rest =>
            obtain ⟨C2, rfl, k20, k21, K2, W2, hb⟩ := hcut
            obtain ⟨V5, rfl⟩ : ∃ x : World, x = wc := ⟨_, rfl⟩
            replace HD := HD.trans (hb.mono HD.size)
            obtain ⟨hc, hf⟩ := bcell hb
            have hz := hb.size
            replace b10 := (hc _ 0 L1).trans b10
            replace b11 := (hc _ 1 L1).trans b11
            replace b12 := (hc _ 2 L1).trans b12
            replace b13 := (hc _ 3 L1).trans b13
            replace k00 := (hc _ 0 K0).trans k00
            replace k01 := (hc _ 1 K0).trans k01
            replace k10 := (hc _ 0 K1).trans k10
            replace k11 := (hc _ 1 K1).trans k11
            replace k12 := (hc _ 2 K1).trans k12
            replace k13 := (hc _ 3 K1).trans k13
            replace k14 := (hc _ 4 K1).trans k14
            replace fz1 := fun o => (hf _ o L1).trans (fz1 o)
            replace L0 := Nat.lt_of_lt_of_le L0 hz
            replace L1 := Nat.lt_of_lt_of_le L1 hz
            replace hlt := Nat.lt_of_lt_of_le hlt hz
            replace K0 := Nat.lt_of_lt_of_le K0 hz
            replace K1 := Nat.lt_of_lt_of_le K1 hz
            clear hc hf hz hb
            go_wp2_with fail
            exact bodyPost_ret (v := .agg #[.int .i64 (u0 + y * q / N0), .int .i64 (u1 - x * q / N0), .int .i64 u0, .int .i64 u1]) (by simp [results, Tryd.results72, go_sem, *]) rfl ⟨by rw [hAt.out, HF.out], (by repeat (first | with_reducible exact Below.refl _ _ | with_reducible assumption | with_reducible refine Below.drew ?_ | with_reducible refine Below.alloc ?_ (by first | exact Nat.le_refl _ | (simp; done) | (simp; omega) | omega) _ | with_reducible refine Below.setCell ?_ (by first | exact Nat.le_refl _ | (simp; done) | (simp; omega) | omega) _ | with_reducible refine Below.trans ?_ (Below.mono (by with_reducible assumption) (by first | exact Nat.le_refl _ | (simp; done) | (simp; omega) | omega))))⟩
set_option maxRecDepth 100000 in
set_option maxHeartbeats 16000000 in
theorem l06Line_c (x0 x1 x2 x3 x4 x5 x6 x7 : Int) (a : Option Addr) (cap : Nat) (l : List Mk) (k : Nat) (w : World) (hk : k < l.length) (hc : CourseP x0 x1 x2 x3 x4 x5 x6 x7 l) (h : RowAt w a (mflat l)) :
    Calls Tryd.prog 73 #[.agg #[.int .i64 x0, .int .i64 x1, .int .i64 x2, .int .i64 x3, .int .i64 x4, .int .i64 x5, .int .i64 x6, .int .i64 x7, .slice a l.length cap], .int .i64 (k : Int)] w fun e w' => e = .returned (.tuple #[.agg #[.int .i64 (rlAt x0 x1 x2 x3 x4 x5 x6 x7 l k).1, .int .i64 (rlAt x0 x1 x2 x3 x4 x5 x6 x7 l k).2.1, .int .i64 (rlAt x0 x1 x2 x3 x4 x5 x6 x7 l k).2.2.1, .int .i64 (rlAt x0 x1 x2 x3 x4 x5 x6 x7 l k).2.2.2], .bool (isSeg (rlAt x0 x1 x2 x3 x4 x5 x6 x7 l k).1 (rlAt x0 x1 x2 x3 x4 x5 x6 x7 l k).2.1 (rlAt x0 x1 x2 x3 x4 x5 x6 x7 l k).2.2.1 (rlAt x0 x1 x2 x3 x4 x5 x6 x7 l k).2.2.2)]) ∧ Below w.heap.size w w' := by
  have hfx := rl_facts hc hk
  obtain ⟨hsg1, hsg2, _, hl8, _⟩ := hc
  obtain ⟨sA, sB, _⟩ := isSeg_true hsg1
  obtain ⟨sC, sD, _⟩ := isSeg_true hsg2
  have H0 := Lib.hid h
  clear h hsg1 hsg2
  go_enter Tryd.func73, Tryd.ntmps73
  go_upto_region 1 with fail
  obtain ⟨W, hW⟩ : ∃ W, W = ((w.alloc (.cells #[.int .i64 x0, .int .i64 x1, .int .i64 x2, .int .i64 x3, .int .i64 x4, .int .i64 x5, .int .i64 x6, .int .i64 x7, .slice a l.length cap] 36)).alloc (.cells #[.int .i64 0, .int .i64 0, .int .i64 0, .int .i64 0] 33)) := ⟨_, rfl⟩
  have HD : Below w.heap.size w W := by subst hW; exact (by repeat (first | with_reducible exact Below.refl _ _ | with_reducible assumption | with_reducible refine Below.drew ?_ | with_reducible refine Below.alloc ?_ (by first | exact Nat.le_refl _ | (simp; done) | (simp; omega) | omega) _ | with_reducible refine Below.setCell ?_ (by first | exact Nat.le_refl _ | (simp; done) | (simp; omega) | omega) _ | with_reducible refine Below.trans ?_ (Below.mono (by with_reducible assumption) (by first | exact Nat.le_refl _ | (simp; done) | (simp; omega) | omega))))
  have b00 : W.cell? ⟨w.heap.size, 0, none⟩ = some (.int .i64 x0) := by subst hW; simp [go_sem]
  have b01 : W.cell? ⟨w.heap.size, 1, none⟩ = some (.int .i64 x1) := by subst hW; simp [go_sem]
  have b02 : W.cell? ⟨w.heap.size, 2, none⟩ = some (.int .i64 x2) := by subst hW; simp [go_sem]
  have b03 : W.cell? ⟨w.heap.size, 3, none⟩ = some (.int .i64 x3) := by subst hW; simp [go_sem]
  have b04 : W.cell? ⟨w.heap.size, 4, none⟩ = some (.int .i64 x4) := by subst hW; simp [go_sem]
  have b05 : W.cell? ⟨w.heap.size, 5, none⟩ = some (.int .i64 x5) := by subst hW; simp [go_sem]
  have b06 : W.cell? ⟨w.heap.size, 6, none⟩ = some (.int .i64 x6) := by subst hW; simp [go_sem]
  have b07 : W.cell? ⟨w.heap.size, 7, none⟩ = some (.int .i64 x7) := by subst hW; simp [go_sem]
  have b08 : W.cell? ⟨w.heap.size, 8, none⟩ = some (.slice a l.length cap) := by subst hW; simp [go_sem]
  have L0 : w.heap.size < W.heap.size := by subst hW; first | (simp; done) | (simp; omega)
  have b10 : W.cell? ⟨w.heap.size + 1, 0, none⟩ = some (.int .i64 0) := by subst hW; simp [go_sem]
  have b11 : W.cell? ⟨w.heap.size + 1, 1, none⟩ = some (.int .i64 0) := by subst hW; simp [go_sem]
  have b12 : W.cell? ⟨w.heap.size + 1, 2, none⟩ = some (.int .i64 0) := by subst hW; simp [go_sem]
  have b13 : W.cell? ⟨w.heap.size + 1, 3, none⟩ = some (.int .i64 0) := by subst hW; simp [go_sem]
  have L1 : w.heap.size + 1 < W.heap.size := by subst hW; first | (simp; done) | (simp; omega)
  have n01 : w.heap.size ≠ w.heap.size + 1 := by omega
  have R1 : w.heap.size ≤ w.heap.size + 1 := by omega
  have fz1 : ∀ o, W.frozen? ⟨w.heap.size + 1, o, none⟩ = false := by subst hW; intro o; simp [go_sem]
  rw [← hW]
  clear hW
  generalize w.heap.size + 1 = B1 at *
  obtain ⟨B0, hB0⟩ : ∃ B, B = w.heap.size := ⟨_, rfl⟩
  rw [← hB0] at b00 b01 b02 b03 b04 b05 b06 b07 b08 L0
  try rw [← hB0]
  replace hB0 := Lib.hid hB0
  try rw [← hB0.out] at n01
  have FV := Lib.hid (H0.out.below HD)
  clear H0
  have CST := Lib.hid (fun w h => l04Stations_c x0 x1 x2 x3 x4 x5 x6 x7 a cap l w hl8 h sA sB sC sD)
  clear sA sB sC sD
  have hkz : (k : Int) < (l.length : Int) := by omega
  have hkz2 : (k : Int) < ((l.length + 2 : Nat) : Int) := by omega
  have hkz3 : (k : Int) < (l.length : Int) + 2 := by omega
  have hkz0 : (0 : Int) ≤ (k : Int) := by omega
  have hk2 : k < l.length + 2 := by omega
  obtain ⟨f1, f2⟩ := pflat_get (stn x0 x1 x2 x3 x4 x5 x6 x7 l) k _ (pt_of (by rw [stn_len]; omega))
  obtain ⟨b, off, rfl, hlt, c0, c1, c2, c3, c4⟩ := mark_cell FV.out hk
  have hAt : rlAt x0 x1 x2 x3 x4 x5 x6 x7 l k = rlL (mk l k) (pt (stn x0 x1 x2 x3 x4 x5 x6 x7 l) k) := rfl
  generalize stn x0 x1 x2 x3 x4 x5 x6 x7 l = ST at *
  generalize pt ST k = p at *
  generalize mk l k = m at *
  obtain ⟨p0, p1⟩ := p
  obtain ⟨n0, u0, u1, u2, u3⟩ := m
  dsimp only at c0 c1 c2 c3 c4 f1 f2
  have HFF := Lib.hid (And.intro f1 f2)
  clear f1 f2
  replace hAt := Lib.hid hAt
  obtain ⟨hm, hp, hsd, z1, z2, hne⟩ := hfx
  dsimp only at hm hp hsd z1 z2 hne
  go_wp2_with fail
  obtain ⟨V1, hV1⟩ : ∃ x, x = W.alloc (.cells #[.string n0, .int .i64 u0, .int .i64 u1, .int .i64 u2, .int .i64 u3] 64) := ⟨_, rfl⟩
  have hb : Below W.heap.size W V1 := by subst hV1; exact (Below.refl _ _).alloc (Nat.le_refl _) _
  have k10 : V1.cell? ⟨W.heap.size, 0, none⟩ = some (.string n0) := by subst hV1; simp [go_sem]
  have k11 : V1.cell? ⟨W.heap.size, 1, none⟩ = some (.int .i64 u0) := by subst hV1; simp [go_sem]
  have k12 : V1.cell? ⟨W.heap.size, 2, none⟩ = some (.int .i64 u1) := by subst hV1; simp [go_sem]
  have k13 : V1.cell? ⟨W.heap.size, 3, none⟩ = some (.int .i64 u2) := by subst hV1; simp [go_sem]
  have k14 : V1.cell? ⟨W.heap.size, 4, none⟩ = some (.int .i64 u3) := by subst hV1; simp [go_sem]
  have K1 : W.heap.size < V1.heap.size := by subst hV1; simp
  have hS1 := Lib.hid (show V1.heap.size = W.heap.size + 1 by subst hV1; simp)
  rw [← hV1]
  clear hV1
  replace HD := HD.trans (hb.mono HD.size)
  obtain ⟨hc, hf⟩ := bcell hb
  have hz := hb.size
  replace b00 := (hc _ 0 L0).trans b00
  replace b01 := (hc _ 1 L0).trans b01
  replace b02 := (hc _ 2 L0).trans b02
  replace b03 := (hc _ 3 L0).trans b03
  replace b04 := (hc _ 4 L0).trans b04
  replace b05 := (hc _ 5 L0).trans b05
  replace b06 := (hc _ 6 L0).trans b06
  replace b07 := (hc _ 7 L0).trans b07
  replace b08 := (hc _ 8 L0).trans b08
  replace b10 := (hc _ 0 L1).trans b10
  replace b11 := (hc _ 1 L1).trans b11
  replace b12 := (hc _ 2 L1).trans b12
  replace b13 := (hc _ 3 L1).trans b13
  replace c0 := (hc _ (off + k * 5) hlt).trans c0
  replace c1 := (hc _ (off + k * 5 + 1) hlt).trans c1
  replace c2 := (hc _ (off + k * 5 + 2) hlt).trans c2
  replace c3 := (hc _ (off + k * 5 + 3) hlt).trans c3
  replace c4 := (hc _ (off + k * 5 + 4) hlt).trans c4
  replace fz1 := fun o => (hf _ o L1).trans (fz1 o)
  replace FV := Lib.hid (RowAt.below FV.out hb)
  replace L0 := Nat.lt_of_lt_of_le L0 hz
  replace L1 := Nat.lt_of_lt_of_le L1 hz
  replace hlt := Nat.lt_of_lt_of_le hlt hz
  clear hc hf hz hb
  obtain ⟨C1, hC1⟩ : ∃ x, x = W.heap.size := ⟨_, rfl⟩
  rw [← hC1] at k10 k11 k12 k13 k14 K1
  try rw [← hC1]
  replace hC1 := Lib.hid hC1
  go_wp2_with fail
  have CMI := Lib.hid (fun w => l01Minus_c u0 u1 p0 p1 w hm hp)
  have hvec := isVec_sub hm hp
  go_cut [7] (fun s7 wx => ∃ g0 : Nat, s7 = .pointer (some ⟨g0, 0, none⟩) ∧ wx.cell? ⟨g0, 0, none⟩ = some (.int .i64 (u0 - p0)) ∧ wx.cell? ⟨g0, 1, none⟩ = some (.int .i64 (u1 - p1)) ∧ g0 < wx.heap.size ∧ V1.heap.size ≤ g0 ∧ Below V1.heap.size V1 wx)
  case first =>
    rw [show Op.load 31 (Operand.tmp 22) = id (Op.load 31 (Operand.tmp 22)) from rfl]
    go_region_held3 (fun wx => Below V1.heap.size V1 wx ∧ ∀ b o, b < V1.heap.size → wx.cell? ⟨b, o, none⟩ = V1.cell? ⟨b, o, none⟩)
      (repeat (first | with_reducible assumption | with_reducible refine held_set5 ?_ (by first | with_reducible exact Nat.le_refl _ | with_reducible exact Nat.le_add_right _ _ | with_reducible assumption | omega | (simp; omega)) _ _ _ _ _ | with_reducible exact held_back (by with_reducible assumption) (by first | with_reducible exact Nat.le_refl _ | with_reducible exact Nat.le_add_right _ _ | with_reducible assumption | omega | (simp; omega)) | with_reducible exact held_back (held_back (by with_reducible assumption) (by first | with_reducible exact Nat.le_refl _ | with_reducible exact Nat.le_add_right _ _ | with_reducible assumption | omega | (simp; omega))) (by first | with_reducible exact Nat.le_refl _ | with_reducible exact Nat.le_add_right _ _ | with_reducible assumption | omega | (simp; omega)) | with_reducible refine held_set4 ?_ (by first | with_reducible exact Nat.le_refl _ | with_reducible exact Nat.le_add_right _ _ | with_reducible assumption | omega | (simp; omega)) _ _ _ _ | with_reducible refine held_set2 ?_ (by first | with_reducible exact Nat.le_refl _ | with_reducible exact Nat.le_add_right _ _ | with_reducible assumption | omega | (simp; omega)) _ _ | with_reducible refine held_alloc ?_ _ | with_reducible exact held_step (by assumption) hb | with_reducible refine held_drew ?_ | with_reducible exact held_refl _ | with_reducible exact held_start _ _ | with_reducible exact held_begin _))
      (first | (go_at_call 49; refine (CST.out _ (FV.out.below (And.left (by with_reducible assumption)))).mono ?_; rintro e w1 ⟨⟨g, cp, rfl, ho⟩, hb⟩; have q0 := (ho.cellAt (k * 2) (by omega)).trans HFF.out.1; have q1 := (ho.cellAt (k * 2 + 1) (by omega)).trans HFF.out.2; have hgl := (ho.lt g rfl).2; (try (have hTT := alloc_top hb; obtain ⟨hmT, hpT, hlT⟩ := hTT; have eT0 := hmT 0; have eT1 := hmT 1; have pT0 := hpT 0; have pT1 := hpT 1; clear hmT hpT; (try simp [go_sem] at eT0); (try simp [go_sem] at eT1); (try simp [go_sem] at pT0); (try simp [go_sem] at pT1); (try simp at hlT))); obtain ⟨hc, hf⟩ := bcell hb; (try have hm0 := fun o => hc V1.heap.size o (by first | omega | (simp; done) | (simp; omega))); (try have hp0 := fun o => hf V1.heap.size o (by first | omega | (simp; done) | (simp; omega))); (try have hm1 := fun o => hc (V1.heap.size + 1) o (by first | omega | (simp; done) | (simp; omega))); (try have hp1 := fun o => hf (V1.heap.size + 1) o (by first | omega | (simp; done) | (simp; omega))); clear hc hf; (try (have e00 := hm0 0; (try simp [go_sem] at e00))); (try (have p00x := hp0 0; (try simp [go_sem] at p00x))); (try (have e01 := hm0 1; (try simp [go_sem] at e01))); (try (have p01x := hp0 1; (try simp [go_sem] at p01x))); (try (have e02 := hm0 2; (try simp [go_sem] at e02))); (try (have p02x := hp0 2; (try simp [go_sem] at p02x))); (try (have e03 := hm0 3; (try simp [go_sem] at e03))); (try (have p03x := hp0 3; (try simp [go_sem] at p03x))); (try (have e04 := hm0 4; (try simp [go_sem] at e04))); (try (have p04x := hp0 4; (try simp [go_sem] at p04x))); (try (have e10 := hm1 0; (try simp [go_sem] at e10))); (try (have p10x := hp1 0; (try simp [go_sem] at p10x))); (try (have e11 := hm1 1; (try simp [go_sem] at e11))); (try (have p11x := hp1 1; (try simp [go_sem] at p11x))); (try (have e12 := hm1 2; (try simp [go_sem] at e12))); (try (have p12x := hp1 2; (try simp [go_sem] at p12x))); (try (have e13 := hm1 3; (try simp [go_sem] at e13))); (try (have p13x := hp1 3; (try simp [go_sem] at p13x))); (try (have e14 := hm1 4; (try simp [go_sem] at e14))); (try (have p14x := hp1 4; (try simp [go_sem] at p14x))); (try clear hm0 hp0); (try clear hm1 hp1); (try have hyA : V1.heap.size < w1.heap.size := by have := hb.size; simp at this; omega); (try have hyB : V1.heap.size + 1 < w1.heap.size := by have := hb.size; simp at this; omega); have hz := held_size (by with_reducible assumption) hb; (try simp at hz); have hs := hb.size; (try simp at hs)) | (go_at_call 91; refine (CMI.out _).mono ?_; rintro e w1 ⟨rfl, hb⟩; (try (have hTT := alloc_top hb; obtain ⟨hmT, hpT, hlT⟩ := hTT; have eT0 := hmT 0; have eT1 := hmT 1; have pT0 := hpT 0; have pT1 := hpT 1; clear hmT hpT; (try simp [go_sem] at eT0); (try simp [go_sem] at eT1); (try simp [go_sem] at pT0); (try simp [go_sem] at pT1); (try simp at hlT))); obtain ⟨hc, hf⟩ := bcell hb; (try have hm0 := fun o => hc V1.heap.size o (by first | omega | (simp; done) | (simp; omega))); (try have hp0 := fun o => hf V1.heap.size o (by first | omega | (simp; done) | (simp; omega))); (try have hm1 := fun o => hc (V1.heap.size + 1) o (by first | omega | (simp; done) | (simp; omega))); (try have hp1 := fun o => hf (V1.heap.size + 1) o (by first | omega | (simp; done) | (simp; omega))); clear hc hf; (try (have e00 := hm0 0; (try simp [go_sem] at e00))); (try (have p00x := hp0 0; (try simp [go_sem] at p00x))); (try (have e01 := hm0 1; (try simp [go_sem] at e01))); (try (have p01x := hp0 1; (try simp [go_sem] at p01x))); (try (have e02 := hm0 2; (try simp [go_sem] at e02))); (try (have p02x := hp0 2; (try simp [go_sem] at p02x))); (try (have e03 := hm0 3; (try simp [go_sem] at e03))); (try (have p03x := hp0 3; (try simp [go_sem] at p03x))); (try (have e04 := hm0 4; (try simp [go_sem] at e04))); (try (have p04x := hp0 4; (try simp [go_sem] at p04x))); (try (have e10 := hm1 0; (try simp [go_sem] at e10))); (try (have p10x := hp1 0; (try simp [go_sem] at p10x))); (try (have e11 := hm1 1; (try simp [go_sem] at e11))); (try (have p11x := hp1 1; (try simp [go_sem] at p11x))); (try (have e12 := hm1 2; (try simp [go_sem] at e12))); (try (have p12x := hp1 2; (try simp [go_sem] at p12x))); (try (have e13 := hm1 3; (try simp [go_sem] at e13))); (try (have p13x := hp1 3; (try simp [go_sem] at p13x))); (try (have e14 := hm1 4; (try simp [go_sem] at e14))); (try (have p14x := hp1 4; (try simp [go_sem] at p14x))); (try clear hm0 hp0); (try clear hm1 hp1); (try have hyA : V1.heap.size < w1.heap.size := by have := hb.size; simp at this; omega); (try have hyB : V1.heap.size + 1 < w1.heap.size := by have := hb.size; simp at this; omega); have hz := held_size (by with_reducible assumption) hb; (try simp at hz); have hs := hb.size; (try simp at hs)) | fail)
    all_goals (go_wp2_with fail; go_meet; exact ⟨_, rfl, (by go_light; go_simp), (by go_light; go_simp), (by go_light; first | (simp; done) | (simp; omega) | omega), (by go_light; first | exact Nat.le_refl _ | (simp; done) | (simp; omega) | omega), (held_of (by with_reducible exact And.left (by with_reducible assumption))).1⟩)
  case rest =>
    obtain ⟨C0, rfl, k00, k01, K0, W0, hb⟩ := hcut
    obtain ⟨V2, rfl⟩ : ∃ x : World, x = wc := ⟨_, rfl⟩
    replace HD := HD.trans (hb.mono HD.size)
    obtain ⟨hc, hf⟩ := bcell hb
    have hz := hb.size
    replace b00 := (hc _ 0 L0).trans b00
    replace b01 := (hc _ 1 L0).trans b01
    replace b02 := (hc _ 2 L0).trans b02
    replace b03 := (hc _ 3 L0).trans b03
    replace b04 := (hc _ 4 L0).trans b04
    replace b05 := (hc _ 5 L0).trans b05
    replace b06 := (hc _ 6 L0).trans b06
    replace b07 := (hc _ 7 L0).trans b07
    replace b08 := (hc _ 8 L0).trans b08
    replace b10 := (hc _ 0 L1).trans b10
    replace b11 := (hc _ 1 L1).trans b11
    replace b12 := (hc _ 2 L1).trans b12
    replace b13 := (hc _ 3 L1).trans b13
    replace c0 := (hc _ (off + k * 5) hlt).trans c0
    replace c1 := (hc _ (off + k * 5 + 1) hlt).trans c1
    replace c2 := (hc _ (off + k * 5 + 2) hlt).trans c2
    replace c3 := (hc _ (off + k * 5 + 3) hlt).trans c3
    replace c4 := (hc _ (off + k * 5 + 4) hlt).trans c4
    replace k10 := (hc _ 0 K1).trans k10
    replace k11 := (hc _ 1 K1).trans k11
    replace k12 := (hc _ 2 K1).trans k12
    replace k13 := (hc _ 3 K1).trans k13
    replace k14 := (hc _ 4 K1).trans k14
    replace fz1 := fun o => (hf _ o L1).trans (fz1 o)
    replace FV := Lib.hid (RowAt.below FV.out hb)
    replace L0 := Nat.lt_of_lt_of_le L0 hz
    replace L1 := Nat.lt_of_lt_of_le L1 hz
    replace hlt := Nat.lt_of_lt_of_le hlt hz
    replace K1 := Nat.lt_of_lt_of_le K1 hz
    clear hc hf hz hb
    clear b00 b01 b02 b03 b04 b05 b06 b07 b08 c0 c1 c2 c3 c4 CST HFF FV
    rcases hsd with rfl | rfl
    case inl =>
      obtain ⟨m1, m2, m3, m4⟩ := isPt_true hm
      obtain ⟨d1, d2, d3, d4⟩ := isPt_true hp
      have wx : IntKind.i64.wrap (u0 - p0) = u0 - p0 := by rw [IntKind.wrap_i64]; omega
      have wy : IntKind.i64.wrap (u1 - p1) = u1 - p1 := by rw [IntKind.wrap_i64]; omega
      obtain ⟨x1, x2⟩ : -2000000 ≤ u0 - p0 ∧ u0 - p0 ≤ 2000000 := by omega
      obtain ⟨y1, y2⟩ : -2000000 ≤ u1 - p1 ∧ u1 - p1 ≤ 2000000 := by omega
      obtain ⟨q, hq⟩ : ∃ q, q = 10 * u3 := ⟨_, rfl⟩
      have q1 : -50000 ≤ q := by omega
      have q2 : q ≤ 50000 := by omega
      have w10 : IntKind.i64.wrap (10 * u3) = q := by rw [IntKind.wrap_i64]; omega
      obtain ⟨⟨s1, s2⟩, ⟨s3, s4⟩, s5⟩ := sum_sq x1 x2 y1 y2 hne
      have hN := root_pos s5 (by omega)
      have HF : rlL ⟨n0, u0, u1, 1, u3⟩ (p0, p1) = (u0, u1, u0 + (u1 - p1) * q / rootZ ((u0 - p0) * (u0 - p0) + (u1 - p1) * (u1 - p1)), u1 - (u0 - p0) * q / rootZ ((u0 - p0) * (u0 - p0) + (u1 - p1) * (u1 - p1))) := by rw [hq]; rfl
      have wxx : IntKind.i64.wrap ((u0 - p0) * (u0 - p0)) = (u0 - p0) * (u0 - p0) := by rw [IntKind.wrap_i64]; omega
      have wyy : IntKind.i64.wrap ((u1 - p1) * (u1 - p1)) = (u1 - p1) * (u1 - p1) := by rw [IntKind.wrap_i64]; omega
      have wss : IntKind.i64.wrap ((u0 - p0) * (u0 - p0) + (u1 - p1) * (u1 - p1)) = (u0 - p0) * (u0 - p0) + (u1 - p1) * (u1 - p1) := by rw [IntKind.wrap_i64]; omega
      obtain ⟨N0, hN0⟩ : ∃ N0, N0 = rootZ ((u0 - p0) * (u0 - p0) + (u1 - p1) * (u1 - p1)) := ⟨_, rfl⟩
      rw [← hN0] at hN HF
      obtain ⟨hN1, hN2⟩ := hN
      obtain ⟨⟨y3, y4⟩, ⟨xx3, xx4⟩, ⟨y5, y6⟩, ⟨xx5, xx6⟩⟩ := rl_bd x1 x2 y1 y2 q1 q2 hN1
      have CR := Lib.hid (fun w => hN0 ▸ l01Root_c ((u0 - p0) * (u0 - p0) + (u1 - p1) * (u1 - p1)) w (by omega) (by omega))
      have CRB := Lib.hid (fun w => Calls.mono (CR.out w) (fun e w' h => (show _ ∧ Below w.heap.size w w' from ⟨h.1, h.2 ▸ Below.refl _ _⟩)))
      clear hN0 s5 hne d1 d2 d3 d4 hp
      have wyq : IntKind.i64.wrap ((u1 - p1) * q) = (u1 - p1) * q := by rw [IntKind.wrap_i64]; omega
      have wxq : IntKind.i64.wrap ((u0 - p0) * q) = (u0 - p0) * q := by rw [IntKind.wrap_i64]; omega
      have CY := Lib.hid (fun w => Calls.mono (l01Floor_c ((u1 - p1) * q) N0 w hN1 (by omega) (by omega) (by omega)) (fun e w' h => (show _ ∧ Below w.heap.size w w' from ⟨h.1, h.2 ▸ Below.refl _ _⟩)))
      have CX := Lib.hid (fun w => Calls.mono (l01Floor_c ((u0 - p0) * q) N0 w hN1 (by omega) (by omega) (by omega)) (fun e w' h => (show _ ∧ Below w.heap.size w w' from ⟨h.1, h.2 ▸ Below.refl _ _⟩)))
      have we0 : IntKind.i64.wrap (u0 + (u1 - p1) * q / N0) = u0 + (u1 - p1) * q / N0 := by rw [IntKind.wrap_i64]; omega
      have we1 : IntKind.i64.wrap (u1 - (u0 - p0) * q / N0) = u1 - (u0 - p0) * q / N0 := by rw [IntKind.wrap_i64]; omega
      clear x1 x2 y1 y2 q1 q2 s1 s2 s3 s4 hN1 hN2 y3 y4 y5 y6 xx3 xx4 xx5 xx6 m1 m2 m3 m4 hm
      replace HF := Lib.hid HF
      replace hq := Lib.hid hq
      generalize hX : u0 - p0 = x at *
      generalize hY : u1 - p1 = y at *
      clear hX hY
      go_wp2_with fail
      refine (l01Dot_c x y x y V2 hvec hvec).mono ?_
      rintro e V3 ⟨rfl, hb⟩
      clear hvec
      replace HD := HD.trans (hb.mono HD.size)
      obtain ⟨hc, hf⟩ := bcell hb
      have hz := hb.size
      replace b10 := (hc _ 0 L1).trans b10
      replace b11 := (hc _ 1 L1).trans b11
      replace b12 := (hc _ 2 L1).trans b12
      replace b13 := (hc _ 3 L1).trans b13
      replace k10 := (hc _ 0 K1).trans k10
      replace k11 := (hc _ 1 K1).trans k11
      replace k12 := (hc _ 2 K1).trans k12
      replace k13 := (hc _ 3 K1).trans k13
      replace k14 := (hc _ 4 K1).trans k14
      replace k00 := (hc _ 0 K0).trans k00
      replace k01 := (hc _ 1 K0).trans k01
      replace fz1 := fun o => (hf _ o L1).trans (fz1 o)
      replace L0 := Nat.lt_of_lt_of_le L0 hz
      replace L1 := Nat.lt_of_lt_of_le L1 hz
      replace hlt := Nat.lt_of_lt_of_le hlt hz
      replace K1 := Nat.lt_of_lt_of_le K1 hz
      replace K0 := Nat.lt_of_lt_of_le K0 hz
      clear hc hf hz hb
      go_wp2_with fail
      refine (CR.out V3).mono ?_
      rintro e w' ⟨rfl, rfl⟩
      go_wp2_with fail
      go_cut [10] (fun s10 wx => ∃ g0 : Nat, s10 = .pointer (some ⟨g0, 0, none⟩) ∧ wx.cell? ⟨g0, 0, none⟩ = some (.int .i64 (u0 + y * q / N0)) ∧ wx.cell? ⟨g0, 1, none⟩ = some (.int .i64 (u1 - x * q / N0)) ∧ g0 < wx.heap.size ∧ V3.heap.size ≤ g0 ∧ Below V3.heap.size V3 wx)
      case first =>
        go_region_held3 (fun wx => Below V3.heap.size V3 wx ∧ ∀ b o, b < V3.heap.size → wx.cell? ⟨b, o, none⟩ = V3.cell? ⟨b, o, none⟩)
          (repeat (first | with_reducible assumption | with_reducible refine held_set5 ?_ (by first | with_reducible exact Nat.le_refl _ | with_reducible exact Nat.le_add_right _ _ | with_reducible assumption | omega | (simp; omega)) _ _ _ _ _ | with_reducible exact held_back (by with_reducible assumption) (by first | with_reducible exact Nat.le_refl _ | with_reducible exact Nat.le_add_right _ _ | with_reducible assumption | omega | (simp; omega)) | with_reducible exact held_back (held_back (by with_reducible assumption) (by first | with_reducible exact Nat.le_refl _ | with_reducible exact Nat.le_add_right _ _ | with_reducible assumption | omega | (simp; omega))) (by first | with_reducible exact Nat.le_refl _ | with_reducible exact Nat.le_add_right _ _ | with_reducible assumption | omega | (simp; omega)) | with_reducible refine held_set4 ?_ (by first | with_reducible exact Nat.le_refl _ | with_reducible exact Nat.le_add_right _ _ | with_reducible assumption | omega | (simp; omega)) _ _ _ _ | with_reducible refine held_set2 ?_ (by first | with_reducible exact Nat.le_refl _ | with_reducible exact Nat.le_add_right _ _ | with_reducible assumption | omega | (simp; omega)) _ _ | with_reducible refine held_alloc ?_ _ | with_reducible exact held_step (by assumption) hb | with_reducible refine held_drew ?_ | with_reducible exact held_refl _ | with_reducible exact held_start _ _ | with_reducible exact held_begin _))
          (first | (go_at_call_of 93 (y * q); refine (CY.out _).mono ?_; rintro e w1 ⟨rfl, hb⟩; (try (have hTT := alloc_top hb; obtain ⟨hmT, hpT, hlT⟩ := hTT; have eT0 := hmT 0; have eT1 := hmT 1; have pT0 := hpT 0; have pT1 := hpT 1; clear hmT hpT; (try simp [go_sem] at eT0); (try simp [go_sem] at eT1); (try simp [go_sem] at pT0); (try simp [go_sem] at pT1); (try simp at hlT))); obtain ⟨hc, hf⟩ := bcell hb; (try have hm0 := fun o => hc V3.heap.size o (by first | omega | (simp; done) | (simp; omega))); (try have hp0 := fun o => hf V3.heap.size o (by first | omega | (simp; done) | (simp; omega))); (try have hm1 := fun o => hc (V3.heap.size + 1) o (by first | omega | (simp; done) | (simp; omega))); (try have hp1 := fun o => hf (V3.heap.size + 1) o (by first | omega | (simp; done) | (simp; omega))); clear hc hf; (try (have e00 := hm0 0; (try simp [go_sem] at e00))); (try (have p00x := hp0 0; (try simp [go_sem] at p00x))); (try (have e01 := hm0 1; (try simp [go_sem] at e01))); (try (have p01x := hp0 1; (try simp [go_sem] at p01x))); (try (have e02 := hm0 2; (try simp [go_sem] at e02))); (try (have p02x := hp0 2; (try simp [go_sem] at p02x))); (try (have e03 := hm0 3; (try simp [go_sem] at e03))); (try (have p03x := hp0 3; (try simp [go_sem] at p03x))); (try (have e04 := hm0 4; (try simp [go_sem] at e04))); (try (have p04x := hp0 4; (try simp [go_sem] at p04x))); (try (have e10 := hm1 0; (try simp [go_sem] at e10))); (try (have p10x := hp1 0; (try simp [go_sem] at p10x))); (try (have e11 := hm1 1; (try simp [go_sem] at e11))); (try (have p11x := hp1 1; (try simp [go_sem] at p11x))); (try (have e12 := hm1 2; (try simp [go_sem] at e12))); (try (have p12x := hp1 2; (try simp [go_sem] at p12x))); (try (have e13 := hm1 3; (try simp [go_sem] at e13))); (try (have p13x := hp1 3; (try simp [go_sem] at p13x))); (try (have e14 := hm1 4; (try simp [go_sem] at e14))); (try (have p14x := hp1 4; (try simp [go_sem] at p14x))); (try clear hm0 hp0); (try clear hm1 hp1); (try have hyA : V3.heap.size < w1.heap.size := by have := hb.size; simp at this; omega); (try have hyB : V3.heap.size + 1 < w1.heap.size := by have := hb.size; simp at this; omega); have hz := held_size (by with_reducible assumption) hb; (try simp at hz); have hs := hb.size; (try simp at hs)) | (go_at_call_of 93 (x * q); refine (CX.out _).mono ?_; rintro e w1 ⟨rfl, hb⟩; (try (have hTT := alloc_top hb; obtain ⟨hmT, hpT, hlT⟩ := hTT; have eT0 := hmT 0; have eT1 := hmT 1; have pT0 := hpT 0; have pT1 := hpT 1; clear hmT hpT; (try simp [go_sem] at eT0); (try simp [go_sem] at eT1); (try simp [go_sem] at pT0); (try simp [go_sem] at pT1); (try simp at hlT))); obtain ⟨hc, hf⟩ := bcell hb; (try have hm0 := fun o => hc V3.heap.size o (by first | omega | (simp; done) | (simp; omega))); (try have hp0 := fun o => hf V3.heap.size o (by first | omega | (simp; done) | (simp; omega))); (try have hm1 := fun o => hc (V3.heap.size + 1) o (by first | omega | (simp; done) | (simp; omega))); (try have hp1 := fun o => hf (V3.heap.size + 1) o (by first | omega | (simp; done) | (simp; omega))); clear hc hf; (try (have e00 := hm0 0; (try simp [go_sem] at e00))); (try (have p00x := hp0 0; (try simp [go_sem] at p00x))); (try (have e01 := hm0 1; (try simp [go_sem] at e01))); (try (have p01x := hp0 1; (try simp [go_sem] at p01x))); (try (have e02 := hm0 2; (try simp [go_sem] at e02))); (try (have p02x := hp0 2; (try simp [go_sem] at p02x))); (try (have e03 := hm0 3; (try simp [go_sem] at e03))); (try (have p03x := hp0 3; (try simp [go_sem] at p03x))); (try (have e04 := hm0 4; (try simp [go_sem] at e04))); (try (have p04x := hp0 4; (try simp [go_sem] at p04x))); (try (have e10 := hm1 0; (try simp [go_sem] at e10))); (try (have p10x := hp1 0; (try simp [go_sem] at p10x))); (try (have e11 := hm1 1; (try simp [go_sem] at e11))); (try (have p11x := hp1 1; (try simp [go_sem] at p11x))); (try (have e12 := hm1 2; (try simp [go_sem] at e12))); (try (have p12x := hp1 2; (try simp [go_sem] at p12x))); (try (have e13 := hm1 3; (try simp [go_sem] at e13))); (try (have p13x := hp1 3; (try simp [go_sem] at p13x))); (try (have e14 := hm1 4; (try simp [go_sem] at e14))); (try (have p14x := hp1 4; (try simp [go_sem] at p14x))); (try clear hm0 hp0); (try clear hm1 hp1); (try have hyA : V3.heap.size < w1.heap.size := by have := hb.size; simp at this; omega); (try have hyB : V3.heap.size + 1 < w1.heap.size := by have := hb.size; simp at this; omega); have hz := held_size (by with_reducible assumption) hb; (try simp at hz); have hs := hb.size; (try simp at hs)) | fail)
        all_goals (go_wp2_with fail; go_meet; exact ⟨_, rfl, (by go_light; go_simp), (by go_light; go_simp), (by go_light; first | (simp; done) | (simp; omega) | omega), (by go_light; first | exact Nat.le_refl _ | (simp; done) | (simp; omega) | omega), (held_of (by with_reducible exact And.left (by with_reducible assumption))).1⟩)
      case rest =>
        obtain ⟨C2, rfl, k20, k21, K2, W2, hb⟩ := hcut
        obtain ⟨V5, rfl⟩ : ∃ x : World, x = wc := ⟨_, rfl⟩
        replace HD := HD.trans (hb.mono HD.size)
        obtain ⟨hc, hf⟩ := bcell hb
        have hz := hb.size
        replace b10 := (hc _ 0 L1).trans b10
        replace b11 := (hc _ 1 L1).trans b11
        replace b12 := (hc _ 2 L1).trans b12
        replace b13 := (hc _ 3 L1).trans b13
        replace k10 := (hc _ 0 K1).trans k10
        replace k11 := (hc _ 1 K1).trans k11
        replace k12 := (hc _ 2 K1).trans k12
        replace k13 := (hc _ 3 K1).trans k13
        replace k14 := (hc _ 4 K1).trans k14
        replace k00 := (hc _ 0 K0).trans k00
        replace k01 := (hc _ 1 K0).trans k01
        replace fz1 := fun o => (hf _ o L1).trans (fz1 o)
        replace L0 := Nat.lt_of_lt_of_le L0 hz
        replace L1 := Nat.lt_of_lt_of_le L1 hz
        replace hlt := Nat.lt_of_lt_of_le hlt hz
        replace K1 := Nat.lt_of_lt_of_le K1 hz
        replace K0 := Nat.lt_of_lt_of_le K0 hz
        clear hc hf hz hb
        go_wp2_with fail
        generalize hEX : u0 + y * q / N0 = ex at *
        generalize hEY : u1 - x * q / N0 = ey at *
        replace hEX := Lib.hid hEX
        replace hEY := Lib.hid hEY
        obtain ⟨V6, hV6⟩ : ∃ x, x = V5.alloc (.cells #[.int .i64 u0, .int .i64 u1, .int .i64 ex, .int .i64 ey] 33) := ⟨_, rfl⟩
        have hb : Below V5.heap.size V5 V6 := by subst hV6; exact (Below.refl _ _).alloc (Nat.le_refl _) _
        have k30 : V6.cell? ⟨V5.heap.size, 0, none⟩ = some (.int .i64 u0) := by subst hV6; simp [go_sem]
        have k31 : V6.cell? ⟨V5.heap.size, 1, none⟩ = some (.int .i64 u1) := by subst hV6; simp [go_sem]
        have k32 : V6.cell? ⟨V5.heap.size, 2, none⟩ = some (.int .i64 ex) := by subst hV6; simp [go_sem]
        have k33 : V6.cell? ⟨V5.heap.size, 3, none⟩ = some (.int .i64 ey) := by subst hV6; simp [go_sem]
        have K3 : V5.heap.size < V6.heap.size := by subst hV6; simp
        have hS3 := Lib.hid (show V6.heap.size = V5.heap.size + 1 by subst hV6; simp)
        rw [← hV6]
        clear hV6
        replace HD := HD.trans (hb.mono HD.size)
        obtain ⟨hc, hf⟩ := bcell hb
        have hz := hb.size
        replace b10 := (hc _ 0 L1).trans b10
        replace b11 := (hc _ 1 L1).trans b11
        replace b12 := (hc _ 2 L1).trans b12
        replace b13 := (hc _ 3 L1).trans b13
        replace k10 := (hc _ 0 K1).trans k10
        replace k11 := (hc _ 1 K1).trans k11
        replace k12 := (hc _ 2 K1).trans k12
        replace k13 := (hc _ 3 K1).trans k13
        replace k14 := (hc _ 4 K1).trans k14
        replace k00 := (hc _ 0 K0).trans k00
        replace k01 := (hc _ 1 K0).trans k01
        replace k20 := (hc _ 0 K2).trans k20
        replace k21 := (hc _ 1 K2).trans k21
        replace fz1 := fun o => (hf _ o L1).trans (fz1 o)
        replace L0 := Nat.lt_of_lt_of_le L0 hz
        replace L1 := Nat.lt_of_lt_of_le L1 hz
        replace hlt := Nat.lt_of_lt_of_le hlt hz
        replace K1 := Nat.lt_of_lt_of_le K1 hz
        replace K0 := Nat.lt_of_lt_of_le K0 hz
        replace K2 := Nat.lt_of_lt_of_le K2 hz
        clear hc hf hz hb
        obtain ⟨C3, hC3⟩ : ∃ x, x = V5.heap.size := ⟨_, rfl⟩
        rw [← hC3] at k30 k31 k32 k33 K3
        try rw [← hC3]
        replace hC3 := Lib.hid hC3
        clear k10 k11 k12 k13 k14 k00 k01 k20 k21 CX CY CR CRB wx wy wxx wyy wxq wyq wss we0 we1
        go_region_with (go_at_call 46; refine (isLineS_c _ _ _ _ _).mono ?_; rintro e w1 ⟨rfl, hb⟩; (try have a0 : w1.cell? ⟨B1, 0, none⟩ = some (.int .i64 0) := ((bcell hb).1 B1 0 L1).trans b10); (try have p0 : w1.frozen? ⟨B1, 0, none⟩ = false := ((bcell hb).2 B1 0 L1).trans (fz1 0)); (try have c0 : w1.cell? ⟨C3, 0, none⟩ = some (.int .i64 u0) := ((bcell hb).1 C3 0 K3).trans k30); (try have a1 : w1.cell? ⟨B1, 1, none⟩ = some (.int .i64 0) := ((bcell hb).1 B1 1 L1).trans b11); (try have p1 : w1.frozen? ⟨B1, 1, none⟩ = false := ((bcell hb).2 B1 1 L1).trans (fz1 1)); (try have c1 : w1.cell? ⟨C3, 1, none⟩ = some (.int .i64 u1) := ((bcell hb).1 C3 1 K3).trans k31); (try have a2 : w1.cell? ⟨B1, 2, none⟩ = some (.int .i64 0) := ((bcell hb).1 B1 2 L1).trans b12); (try have p2 : w1.frozen? ⟨B1, 2, none⟩ = false := ((bcell hb).2 B1 2 L1).trans (fz1 2)); (try have c2 : w1.cell? ⟨C3, 2, none⟩ = some (.int .i64 ex) := ((bcell hb).1 C3 2 K3).trans k32); (try have a3 : w1.cell? ⟨B1, 3, none⟩ = some (.int .i64 0) := ((bcell hb).1 B1 3 L1).trans b13); (try have p3 : w1.frozen? ⟨B1, 3, none⟩ = false := ((bcell hb).2 B1 3 L1).trans (fz1 3)); (try have c3 : w1.cell? ⟨C3, 3, none⟩ = some (.int .i64 ey) := ((bcell hb).1 C3 3 K3).trans k33))
        all_goals go_wp2_with fail
        all_goals exact bodyPost_ret (v := .tuple #[.agg #[.int .i64 u0, .int .i64 u1, .int .i64 ex, .int .i64 ey], .bool (isSeg u0 u1 ex ey)]) (by simp [results, Tryd.results73, go_sem, *]) rfl ⟨by rw [hAt.out, HF.out], (by repeat (first | with_reducible exact Below.refl _ _ | with_reducible assumption | with_reducible refine Below.drew ?_ | with_reducible refine Below.alloc ?_ (by first | exact Nat.le_refl _ | (simp; done) | (simp; omega) | omega) _ | with_reducible refine Below.setCell ?_ (by first | exact Nat.le_refl _ | (simp; done) | (simp; omega) | omega) _ | with_reducible refine Below.trans ?_ (Below.mono (by with_reducible assumption) (by first | exact Nat.le_refl _ | (simp; done) | (simp; omega) | omega))))⟩
    case inr =>
      obtain ⟨m1, m2, m3, m4⟩ := isPt_true hm
      obtain ⟨d1, d2, d3, d4⟩ := isPt_true hp
      have wx : IntKind.i64.wrap (u0 - p0) = u0 - p0 := by rw [IntKind.wrap_i64]; omega
      have wy : IntKind.i64.wrap (u1 - p1) = u1 - p1 := by rw [IntKind.wrap_i64]; omega
      obtain ⟨x1, x2⟩ : -2000000 ≤ u0 - p0 ∧ u0 - p0 ≤ 2000000 := by omega
      obtain ⟨y1, y2⟩ : -2000000 ≤ u1 - p1 ∧ u1 - p1 ≤ 2000000 := by omega
      obtain ⟨q, hq⟩ : ∃ q, q = -(10 * u3) := ⟨_, rfl⟩
      have q1 : -50000 ≤ q := by omega
      have q2 : q ≤ 50000 := by omega
      have w10 : IntKind.i64.wrap (10 * u3) = 10 * u3 := by rw [IntKind.wrap_i64]; omega
      have wn : IntKind.i64.wrap (-(10 * u3)) = q := by rw [IntKind.wrap_i64]; omega
      obtain ⟨⟨s1, s2⟩, ⟨s3, s4⟩, s5⟩ := sum_sq x1 x2 y1 y2 hne
      have hN := root_pos s5 (by omega)
      have HF : rlL ⟨n0, u0, u1, 2, u3⟩ (p0, p1) = (u0 + (u1 - p1) * q / rootZ ((u0 - p0) * (u0 - p0) + (u1 - p1) * (u1 - p1)), u1 - (u0 - p0) * q / rootZ ((u0 - p0) * (u0 - p0) + (u1 - p1) * (u1 - p1)), u0, u1) := by rw [hq]; rfl
      have wxx : IntKind.i64.wrap ((u0 - p0) * (u0 - p0)) = (u0 - p0) * (u0 - p0) := by rw [IntKind.wrap_i64]; omega
      have wyy : IntKind.i64.wrap ((u1 - p1) * (u1 - p1)) = (u1 - p1) * (u1 - p1) := by rw [IntKind.wrap_i64]; omega
      have wss : IntKind.i64.wrap ((u0 - p0) * (u0 - p0) + (u1 - p1) * (u1 - p1)) = (u0 - p0) * (u0 - p0) + (u1 - p1) * (u1 - p1) := by rw [IntKind.wrap_i64]; omega
      obtain ⟨N0, hN0⟩ : ∃ N0, N0 = rootZ ((u0 - p0) * (u0 - p0) + (u1 - p1) * (u1 - p1)) := ⟨_, rfl⟩
      rw [← hN0] at hN HF
      obtain ⟨hN1, hN2⟩ := hN
      obtain ⟨⟨y3, y4⟩, ⟨xx3, xx4⟩, ⟨y5, y6⟩, ⟨xx5, xx6⟩⟩ := rl_bd x1 x2 y1 y2 q1 q2 hN1
      have CR := Lib.hid (fun w => hN0 ▸ l01Root_c ((u0 - p0) * (u0 - p0) + (u1 - p1) * (u1 - p1)) w (by omega) (by omega))
      have CRB := Lib.hid (fun w => Calls.mono (CR.out w) (fun e w' h => (show _ ∧ Below w.heap.size w w' from ⟨h.1, h.2 ▸ Below.refl _ _⟩)))
      clear hN0 s5 hne d1 d2 d3 d4 hp
      have wyq : IntKind.i64.wrap ((u1 - p1) * q) = (u1 - p1) * q := by rw [IntKind.wrap_i64]; omega
      have wxq : IntKind.i64.wrap ((u0 - p0) * q) = (u0 - p0) * q := by rw [IntKind.wrap_i64]; omega
      have CY := Lib.hid (fun w => Calls.mono (l01Floor_c ((u1 - p1) * q) N0 w hN1 (by omega) (by omega) (by omega)) (fun e w' h => (show _ ∧ Below w.heap.size w w' from ⟨h.1, h.2 ▸ Below.refl _ _⟩)))
      have CX := Lib.hid (fun w => Calls.mono (l01Floor_c ((u0 - p0) * q) N0 w hN1 (by omega) (by omega) (by omega)) (fun e w' h => (show _ ∧ Below w.heap.size w w' from ⟨h.1, h.2 ▸ Below.refl _ _⟩)))
      have we0 : IntKind.i64.wrap (u0 + (u1 - p1) * q / N0) = u0 + (u1 - p1) * q / N0 := by rw [IntKind.wrap_i64]; omega
      have we1 : IntKind.i64.wrap (u1 - (u0 - p0) * q / N0) = u1 - (u0 - p0) * q / N0 := by rw [IntKind.wrap_i64]; omega
      clear x1 x2 y1 y2 q1 q2 s1 s2 s3 s4 hN1 hN2 y3 y4 y5 y6 xx3 xx4 xx5 xx6 m1 m2 m3 m4 hm
      replace HF := Lib.hid HF
      replace hq := Lib.hid hq
      generalize hX : u0 - p0 = x at *
      generalize hY : u1 - p1 = y at *
      clear hX hY
      go_wp2_with fail
      refine (l01Dot_c x y x y V2 hvec hvec).mono ?_
      rintro e V3 ⟨rfl, hb⟩
      clear hvec
      replace HD := HD.trans (hb.mono HD.size)
      obtain ⟨hc, hf⟩ := bcell hb
      have hz := hb.size
      replace b10 := (hc _ 0 L1).trans b10
      replace b11 := (hc _ 1 L1).trans b11
      replace b12 := (hc _ 2 L1).trans b12
      replace b13 := (hc _ 3 L1).trans b13
      replace k10 := (hc _ 0 K1).trans k10
      replace k11 := (hc _ 1 K1).trans k11
      replace k12 := (hc _ 2 K1).trans k12
      replace k13 := (hc _ 3 K1).trans k13
      replace k14 := (hc _ 4 K1).trans k14
      replace k00 := (hc _ 0 K0).trans k00
      replace k01 := (hc _ 1 K0).trans k01
      replace fz1 := fun o => (hf _ o L1).trans (fz1 o)
      replace L0 := Nat.lt_of_lt_of_le L0 hz
      replace L1 := Nat.lt_of_lt_of_le L1 hz
      replace hlt := Nat.lt_of_lt_of_le hlt hz
      replace K1 := Nat.lt_of_lt_of_le K1 hz
      replace K0 := Nat.lt_of_lt_of_le K0 hz
      clear hc hf hz hb
      go_wp2_with fail
      refine (CR.out V3).mono ?_
      rintro e w' ⟨rfl, rfl⟩
      go_wp2_with fail
      go_cut [10] (fun s10 wx => ∃ g0 : Nat, s10 = .pointer (some ⟨g0, 0, none⟩) ∧ wx.cell? ⟨g0, 0, none⟩ = some (.int .i64 (u0 + y * q / N0)) ∧ wx.cell? ⟨g0, 1, none⟩ = some (.int .i64 (u1 - x * q / N0)) ∧ g0 < wx.heap.size ∧ V3.heap.size ≤ g0 ∧ Below V3.heap.size V3 wx)
      case first =>
        go_region_held3 (fun wx => Below V3.heap.size V3 wx ∧ ∀ b o, b < V3.heap.size → wx.cell? ⟨b, o, none⟩ = V3.cell? ⟨b, o, none⟩)
          (repeat (first | with_reducible assumption | with_reducible refine held_set5 ?_ (by first | with_reducible exact Nat.le_refl _ | with_reducible exact Nat.le_add_right _ _ | with_reducible assumption | omega | (simp; omega)) _ _ _ _ _ | with_reducible exact held_back (by with_reducible assumption) (by first | with_reducible exact Nat.le_refl _ | with_reducible exact Nat.le_add_right _ _ | with_reducible assumption | omega | (simp; omega)) | with_reducible exact held_back (held_back (by with_reducible assumption) (by first | with_reducible exact Nat.le_refl _ | with_reducible exact Nat.le_add_right _ _ | with_reducible assumption | omega | (simp; omega))) (by first | with_reducible exact Nat.le_refl _ | with_reducible exact Nat.le_add_right _ _ | with_reducible assumption | omega | (simp; omega)) | with_reducible refine held_set4 ?_ (by first | with_reducible exact Nat.le_refl _ | with_reducible exact Nat.le_add_right _ _ | with_reducible assumption | omega | (simp; omega)) _ _ _ _ | with_reducible refine held_set2 ?_ (by first | with_reducible exact Nat.le_refl _ | with_reducible exact Nat.le_add_right _ _ | with_reducible assumption | omega | (simp; omega)) _ _ | with_reducible refine held_alloc ?_ _ | with_reducible exact held_step (by assumption) hb | with_reducible refine held_drew ?_ | with_reducible exact held_refl _ | with_reducible exact held_start _ _ | with_reducible exact held_begin _))
          (first | (go_at_call_of 93 (y * q); refine (CY.out _).mono ?_; rintro e w1 ⟨rfl, hb⟩; (try (have hTT := alloc_top hb; obtain ⟨hmT, hpT, hlT⟩ := hTT; have eT0 := hmT 0; have eT1 := hmT 1; have pT0 := hpT 0; have pT1 := hpT 1; clear hmT hpT; (try simp [go_sem] at eT0); (try simp [go_sem] at eT1); (try simp [go_sem] at pT0); (try simp [go_sem] at pT1); (try simp at hlT))); obtain ⟨hc, hf⟩ := bcell hb; (try have hm0 := fun o => hc V3.heap.size o (by first | omega | (simp; done) | (simp; omega))); (try have hp0 := fun o => hf V3.heap.size o (by first | omega | (simp; done) | (simp; omega))); (try have hm1 := fun o => hc (V3.heap.size + 1) o (by first | omega | (simp; done) | (simp; omega))); (try have hp1 := fun o => hf (V3.heap.size + 1) o (by first | omega | (simp; done) | (simp; omega))); clear hc hf; (try (have e00 := hm0 0; (try simp [go_sem] at e00))); (try (have p00x := hp0 0; (try simp [go_sem] at p00x))); (try (have e01 := hm0 1; (try simp [go_sem] at e01))); (try (have p01x := hp0 1; (try simp [go_sem] at p01x))); (try (have e02 := hm0 2; (try simp [go_sem] at e02))); (try (have p02x := hp0 2; (try simp [go_sem] at p02x))); (try (have e03 := hm0 3; (try simp [go_sem] at e03))); (try (have p03x := hp0 3; (try simp [go_sem] at p03x))); (try (have e04 := hm0 4; (try simp [go_sem] at e04))); (try (have p04x := hp0 4; (try simp [go_sem] at p04x))); (try (have e10 := hm1 0; (try simp [go_sem] at e10))); (try (have p10x := hp1 0; (try simp [go_sem] at p10x))); (try (have e11 := hm1 1; (try simp [go_sem] at e11))); (try (have p11x := hp1 1; (try simp [go_sem] at p11x))); (try (have e12 := hm1 2; (try simp [go_sem] at e12))); (try (have p12x := hp1 2; (try simp [go_sem] at p12x))); (try (have e13 := hm1 3; (try simp [go_sem] at e13))); (try (have p13x := hp1 3; (try simp [go_sem] at p13x))); (try (have e14 := hm1 4; (try simp [go_sem] at e14))); (try (have p14x := hp1 4; (try simp [go_sem] at p14x))); (try clear hm0 hp0); (try clear hm1 hp1); (try have hyA : V3.heap.size < w1.heap.size := by have := hb.size; simp at this; omega); (try have hyB : V3.heap.size + 1 < w1.heap.size := by have := hb.size; simp at this; omega); have hz := held_size (by with_reducible assumption) hb; (try simp at hz); have hs := hb.size; (try simp at hs)) | (go_at_call_of 93 (x * q); refine (CX.out _).mono ?_; rintro e w1 ⟨rfl, hb⟩; (try (have hTT := alloc_top hb; obtain ⟨hmT, hpT, hlT⟩ := hTT; have eT0 := hmT 0; have eT1 := hmT 1; have pT0 := hpT 0; have pT1 := hpT 1; clear hmT hpT; (try simp [go_sem] at eT0); (try simp [go_sem] at eT1); (try simp [go_sem] at pT0); (try simp [go_sem] at pT1); (try simp at hlT))); obtain ⟨hc, hf⟩ := bcell hb; (try have hm0 := fun o => hc V3.heap.size o (by first | omega | (simp; done) | (simp; omega))); (try have hp0 := fun o => hf V3.heap.size o (by first | omega | (simp; done) | (simp; omega))); (try have hm1 := fun o => hc (V3.heap.size + 1) o (by first | omega | (simp; done) | (simp; omega))); (try have hp1 := fun o => hf (V3.heap.size + 1) o (by first | omega | (simp; done) | (simp; omega))); clear hc hf; (try (have e00 := hm0 0; (try simp [go_sem] at e00))); (try (have p00x := hp0 0; (try simp [go_sem] at p00x))); (try (have e01 := hm0 1; (try simp [go_sem] at e01))); (try (have p01x := hp0 1; (try simp [go_sem] at p01x))); (try (have e02 := hm0 2; (try simp [go_sem] at e02))); (try (have p02x := hp0 2; (try simp [go_sem] at p02x))); (try (have e03 := hm0 3; (try simp [go_sem] at e03))); (try (have p03x := hp0 3; (try simp [go_sem] at p03x))); (try (have e04 := hm0 4; (try simp [go_sem] at e04))); (try (have p04x := hp0 4; (try simp [go_sem] at p04x))); (try (have e10 := hm1 0; (try simp [go_sem] at e10))); (try (have p10x := hp1 0; (try simp [go_sem] at p10x))); (try (have e11 := hm1 1; (try simp [go_sem] at e11))); (try (have p11x := hp1 1; (try simp [go_sem] at p11x))); (try (have e12 := hm1 2; (try simp [go_sem] at e12))); (try (have p12x := hp1 2; (try simp [go_sem] at p12x))); (try (have e13 := hm1 3; (try simp [go_sem] at e13))); (try (have p13x := hp1 3; (try simp [go_sem] at p13x))); (try (have e14 := hm1 4; (try simp [go_sem] at e14))); (try (have p14x := hp1 4; (try simp [go_sem] at p14x))); (try clear hm0 hp0); (try clear hm1 hp1); (try have hyA : V3.heap.size < w1.heap.size := by have := hb.size; simp at this; omega); (try have hyB : V3.heap.size + 1 < w1.heap.size := by have := hb.size; simp at this; omega); have hz := held_size (by with_reducible assumption) hb; (try simp at hz); have hs := hb.size; (try simp at hs)) | fail)
        all_goals (go_wp2_with fail; go_meet; exact ⟨_, rfl, (by go_light; go_simp), (by go_light; go_simp), (by go_light; first | (simp; done) | (simp; omega) | omega), (by go_light; first | exact Nat.le_refl _ | (simp; done) | (simp; omega) | omega), (held_of (by with_reducible exact And.left (by with_reducible assumption))).1⟩)
      case rest =>
        obtain ⟨C2, rfl, k20, k21, K2, W2, hb⟩ := hcut
        obtain ⟨V5, rfl⟩ : ∃ x : World, x = wc := ⟨_, rfl⟩
        replace HD := HD.trans (hb.mono HD.size)
        obtain ⟨hc, hf⟩ := bcell hb
        have hz := hb.size
        replace b10 := (hc _ 0 L1).trans b10
        replace b11 := (hc _ 1 L1).trans b11
        replace b12 := (hc _ 2 L1).trans b12
        replace b13 := (hc _ 3 L1).trans b13
        replace k10 := (hc _ 0 K1).trans k10
        replace k11 := (hc _ 1 K1).trans k11
        replace k12 := (hc _ 2 K1).trans k12
        replace k13 := (hc _ 3 K1).trans k13
        replace k14 := (hc _ 4 K1).trans k14
        replace k00 := (hc _ 0 K0).trans k00
        replace k01 := (hc _ 1 K0).trans k01
        replace fz1 := fun o => (hf _ o L1).trans (fz1 o)
        replace L0 := Nat.lt_of_lt_of_le L0 hz
        replace L1 := Nat.lt_of_lt_of_le L1 hz
        replace hlt := Nat.lt_of_lt_of_le hlt hz
        replace K1 := Nat.lt_of_lt_of_le K1 hz
        replace K0 := Nat.lt_of_lt_of_le K0 hz
        clear hc hf hz hb
        go_wp2_with fail
        generalize hEX : u0 + y * q / N0 = ex at *
        generalize hEY : u1 - x * q / N0 = ey at *
        replace hEX := Lib.hid hEX
        replace hEY := Lib.hid hEY
        obtain ⟨V6, hV6⟩ : ∃ x, x = V5.alloc (.cells #[.int .i64 ex, .int .i64 ey, .int .i64 u0, .int .i64 u1] 33) := ⟨_, rfl⟩
        have hb : Below V5.heap.size V5 V6 := by subst hV6; exact (Below.refl _ _).alloc (Nat.le_refl _) _
        have k30 : V6.cell? ⟨V5.heap.size, 0, none⟩ = some (.int .i64 ex) := by subst hV6; simp [go_sem]
        have k31 : V6.cell? ⟨V5.heap.size, 1, none⟩ = some (.int .i64 ey) := by subst hV6; simp [go_sem]
        have k32 : V6.cell? ⟨V5.heap.size, 2, none⟩ = some (.int .i64 u0) := by subst hV6; simp [go_sem]
        have k33 : V6.cell? ⟨V5.heap.size, 3, none⟩ = some (.int .i64 u1) := by subst hV6; simp [go_sem]
        have K3 : V5.heap.size < V6.heap.size := by subst hV6; simp
        have hS3 := Lib.hid (show V6.heap.size = V5.heap.size + 1 by subst hV6; simp)
        rw [← hV6]
        clear hV6
        replace HD := HD.trans (hb.mono HD.size)
        obtain ⟨hc, hf⟩ := bcell hb
        have hz := hb.size
        replace b10 := (hc _ 0 L1).trans b10
        replace b11 := (hc _ 1 L1).trans b11
        replace b12 := (hc _ 2 L1).trans b12
        replace b13 := (hc _ 3 L1).trans b13
        replace k10 := (hc _ 0 K1).trans k10
        replace k11 := (hc _ 1 K1).trans k11
        replace k12 := (hc _ 2 K1).trans k12
        replace k13 := (hc _ 3 K1).trans k13
        replace k14 := (hc _ 4 K1).trans k14
        replace k00 := (hc _ 0 K0).trans k00
        replace k01 := (hc _ 1 K0).trans k01
        replace k20 := (hc _ 0 K2).trans k20
        replace k21 := (hc _ 1 K2).trans k21
        replace fz1 := fun o => (hf _ o L1).trans (fz1 o)
        replace L0 := Nat.lt_of_lt_of_le L0 hz
        replace L1 := Nat.lt_of_lt_of_le L1 hz
        replace hlt := Nat.lt_of_lt_of_le hlt hz
        replace K1 := Nat.lt_of_lt_of_le K1 hz
        replace K0 := Nat.lt_of_lt_of_le K0 hz
        replace K2 := Nat.lt_of_lt_of_le K2 hz
        clear hc hf hz hb
        obtain ⟨C3, hC3⟩ : ∃ x, x = V5.heap.size := ⟨_, rfl⟩
        rw [← hC3] at k30 k31 k32 k33 K3
        try rw [← hC3]
        replace hC3 := Lib.hid hC3
        clear k10 k11 k12 k13 k14 k00 k01 k20 k21 CX CY CR CRB wx wy wxx wyy wxq wyq wss we0 we1
        go_region_with (go_at_call 46; refine (isLineS_c _ _ _ _ _).mono ?_; rintro e w1 ⟨rfl, hb⟩; (try have a0 : w1.cell? ⟨B1, 0, none⟩ = some (.int .i64 0) := ((bcell hb).1 B1 0 L1).trans b10); (try have p0 : w1.frozen? ⟨B1, 0, none⟩ = false := ((bcell hb).2 B1 0 L1).trans (fz1 0)); (try have c0 : w1.cell? ⟨C3, 0, none⟩ = some (.int .i64 ex) := ((bcell hb).1 C3 0 K3).trans k30); (try have a1 : w1.cell? ⟨B1, 1, none⟩ = some (.int .i64 0) := ((bcell hb).1 B1 1 L1).trans b11); (try have p1 : w1.frozen? ⟨B1, 1, none⟩ = false := ((bcell hb).2 B1 1 L1).trans (fz1 1)); (try have c1 : w1.cell? ⟨C3, 1, none⟩ = some (.int .i64 ey) := ((bcell hb).1 C3 1 K3).trans k31); (try have a2 : w1.cell? ⟨B1, 2, none⟩ = some (.int .i64 0) := ((bcell hb).1 B1 2 L1).trans b12); (try have p2 : w1.frozen? ⟨B1, 2, none⟩ = false := ((bcell hb).2 B1 2 L1).trans (fz1 2)); (try have c2 : w1.cell? ⟨C3, 2, none⟩ = some (.int .i64 u0) := ((bcell hb).1 C3 2 K3).trans k32); (try have a3 : w1.cell? ⟨B1, 3, none⟩ = some (.int .i64 0) := ((bcell hb).1 B1 3 L1).trans b13); (try have p3 : w1.frozen? ⟨B1, 3, none⟩ = false := ((bcell hb).2 B1 3 L1).trans (fz1 3)); (try have c3 : w1.cell? ⟨C3, 3, none⟩ = some (.int .i64 u1) := ((bcell hb).1 C3 3 K3).trans k33))
        all_goals go_wp2_with fail
        all_goals exact bodyPost_ret (v := .tuple #[.agg #[.int .i64 ex, .int .i64 ey, .int .i64 u0, .int .i64 u1], .bool (isSeg ex ey u0 u1)]) (by simp [results, Tryd.results73, go_sem, *]) rfl ⟨by rw [hAt.out, HF.out], (by repeat (first | with_reducible exact Below.refl _ _ | with_reducible assumption | with_reducible refine Below.drew ?_ | with_reducible refine Below.alloc ?_ (by first | exact Nat.le_refl _ | (simp; done) | (simp; omega) | omega) _ | with_reducible refine Below.setCell ?_ (by first | exact Nat.le_refl _ | (simp; done) | (simp; omega) | omega) _ | with_reducible refine Below.trans ?_ (Below.mono (by with_reducible assumption) (by first | exact Nat.le_refl _ | (simp; done) | (simp; omega) | omega))))⟩
end Go.Proofs.YtbeigoejdckpiaaDoor
