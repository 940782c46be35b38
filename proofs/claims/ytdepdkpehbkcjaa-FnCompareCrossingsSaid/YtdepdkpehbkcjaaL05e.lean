/-
  The way of a leg as a segment; general lemmas of a store of four numbers behind calls. Conditions stand with each.
-/
import Derived.Test.YtdepdkpehbkcjaaL05p
import Derived.Test.YtdepdkpehbkcjaaL05b
import Derived.Test.YtdepdkpehbkcjaaL02b
import Derived.Test.YtdepdkpehbkcjaaL03t
import Derived.Test.YtdepdkpehbkcjaaMark
namespace Go.Proofs.Ytdepdkpehbkcjaa
set_option linter.unusedVariables false
open Go.RowKit Go.Deep

theorem h6_mk {W wx : World} {B : Nat} {z0 z1 z2 z3 : Int} (hk : Kept B W wx) (c0 : wx.cell? ⟨B, 0, none⟩ = some (.int .i64 z0)) (c1 : wx.cell? ⟨B, 1, none⟩ = some (.int .i64 z1)) (c2 : wx.cell? ⟨B, 2, none⟩ = some (.int .i64 z2)) (c3 : wx.cell? ⟨B, 3, none⟩ = some (.int .i64 z3)) (f0 : ∀ o, wx.frozen? ⟨B, o, none⟩ = false) :
    ((∀ b o, b < W.heap.size → b ≠ B → wx.cell? ⟨b, o, none⟩ = W.cell? ⟨b, o, none⟩) ∧ wx.cell? ⟨B, 0, none⟩ = some (.int .i64 (rd wx ⟨B, 0, none⟩)) ∧ wx.cell? ⟨B, 1, none⟩ = some (.int .i64 (rd wx ⟨B, 1, none⟩)) ∧ wx.cell? ⟨B, 2, none⟩ = some (.int .i64 (rd wx ⟨B, 2, none⟩)) ∧ wx.cell? ⟨B, 3, none⟩ = some (.int .i64 (rd wx ⟨B, 3, none⟩)) ∧ (∀ o, wx.frozen? ⟨B, o, none⟩ = false) ∧ Kept B W wx) := ⟨(kcell hk).1, rd_eq c0, rd_eq c1, rd_eq c2, rd_eq c3, f0, hk⟩
theorem h6_below {W wx w1 : World} {B : Nat} (h : ((∀ b o, b < W.heap.size → b ≠ B → wx.cell? ⟨b, o, none⟩ = W.cell? ⟨b, o, none⟩) ∧ wx.cell? ⟨B, 0, none⟩ = some (.int .i64 (rd wx ⟨B, 0, none⟩)) ∧ wx.cell? ⟨B, 1, none⟩ = some (.int .i64 (rd wx ⟨B, 1, none⟩)) ∧ wx.cell? ⟨B, 2, none⟩ = some (.int .i64 (rd wx ⟨B, 2, none⟩)) ∧ wx.cell? ⟨B, 3, none⟩ = some (.int .i64 (rd wx ⟨B, 3, none⟩)) ∧ (∀ o, wx.frozen? ⟨B, o, none⟩ = false) ∧ Kept B W wx)) (hB : B < W.heap.size) (hb : Below wx.heap.size wx w1) : ((∀ b o, b < W.heap.size → b ≠ B → w1.cell? ⟨b, o, none⟩ = W.cell? ⟨b, o, none⟩) ∧ w1.cell? ⟨B, 0, none⟩ = some (.int .i64 (rd w1 ⟨B, 0, none⟩)) ∧ w1.cell? ⟨B, 1, none⟩ = some (.int .i64 (rd w1 ⟨B, 1, none⟩)) ∧ w1.cell? ⟨B, 2, none⟩ = some (.int .i64 (rd w1 ⟨B, 2, none⟩)) ∧ w1.cell? ⟨B, 3, none⟩ = some (.int .i64 (rd w1 ⟨B, 3, none⟩)) ∧ (∀ o, w1.frozen? ⟨B, o, none⟩ = false) ∧ Kept B W w1) := by
  obtain ⟨_, c0, c1, c2, c3, f, hk⟩ := h
  have hlt : B < wx.heap.size := Nat.lt_of_lt_of_le hB hk.size
  obtain ⟨hc, hf⟩ := bcell hb
  exact h6_mk (hk.trans (Kept.of hb)) ((hc _ _ hlt).trans c0) ((hc _ _ hlt).trans c1) ((hc _ _ hlt).trans c2) ((hc _ _ hlt).trans c3) (fun o => (hf _ _ hlt).trans (f o))
theorem h6_set {W wx : World} {B : Nat} (h : ((∀ b o, b < W.heap.size → b ≠ B → wx.cell? ⟨b, o, none⟩ = W.cell? ⟨b, o, none⟩) ∧ wx.cell? ⟨B, 0, none⟩ = some (.int .i64 (rd wx ⟨B, 0, none⟩)) ∧ wx.cell? ⟨B, 1, none⟩ = some (.int .i64 (rd wx ⟨B, 1, none⟩)) ∧ wx.cell? ⟨B, 2, none⟩ = some (.int .i64 (rd wx ⟨B, 2, none⟩)) ∧ wx.cell? ⟨B, 3, none⟩ = some (.int .i64 (rd wx ⟨B, 3, none⟩)) ∧ (∀ o, wx.frozen? ⟨B, o, none⟩ = false) ∧ Kept B W wx)) (x y z u : Int) : ((∀ b o, b < W.heap.size → b ≠ B → ((((wx.setCell ⟨B, 0, none⟩ (.int .i64 x)).setCell ⟨B, 1, none⟩ (.int .i64 y)).setCell ⟨B, 2, none⟩ (.int .i64 z)).setCell ⟨B, 3, none⟩ (.int .i64 u)).cell? ⟨b, o, none⟩ = W.cell? ⟨b, o, none⟩) ∧ ((((wx.setCell ⟨B, 0, none⟩ (.int .i64 x)).setCell ⟨B, 1, none⟩ (.int .i64 y)).setCell ⟨B, 2, none⟩ (.int .i64 z)).setCell ⟨B, 3, none⟩ (.int .i64 u)).cell? ⟨B, 0, none⟩ = some (.int .i64 (rd ((((wx.setCell ⟨B, 0, none⟩ (.int .i64 x)).setCell ⟨B, 1, none⟩ (.int .i64 y)).setCell ⟨B, 2, none⟩ (.int .i64 z)).setCell ⟨B, 3, none⟩ (.int .i64 u)) ⟨B, 0, none⟩)) ∧ ((((wx.setCell ⟨B, 0, none⟩ (.int .i64 x)).setCell ⟨B, 1, none⟩ (.int .i64 y)).setCell ⟨B, 2, none⟩ (.int .i64 z)).setCell ⟨B, 3, none⟩ (.int .i64 u)).cell? ⟨B, 1, none⟩ = some (.int .i64 (rd ((((wx.setCell ⟨B, 0, none⟩ (.int .i64 x)).setCell ⟨B, 1, none⟩ (.int .i64 y)).setCell ⟨B, 2, none⟩ (.int .i64 z)).setCell ⟨B, 3, none⟩ (.int .i64 u)) ⟨B, 1, none⟩)) ∧ ((((wx.setCell ⟨B, 0, none⟩ (.int .i64 x)).setCell ⟨B, 1, none⟩ (.int .i64 y)).setCell ⟨B, 2, none⟩ (.int .i64 z)).setCell ⟨B, 3, none⟩ (.int .i64 u)).cell? ⟨B, 2, none⟩ = some (.int .i64 (rd ((((wx.setCell ⟨B, 0, none⟩ (.int .i64 x)).setCell ⟨B, 1, none⟩ (.int .i64 y)).setCell ⟨B, 2, none⟩ (.int .i64 z)).setCell ⟨B, 3, none⟩ (.int .i64 u)) ⟨B, 2, none⟩)) ∧ ((((wx.setCell ⟨B, 0, none⟩ (.int .i64 x)).setCell ⟨B, 1, none⟩ (.int .i64 y)).setCell ⟨B, 2, none⟩ (.int .i64 z)).setCell ⟨B, 3, none⟩ (.int .i64 u)).cell? ⟨B, 3, none⟩ = some (.int .i64 (rd ((((wx.setCell ⟨B, 0, none⟩ (.int .i64 x)).setCell ⟨B, 1, none⟩ (.int .i64 y)).setCell ⟨B, 2, none⟩ (.int .i64 z)).setCell ⟨B, 3, none⟩ (.int .i64 u)) ⟨B, 3, none⟩)) ∧ (∀ o, ((((wx.setCell ⟨B, 0, none⟩ (.int .i64 x)).setCell ⟨B, 1, none⟩ (.int .i64 y)).setCell ⟨B, 2, none⟩ (.int .i64 z)).setCell ⟨B, 3, none⟩ (.int .i64 u)).frozen? ⟨B, o, none⟩ = false) ∧ Kept B W ((((wx.setCell ⟨B, 0, none⟩ (.int .i64 x)).setCell ⟨B, 1, none⟩ (.int .i64 y)).setCell ⟨B, 2, none⟩ (.int .i64 z)).setCell ⟨B, 3, none⟩ (.int .i64 u))) := by
  obtain ⟨_, c0, c1, c2, c3, f, hk⟩ := h
  refine h6_mk (z0 := x) (z1 := y) (z2 := z) (z3 := u) ((((hk.setCell (.inl rfl) _).setCell (.inl rfl) _).setCell (.inl rfl) _).setCell (.inl rfl) _) ?_ ?_ ?_ ?_ (fun o => ?_)
  · rw [World.cell?_setCell_other _ _ _ _ (by simp), World.cell?_setCell_other _ _ _ _ (by simp), World.cell?_setCell_other _ _ _ _ (by simp)]
    exact World.cell?_setCell_same _ _ _ c0
  · rw [World.cell?_setCell_other _ _ _ _ (by simp), World.cell?_setCell_other _ _ _ _ (by simp)]
    exact World.cell?_setCell_same _ _ _ ((World.cell?_setCell_other _ _ _ _ (by simp)).trans c1)
  · rw [World.cell?_setCell_other _ _ _ _ (by simp)]
    exact World.cell?_setCell_same _ _ _ ((World.cell?_setCell_other _ _ _ _ (by simp)).trans ((World.cell?_setCell_other _ _ _ _ (by simp)).trans c2))
  · exact World.cell?_setCell_same _ _ _ ((World.cell?_setCell_other _ _ _ _ (by simp)).trans ((World.cell?_setCell_other _ _ _ _ (by simp)).trans ((World.cell?_setCell_other _ _ _ _ (by simp)).trans c3)))
  · rw [World.frozen?_setCell, World.frozen?_setCell, World.frozen?_setCell, World.frozen?_setCell]; exact f o
theorem h6_vals {W w1 : World} {B : Nat} {x y z u : Int} (h : ((∀ b o, b < W.heap.size → b ≠ B → ((((w1.setCell ⟨B, 0, none⟩ (.int .i64 x)).setCell ⟨B, 1, none⟩ (.int .i64 y)).setCell ⟨B, 2, none⟩ (.int .i64 z)).setCell ⟨B, 3, none⟩ (.int .i64 u)).cell? ⟨b, o, none⟩ = W.cell? ⟨b, o, none⟩) ∧ ((((w1.setCell ⟨B, 0, none⟩ (.int .i64 x)).setCell ⟨B, 1, none⟩ (.int .i64 y)).setCell ⟨B, 2, none⟩ (.int .i64 z)).setCell ⟨B, 3, none⟩ (.int .i64 u)).cell? ⟨B, 0, none⟩ = some (.int .i64 (rd ((((w1.setCell ⟨B, 0, none⟩ (.int .i64 x)).setCell ⟨B, 1, none⟩ (.int .i64 y)).setCell ⟨B, 2, none⟩ (.int .i64 z)).setCell ⟨B, 3, none⟩ (.int .i64 u)) ⟨B, 0, none⟩)) ∧ ((((w1.setCell ⟨B, 0, none⟩ (.int .i64 x)).setCell ⟨B, 1, none⟩ (.int .i64 y)).setCell ⟨B, 2, none⟩ (.int .i64 z)).setCell ⟨B, 3, none⟩ (.int .i64 u)).cell? ⟨B, 1, none⟩ = some (.int .i64 (rd ((((w1.setCell ⟨B, 0, none⟩ (.int .i64 x)).setCell ⟨B, 1, none⟩ (.int .i64 y)).setCell ⟨B, 2, none⟩ (.int .i64 z)).setCell ⟨B, 3, none⟩ (.int .i64 u)) ⟨B, 1, none⟩)) ∧ ((((w1.setCell ⟨B, 0, none⟩ (.int .i64 x)).setCell ⟨B, 1, none⟩ (.int .i64 y)).setCell ⟨B, 2, none⟩ (.int .i64 z)).setCell ⟨B, 3, none⟩ (.int .i64 u)).cell? ⟨B, 2, none⟩ = some (.int .i64 (rd ((((w1.setCell ⟨B, 0, none⟩ (.int .i64 x)).setCell ⟨B, 1, none⟩ (.int .i64 y)).setCell ⟨B, 2, none⟩ (.int .i64 z)).setCell ⟨B, 3, none⟩ (.int .i64 u)) ⟨B, 2, none⟩)) ∧ ((((w1.setCell ⟨B, 0, none⟩ (.int .i64 x)).setCell ⟨B, 1, none⟩ (.int .i64 y)).setCell ⟨B, 2, none⟩ (.int .i64 z)).setCell ⟨B, 3, none⟩ (.int .i64 u)).cell? ⟨B, 3, none⟩ = some (.int .i64 (rd ((((w1.setCell ⟨B, 0, none⟩ (.int .i64 x)).setCell ⟨B, 1, none⟩ (.int .i64 y)).setCell ⟨B, 2, none⟩ (.int .i64 z)).setCell ⟨B, 3, none⟩ (.int .i64 u)) ⟨B, 3, none⟩)) ∧ (∀ o, ((((w1.setCell ⟨B, 0, none⟩ (.int .i64 x)).setCell ⟨B, 1, none⟩ (.int .i64 y)).setCell ⟨B, 2, none⟩ (.int .i64 z)).setCell ⟨B, 3, none⟩ (.int .i64 u)).frozen? ⟨B, o, none⟩ = false) ∧ Kept B W ((((w1.setCell ⟨B, 0, none⟩ (.int .i64 x)).setCell ⟨B, 1, none⟩ (.int .i64 y)).setCell ⟨B, 2, none⟩ (.int .i64 z)).setCell ⟨B, 3, none⟩ (.int .i64 u)))) :
    ((((w1.setCell ⟨B, 0, none⟩ (.int .i64 x)).setCell ⟨B, 1, none⟩ (.int .i64 y)).setCell ⟨B, 2, none⟩ (.int .i64 z)).setCell ⟨B, 3, none⟩ (.int .i64 u)).cell? ⟨B, 0, none⟩ = some (.int .i64 x) ∧ ((((w1.setCell ⟨B, 0, none⟩ (.int .i64 x)).setCell ⟨B, 1, none⟩ (.int .i64 y)).setCell ⟨B, 2, none⟩ (.int .i64 z)).setCell ⟨B, 3, none⟩ (.int .i64 u)).cell? ⟨B, 1, none⟩ = some (.int .i64 y) ∧ ((((w1.setCell ⟨B, 0, none⟩ (.int .i64 x)).setCell ⟨B, 1, none⟩ (.int .i64 y)).setCell ⟨B, 2, none⟩ (.int .i64 z)).setCell ⟨B, 3, none⟩ (.int .i64 u)).cell? ⟨B, 2, none⟩ = some (.int .i64 z) ∧ ((((w1.setCell ⟨B, 0, none⟩ (.int .i64 x)).setCell ⟨B, 1, none⟩ (.int .i64 y)).setCell ⟨B, 2, none⟩ (.int .i64 z)).setCell ⟨B, 3, none⟩ (.int .i64 u)).cell? ⟨B, 3, none⟩ = some (.int .i64 u) := by
  obtain ⟨_, c0, c1, c2, c3, _, _⟩ := h
  have same : ∀ {w : World} {a : Addr} {v r : Value}, (w.setCell a v).cell? a = some r → (w.setCell a v).cell? a = some v := fun {w a v r} e => by
    obtain ⟨q, hq⟩ := Option.isSome_iff_exists.1 (setCell_isSome (by rw [e]; rfl))
    exact World.cell?_setCell_same _ _ _ hq
  refine ⟨?_, ?_, ?_, same c3⟩
  · rw [World.cell?_setCell_other _ _ _ _ (by simp), World.cell?_setCell_other _ _ _ _ (by simp), World.cell?_setCell_other _ _ _ _ (by simp)] at c0 ⊢
    exact same c0
  · rw [World.cell?_setCell_other _ _ _ _ (by simp), World.cell?_setCell_other _ _ _ _ (by simp)] at c1 ⊢
    exact same c1
  · rw [World.cell?_setCell_other _ _ _ _ (by simp)] at c2 ⊢
    exact same c2
set_option maxRecDepth 100000 in
set_option maxHeartbeats 2000000 in
theorem legSegment_c (a : Option Addr) (cap : Nat) (l : List Fx) (k : Nat) (w : World) (hl : l.length ≤ 4611686018427387904) (hk : k + 1 < l.length) (hf : FixAt w a l) : Calls Try.prog 93 #[.agg #[.slice a l.length cap], .int .i64 k] w fun e w' => e = .returned (.agg #[.int .i64 (fx l k).x, .int .i64 (fx l k).y, .int .i64 (fx l (k + 1)).x, .int .i64 (fx l (k + 1)).y]) ∧ Below w.heap.size w w' := by
  obtain ⟨b, off, rfl, hlt, hcs⟩ := hf.head (by omega)
  obtain ⟨c0, c1, c2⟩ := hcs k (by omega)
  obtain ⟨m, hm⟩ : ∃ m, m = k + 1 := ⟨_, rfl⟩
  obtain ⟨d0, d1, d2⟩ := hcs m (by omega)
  have g1 : (k : Int) < (l.length : Int) := by omega
  have g2 : (m : Int) < (l.length : Int) := by omega
  have g3 : (k : Int) + 1 = (m : Int) := by omega
  have g4 : IntKind.i64.wrap (m : Int) = (m : Int) := by rw [IntKind.wrap_i64]; omega
  rw [← hm]
  clear hcs hf hm
  generalize fx l k = fk at *
  generalize fx l m = fm at *
  obtain ⟨W, hW⟩ : ∃ W, W = (w.alloc (.cells #[.slice (some ⟨b, off, none⟩) l.length cap] 26)).alloc (.cells #[.int .i64 0, .int .i64 0, .int .i64 0, .int .i64 0] 121) := ⟨_, rfl⟩
  have HD : Below w.heap.size w W := by subst hW; exact (by repeat (first | with_reducible exact Below.refl _ _ | with_reducible assumption | with_reducible refine Below.drew ?_ | with_reducible refine Below.alloc ?_ (by first | exact Nat.le_refl _ | (simp; done) | (simp; omega) | omega) _ | with_reducible refine Below.setCell ?_ (by first | exact Nat.le_refl _ | (simp; done) | (simp; omega) | omega) _ | with_reducible refine Below.trans ?_ (Below.mono (by with_reducible assumption) (by first | exact Nat.le_refl _ | (simp; done) | (simp; omega) | omega))))
  have b0 : W.cell? ⟨w.heap.size, 0, none⟩ = some (.slice (some ⟨b, off, none⟩) l.length cap) := by subst hW; simp [go_sem]
  have z0 : W.cell? ⟨w.heap.size + 1, 0, none⟩ = some (.int .i64 0) := by subst hW; simp [go_sem]
  have z1 : W.cell? ⟨w.heap.size + 1, 1, none⟩ = some (.int .i64 0) := by subst hW; simp [go_sem]
  have z2 : W.cell? ⟨w.heap.size + 1, 2, none⟩ = some (.int .i64 0) := by subst hW; simp [go_sem]
  have z3 : W.cell? ⟨w.heap.size + 1, 3, none⟩ = some (.int .i64 0) := by subst hW; simp [go_sem]
  have z4 : ∀ o, W.frozen? ⟨w.heap.size + 1, o, none⟩ = false := by subst hW; intro o; simp [go_sem]
  have L0 : w.heap.size < W.heap.size := by subst hW; simp; omega
  have L1 : w.heap.size + 1 < W.heap.size := by subst hW; simp
  have Lb : b < W.heap.size := Nat.lt_trans hlt L0
  have c0 := (HD.cell (p := ⟨b, off + k * 3, none⟩) hlt).trans c0
  have c1 := (HD.cell (p := ⟨b, off + k * 3 + 1, none⟩) hlt).trans c1
  have c2 := (HD.cell (p := ⟨b, off + k * 3 + 2, none⟩) hlt).trans c2
  have d0 := (HD.cell (p := ⟨b, off + m * 3, none⟩) hlt).trans d0
  have d1 := (HD.cell (p := ⟨b, off + m * 3 + 1, none⟩) hlt).trans d1
  have d2 := (HD.cell (p := ⟨b, off + m * 3 + 2, none⟩) hlt).trans d2
  have n0 : w.heap.size ≠ w.heap.size + 1 := by omega
  have n1 : b ≠ w.heap.size + 1 := by omega
  have hgB : w.heap.size ≤ w.heap.size + 1 := by omega
  go_enter Try.func93, Try.ntmps93
  go_upto_region 1 with fail
  rw [← hW]
  clear hW hlt
  generalize w.heap.size + 1 = B at *
  go_region_held3 (fun wx => ((∀ b o, b < W.heap.size → b ≠ B → wx.cell? ⟨b, o, none⟩ = W.cell? ⟨b, o, none⟩) ∧ wx.cell? ⟨B, 0, none⟩ = some (.int .i64 (rd wx ⟨B, 0, none⟩)) ∧ wx.cell? ⟨B, 1, none⟩ = some (.int .i64 (rd wx ⟨B, 1, none⟩)) ∧ wx.cell? ⟨B, 2, none⟩ = some (.int .i64 (rd wx ⟨B, 2, none⟩)) ∧ wx.cell? ⟨B, 3, none⟩ = some (.int .i64 (rd wx ⟨B, 3, none⟩)) ∧ (∀ o, wx.frozen? ⟨B, o, none⟩ = false) ∧ Kept B W wx))
    (first | with_reducible assumption | with_reducible exact h6_below (by with_reducible assumption) L1 hb | with_reducible exact h6_set (by with_reducible assumption) _ _ _ _ | exact h6_mk (Kept.refl _ _).drew z0 z1 z2 z3 z4)
    (first | (go_at_call 73; refine (pointOf_c _ _ _ _).mono ?_; rintro e w1 ⟨rfl, hb⟩))
  all_goals go_wp2
  all_goals have hv := h6_vals (by with_reducible assumption)
  all_goals obtain ⟨v0, v1, v2, v3⟩ := hv
  all_goals exact bodyPost_ret (v := .agg #[.int .i64 fk.x, .int .i64 fk.y, .int .i64 fm.x, .int .i64 fm.y]) (by simp [results, Try.results93, go_sem, v0, v1, v2, v3]) rfl ⟨rfl, kept_end HD hgB (by with_reducible exact And.right (And.right (And.right (And.right (And.right (And.right (by with_reducible assumption))))))) ⟩
end Go.Proofs.Ytdepdkpehbkcjaa
