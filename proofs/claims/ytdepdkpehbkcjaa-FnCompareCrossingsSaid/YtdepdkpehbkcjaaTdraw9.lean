/-
  The draw of the law on comparing crossings. Conditions: the code's bytes lie in the world.
-/
import Derived.Test.YtdepdkpehbkcjaaTdraw8
namespace Go.Proofs.Ytdepdkpehbkcjaa
set_option linter.unusedVariables false
open Go.RowKit Go.Deep

theorem res_refl (n : Nat) (Z : World) : True ∧ ∀ b o, n ≤ b → Z.cell? ⟨b, o, none⟩ = Z.cell? ⟨b, o, none⟩ := ⟨trivial, fun _ _ _ => rfl⟩
theorem res_drew {n : Nat} {Z wx : World} (h : True ∧ ∀ b o, n ≤ b → wx.cell? ⟨b, o, none⟩ = Z.cell? ⟨b, o, none⟩) : True ∧ ∀ b o, n ≤ b → wx.drew.cell? ⟨b, o, none⟩ = Z.cell? ⟨b, o, none⟩ := h
theorem res_set {n : Nat} {Z wx : World} {p : Addr} (h : True ∧ ∀ b o, n ≤ b → wx.cell? ⟨b, o, none⟩ = Z.cell? ⟨b, o, none⟩) (hp : p.block < n) (v : Value) : True ∧ ∀ b o, n ≤ b → (wx.setCell p v).cell? ⟨b, o, none⟩ = Z.cell? ⟨b, o, none⟩ :=
  ⟨trivial, fun b o hb => (World.cell?_of_block (w := wx) (heap_setCell_other wx p b v (by omega))).trans (h.2 b o hb)⟩
theorem ne01 (n : Nat) : n ≠ (n + 1) := by omega
theorem ne02 (n : Nat) : n ≠ (n + 1 + 1) := by omega
theorem ne03 (n : Nat) : n ≠ (n + 1 + 1 + 1) := by omega
theorem ne10 (n : Nat) : (n + 1) ≠ n := by omega
theorem ne12 (n : Nat) : (n + 1) ≠ (n + 1 + 1) := by omega
theorem ne13 (n : Nat) : (n + 1) ≠ (n + 1 + 1 + 1) := by omega
theorem ne20 (n : Nat) : (n + 1 + 1) ≠ n := by omega
theorem ne21 (n : Nat) : (n + 1 + 1) ≠ (n + 1) := by omega
theorem ne23 (n : Nat) : (n + 1 + 1) ≠ (n + 1 + 1 + 1) := by omega
theorem ne30 (n : Nat) : (n + 1 + 1 + 1) ≠ n := by omega
theorem ne31 (n : Nat) : (n + 1 + 1 + 1) ≠ (n + 1) := by omega
theorem ne32 (n : Nat) : (n + 1 + 1 + 1) ≠ (n + 1 + 1) := by omega
theorem le90 (n : Nat) : n ≤ n := by omega
theorem le91 (n : Nat) : n ≤ (n + 1) := by omega
theorem le92 (n : Nat) : n ≤ (n + 1 + 1) := by omega
theorem le93 (n : Nat) : n ≤ (n + 1 + 1 + 1) := by omega
theorem bodyPost_named {P : Program} {fn : Func} {R : Ending → World → Prop} {x : Exit} {a : Act} {w : World} (h : ∀ Y, Y = w → bodyPost P fn R x a Y) : bodyPost P fn R x a w := h w rfl
theorem set_same9 {w : World} {p : Addr} {v old : Value} (h : w.cell? p = some old) : (w.setCell p v).cell? p = some v := World.cell?_setCell_same _ _ _ h
theorem has9 {w : World} {q : Addr} {u : Value} (h : w.cell? q = some u) : (w.cell? q).isSome = true := by rw [h]; rfl
theorem has_set9 {w : World} {p q : Addr} {v : Value} (h : (w.cell? q).isSome = true) : ((w.setCell p v).cell? q).isSome = true := by
  by_cases e : p = q
  · subst e
    rw [World.cell?_setCell_same' _ _ _ h]; rfl
  · rw [World.cell?_setCell_other _ _ _ _ e]
    exact h
theorem set_sameH {w : World} {p : Addr} {v : Value} (h : (w.cell? p).isSome = true) : (w.setCell p v).cell? p = some v := World.cell?_setCell_same' _ _ _ h
theorem cell_drew9 {w : World} {p : Addr} {v : Value} (h : w.cell? p = some v) : w.drew.cell? p = some v := h
theorem set_other9 {w : World} {p q : Addr} {v x : Value} (hne : p.block ≠ q.block ∨ p.off ≠ q.off) (h : w.cell? q = some x) : (w.setCell p v).cell? q = some x := by
  rw [← h]
  exact World.cell?_setCell_other _ _ _ _ (fun e => by subst e; simp at hne)
set_option maxHeartbeats 4000000 in
theorem fin4 {n : Nat} {Y Z : World} {v00 v10 v11 v12 v13 v14 v20 v30 v31 v32 v33 v34 u00 u10 u11 u12 u13 u14 u20 u30 u31 u32 u33 u34 : Value} (hY : Y = ((((((((((((Z.setCell ⟨n, 0, none⟩ v00).setCell ⟨n + 1, 0, none⟩ v10).setCell ⟨n + 1, 1, none⟩ v11).setCell ⟨n + 1, 2, none⟩ v12).setCell ⟨n + 1, 3, none⟩ v13).setCell ⟨n + 1, 4, none⟩ v14).setCell ⟨n + 1 + 1, 0, none⟩ v20).setCell ⟨n + 1 + 1 + 1, 0, none⟩ v30).setCell ⟨n + 1 + 1 + 1, 1, none⟩ v31).setCell ⟨n + 1 + 1 + 1, 2, none⟩ v32).setCell ⟨n + 1 + 1 + 1, 3, none⟩ v33).setCell ⟨n + 1 + 1 + 1, 4, none⟩ v34).drew) (z00 : Z.cell? ⟨n, 0, none⟩ = some u00) (z10 : Z.cell? ⟨n + 1, 0, none⟩ = some u10) (z11 : Z.cell? ⟨n + 1, 1, none⟩ = some u11) (z12 : Z.cell? ⟨n + 1, 2, none⟩ = some u12) (z13 : Z.cell? ⟨n + 1, 3, none⟩ = some u13) (z14 : Z.cell? ⟨n + 1, 4, none⟩ = some u14) (z20 : Z.cell? ⟨n + 1 + 1, 0, none⟩ = some u20) (z30 : Z.cell? ⟨n + 1 + 1 + 1, 0, none⟩ = some u30) (z31 : Z.cell? ⟨n + 1 + 1 + 1, 1, none⟩ = some u31) (z32 : Z.cell? ⟨n + 1 + 1 + 1, 2, none⟩ = some u32) (z33 : Z.cell? ⟨n + 1 + 1 + 1, 3, none⟩ = some u33) (z34 : Z.cell? ⟨n + 1 + 1 + 1, 4, none⟩ = some u34) : Y.cell? ⟨n, 0, none⟩ = some v00 ∧ Y.cell? ⟨n + 1, 0, none⟩ = some v10 ∧ Y.cell? ⟨n + 1, 1, none⟩ = some v11 ∧ Y.cell? ⟨n + 1, 2, none⟩ = some v12 ∧ Y.cell? ⟨n + 1, 3, none⟩ = some v13 ∧ Y.cell? ⟨n + 1, 4, none⟩ = some v14 ∧ Y.cell? ⟨n + 1 + 1, 0, none⟩ = some v20 ∧ Y.cell? ⟨n + 1 + 1 + 1, 0, none⟩ = some v30 ∧ Y.cell? ⟨n + 1 + 1 + 1, 1, none⟩ = some v31 ∧ Y.cell? ⟨n + 1 + 1 + 1, 2, none⟩ = some v32 ∧ Y.cell? ⟨n + 1 + 1 + 1, 3, none⟩ = some v33 ∧ Y.cell? ⟨n + 1 + 1 + 1, 4, none⟩ = some v34 := by
  subst hY
  exact ⟨cell_drew9 (set_other9 (.inl (ne30 _)) (set_other9 (.inl (ne30 _)) (set_other9 (.inl (ne30 _)) (set_other9 (.inl (ne30 _)) (set_other9 (.inl (ne30 _)) (set_other9 (.inl (ne20 _)) (set_other9 (.inl (ne10 _)) (set_other9 (.inl (ne10 _)) (set_other9 (.inl (ne10 _)) (set_other9 (.inl (ne10 _)) (set_other9 (.inl (ne10 _)) (set_sameH (has9 z00))))))))))))), cell_drew9 (set_other9 (.inl (ne31 _)) (set_other9 (.inl (ne31 _)) (set_other9 (.inl (ne31 _)) (set_other9 (.inl (ne31 _)) (set_other9 (.inl (ne31 _)) (set_other9 (.inl (ne21 _)) (set_other9 (.inr (show (4 : Nat) ≠ 0 by decide)) (set_other9 (.inr (show (3 : Nat) ≠ 0 by decide)) (set_other9 (.inr (show (2 : Nat) ≠ 0 by decide)) (set_other9 (.inr (show (1 : Nat) ≠ 0 by decide)) (set_sameH (has_set9 (has9 z10))))))))))))), cell_drew9 (set_other9 (.inl (ne31 _)) (set_other9 (.inl (ne31 _)) (set_other9 (.inl (ne31 _)) (set_other9 (.inl (ne31 _)) (set_other9 (.inl (ne31 _)) (set_other9 (.inl (ne21 _)) (set_other9 (.inr (show (4 : Nat) ≠ 1 by decide)) (set_other9 (.inr (show (3 : Nat) ≠ 1 by decide)) (set_other9 (.inr (show (2 : Nat) ≠ 1 by decide)) (set_sameH (has_set9 (has_set9 (has9 z11))))))))))))), cell_drew9 (set_other9 (.inl (ne31 _)) (set_other9 (.inl (ne31 _)) (set_other9 (.inl (ne31 _)) (set_other9 (.inl (ne31 _)) (set_other9 (.inl (ne31 _)) (set_other9 (.inl (ne21 _)) (set_other9 (.inr (show (4 : Nat) ≠ 2 by decide)) (set_other9 (.inr (show (3 : Nat) ≠ 2 by decide)) (set_sameH (has_set9 (has_set9 (has_set9 (has9 z12))))))))))))), cell_drew9 (set_other9 (.inl (ne31 _)) (set_other9 (.inl (ne31 _)) (set_other9 (.inl (ne31 _)) (set_other9 (.inl (ne31 _)) (set_other9 (.inl (ne31 _)) (set_other9 (.inl (ne21 _)) (set_other9 (.inr (show (4 : Nat) ≠ 3 by decide)) (set_sameH (has_set9 (has_set9 (has_set9 (has_set9 (has9 z13))))))))))))), cell_drew9 (set_other9 (.inl (ne31 _)) (set_other9 (.inl (ne31 _)) (set_other9 (.inl (ne31 _)) (set_other9 (.inl (ne31 _)) (set_other9 (.inl (ne31 _)) (set_other9 (.inl (ne21 _)) (set_sameH (has_set9 (has_set9 (has_set9 (has_set9 (has_set9 (has9 z14))))))))))))), cell_drew9 (set_other9 (.inl (ne32 _)) (set_other9 (.inl (ne32 _)) (set_other9 (.inl (ne32 _)) (set_other9 (.inl (ne32 _)) (set_other9 (.inl (ne32 _)) (set_sameH (has_set9 (has_set9 (has_set9 (has_set9 (has_set9 (has_set9 (has9 z20))))))))))))), cell_drew9 (set_other9 (.inr (show (4 : Nat) ≠ 0 by decide)) (set_other9 (.inr (show (3 : Nat) ≠ 0 by decide)) (set_other9 (.inr (show (2 : Nat) ≠ 0 by decide)) (set_other9 (.inr (show (1 : Nat) ≠ 0 by decide)) (set_sameH (has_set9 (has_set9 (has_set9 (has_set9 (has_set9 (has_set9 (has_set9 (has9 z30))))))))))))), cell_drew9 (set_other9 (.inr (show (4 : Nat) ≠ 1 by decide)) (set_other9 (.inr (show (3 : Nat) ≠ 1 by decide)) (set_other9 (.inr (show (2 : Nat) ≠ 1 by decide)) (set_sameH (has_set9 (has_set9 (has_set9 (has_set9 (has_set9 (has_set9 (has_set9 (has_set9 (has9 z31))))))))))))), cell_drew9 (set_other9 (.inr (show (4 : Nat) ≠ 2 by decide)) (set_other9 (.inr (show (3 : Nat) ≠ 2 by decide)) (set_sameH (has_set9 (has_set9 (has_set9 (has_set9 (has_set9 (has_set9 (has_set9 (has_set9 (has_set9 (has9 z32))))))))))))), cell_drew9 (set_other9 (.inr (show (4 : Nat) ≠ 3 by decide)) (set_sameH (has_set9 (has_set9 (has_set9 (has_set9 (has_set9 (has_set9 (has_set9 (has_set9 (has_set9 (has_set9 (has9 z33))))))))))))), cell_drew9 (set_sameH (has_set9 (has_set9 (has_set9 (has_set9 (has_set9 (has_set9 (has_set9 (has_set9 (has_set9 (has_set9 (has_set9 (has9 z34)))))))))))))⟩
set_option maxHeartbeats 1000000 in
theorem fin4o {n base k size : Nat} {e : TypeId} {v : Value} {xs : List Value} {Y Z : World} {v00 v10 v11 v12 v13 v14 v20 v30 v31 v32 v33 v34 : Value} (hY : Y = ((((((((((((Z.setCell ⟨n, 0, none⟩ v00).setCell ⟨n + 1, 0, none⟩ v10).setCell ⟨n + 1, 1, none⟩ v11).setCell ⟨n + 1, 2, none⟩ v12).setCell ⟨n + 1, 3, none⟩ v13).setCell ⟨n + 1, 4, none⟩ v14).setCell ⟨n + 1 + 1, 0, none⟩ v20).setCell ⟨n + 1 + 1 + 1, 0, none⟩ v30).setCell ⟨n + 1 + 1 + 1, 1, none⟩ v31).setCell ⟨n + 1 + 1 + 1, 2, none⟩ v32).setCell ⟨n + 1 + 1 + 1, 3, none⟩ v33).setCell ⟨n + 1 + 1 + 1, 4, none⟩ v34).drew) (hn : n + 3 < base) (h : Z.ownsRow base e size v k xs) : Y.ownsRow base e size v k xs := by
  subst hY
  have h0 : n < base := by omega
  have h1 : n + 1 < base := by omega
  have h2 : n + 1 + 1 < base := by omega
  have h3 : n + 1 + 1 + 1 < base := by omega
  refine World.ownsRow.drew ?_
  repeat (first | with_reducible exact h | with_reducible refine ownsRow_setCell_below ?_ h3 _ | with_reducible refine ownsRow_setCell_below ?_ h2 _ | with_reducible refine ownsRow_setCell_below ?_ h1 _ | with_reducible refine ownsRow_setCell_below ?_ h0 _)
set_option maxHeartbeats 1000000 in
theorem fin4b {n : Nat} {w Y Z : World} {v00 v10 v11 v12 v13 v14 v20 v30 v31 v32 v33 v34 : Value} (hY : Y = ((((((((((((Z.setCell ⟨n, 0, none⟩ v00).setCell ⟨n + 1, 0, none⟩ v10).setCell ⟨n + 1, 1, none⟩ v11).setCell ⟨n + 1, 2, none⟩ v12).setCell ⟨n + 1, 3, none⟩ v13).setCell ⟨n + 1, 4, none⟩ v14).setCell ⟨n + 1 + 1, 0, none⟩ v20).setCell ⟨n + 1 + 1 + 1, 0, none⟩ v30).setCell ⟨n + 1 + 1 + 1, 1, none⟩ v31).setCell ⟨n + 1 + 1 + 1, 2, none⟩ v32).setCell ⟨n + 1 + 1 + 1, 3, none⟩ v33).setCell ⟨n + 1 + 1 + 1, 4, none⟩ v34).drew) (h : Below n w Z) : Below n w Y := by
  subst hY
  refine Below.drew ?_
  repeat (first | with_reducible exact h | refine Below.setCell ?_ (by simp only; omega) _)
set_option maxRecDepth 100000 in
set_option maxHeartbeats 40000000 in
theorem DrawCompareCrossings_c (a : Option Addr) (n cap : Nat) (w : World) (hn : n ≤ 9223372036854775807) (hb : BytesB w.heap.size w a n) : Calls Try.prog 41 #[.slice a n cap] w fun e w' => (∃ (r cp : Nat) (l : List Fx) (x0 x1 x2 x3 x4 : Int) (r' cp' : Nat) (l' : List Fx) (y0 y1 y2 y3 y4 : Int), e = .returned (.tuple #[.agg #[.slice (some ⟨r, 0, none⟩) l.length cp], .agg #[.int .i64 x0, .int .i64 x1, .int .i64 x2, .int .i64 x3, .int .i64 x4], .agg #[.slice (some ⟨r', 0, none⟩) l'.length cp'], .agg #[.int .i64 y0, .int .i64 y1, .int .i64 y2, .int .i64 y3, .int .i64 y4]]) ∧ (l.length ≤ 41 ∧ l'.length ≤ 41) ∧ FixAt w' (some ⟨r, 0, none⟩) l ∧ FixAt w' (some ⟨r', 0, none⟩) l') ∧ Below w.heap.size w w' := by
  have HBy := Lib.hid hb
  clear hb
  obtain ⟨W, hW⟩ : ∃ W, W = (((w.alloc (.cells #[.slice none 0 0] 26)).alloc (.cells #[.int .i64 0, .int .i64 0, .int .i64 0, .int .i64 0, .int .i64 0] 57)).alloc (.cells #[.slice none 0 0] 26)).alloc (.cells #[.int .i64 0, .int .i64 0, .int .i64 0, .int .i64 0, .int .i64 0] 57) := ⟨_, rfl⟩
  have HD : Below w.heap.size w W := by subst hW; exact (by repeat (first | with_reducible exact Below.refl _ _ | with_reducible assumption | with_reducible refine Below.drew ?_ | with_reducible refine Below.alloc ?_ (by first | exact Nat.le_refl _ | (simp; done) | (simp; omega) | omega) _ | with_reducible refine Below.setCell ?_ (by first | exact Nat.le_refl _ | (simp; done) | (simp; omega) | omega) _ | with_reducible refine Below.trans ?_ (Below.mono (by with_reducible assumption) (by first | exact Nat.le_refl _ | (simp; done) | (simp; omega) | omega))))
  have LW : w.heap.size + 3 < W.heap.size := by subst hW; simp
  have z00 : W.cell? ⟨w.heap.size, 0, none⟩ = some (.slice none 0 0) := by subst hW; simp [go_sem]
  have zf0 : ∀ o, W.frozen? ⟨w.heap.size, o, none⟩ = false := by subst hW; intro o; simp [go_sem]
  have zl0 : w.heap.size < W.heap.size := by omega
  have z10 : W.cell? ⟨(w.heap.size + 1), 0, none⟩ = some (.int .i64 0) := by subst hW; simp [go_sem]
  have z11 : W.cell? ⟨(w.heap.size + 1), 1, none⟩ = some (.int .i64 0) := by subst hW; simp [go_sem]
  have z12 : W.cell? ⟨(w.heap.size + 1), 2, none⟩ = some (.int .i64 0) := by subst hW; simp [go_sem]
  have z13 : W.cell? ⟨(w.heap.size + 1), 3, none⟩ = some (.int .i64 0) := by subst hW; simp [go_sem]
  have z14 : W.cell? ⟨(w.heap.size + 1), 4, none⟩ = some (.int .i64 0) := by subst hW; simp [go_sem]
  have zf1 : ∀ o, W.frozen? ⟨(w.heap.size + 1), o, none⟩ = false := by subst hW; intro o; simp [go_sem]
  have zl1 : (w.heap.size + 1) < W.heap.size := by omega
  have z20 : W.cell? ⟨(w.heap.size + 1 + 1), 0, none⟩ = some (.slice none 0 0) := by subst hW; simp [go_sem]
  have zf2 : ∀ o, W.frozen? ⟨(w.heap.size + 1 + 1), o, none⟩ = false := by subst hW; intro o; simp [go_sem]
  have zl2 : (w.heap.size + 1 + 1) < W.heap.size := by omega
  have z30 : W.cell? ⟨(w.heap.size + 1 + 1 + 1), 0, none⟩ = some (.int .i64 0) := by subst hW; simp [go_sem]
  have z31 : W.cell? ⟨(w.heap.size + 1 + 1 + 1), 1, none⟩ = some (.int .i64 0) := by subst hW; simp [go_sem]
  have z32 : W.cell? ⟨(w.heap.size + 1 + 1 + 1), 2, none⟩ = some (.int .i64 0) := by subst hW; simp [go_sem]
  have z33 : W.cell? ⟨(w.heap.size + 1 + 1 + 1), 3, none⟩ = some (.int .i64 0) := by subst hW; simp [go_sem]
  have z34 : W.cell? ⟨(w.heap.size + 1 + 1 + 1), 4, none⟩ = some (.int .i64 0) := by subst hW; simp [go_sem]
  have zf3 : ∀ o, W.frozen? ⟨(w.heap.size + 1 + 1 + 1), o, none⟩ = false := by subst hW; intro o; simp [go_sem]
  have zl3 : (w.heap.size + 1 + 1 + 1) < W.heap.size := by omega
  go_enter Try.func41, Try.ntmps41
  go_wp2_with fail
  rw [← hW]
  clear hW
  refine (l01From_c a n cap W hn (bytes_at HBy.out HD)).mono ?_
  rintro e V1 ⟨⟨g, rfl, hg, hs1⟩, hb1⟩
  have zn0 : w.heap.size ≠ g := by omega
  have zn1 : (w.heap.size + 1) ≠ g := by omega
  have zn2 : (w.heap.size + 1 + 1) ≠ g := by omega
  have zn3 : (w.heap.size + 1 + 1 + 1) ≠ g := by omega
  have hgw : w.heap.size ≤ g := by omega
  have BV := Nat.le_refl W.heap.size
  replace z00 := ((bcell hb1).1 w.heap.size 0 zl0).trans z00
  replace z10 := ((bcell hb1).1 (w.heap.size + 1) 0 zl1).trans z10
  replace z11 := ((bcell hb1).1 (w.heap.size + 1) 1 zl1).trans z11
  replace z12 := ((bcell hb1).1 (w.heap.size + 1) 2 zl1).trans z12
  replace z13 := ((bcell hb1).1 (w.heap.size + 1) 3 zl1).trans z13
  replace z14 := ((bcell hb1).1 (w.heap.size + 1) 4 zl1).trans z14
  replace z20 := ((bcell hb1).1 (w.heap.size + 1 + 1) 0 zl2).trans z20
  replace z30 := ((bcell hb1).1 (w.heap.size + 1 + 1 + 1) 0 zl3).trans z30
  replace z31 := ((bcell hb1).1 (w.heap.size + 1 + 1 + 1) 1 zl3).trans z31
  replace z32 := ((bcell hb1).1 (w.heap.size + 1 + 1 + 1) 2 zl3).trans z32
  replace z33 := ((bcell hb1).1 (w.heap.size + 1 + 1 + 1) 3 zl3).trans z33
  replace z34 := ((bcell hb1).1 (w.heap.size + 1 + 1 + 1) 4 zl3).trans z34
  replace zf0 := fun o => ((bcell hb1).2 w.heap.size o zl0).trans (zf0 o)
  replace zf1 := fun o => ((bcell hb1).2 (w.heap.size + 1) o zl1).trans (zf1 o)
  replace zf2 := fun o => ((bcell hb1).2 (w.heap.size + 1 + 1) o zl2).trans (zf2 o)
  replace zf3 := fun o => ((bcell hb1).2 (w.heap.size + 1 + 1 + 1) o zl3).trans (zf3 o)
  replace zl0 := Nat.lt_of_lt_of_le zl0 hb1.size
  replace zl1 := Nat.lt_of_lt_of_le zl1 hb1.size
  replace zl2 := Nat.lt_of_lt_of_le zl2 hb1.size
  replace zl3 := Nat.lt_of_lt_of_le zl3 hb1.size
  replace HD := HD.trans (hb1.mono HD.size)
  replace BV := Nat.le_trans BV hb1.size
  clear hb1
  go_wp2_with fail
  have hs0 := hs1
  have BV1 := BV
  refine (l03DrawAny_c g a n cap V1 hn hs1).mono ?_
  rintro e V2 ⟨⟨r, cp, l, rfl, hl0, hl1, ho⟩, hs2, hk2⟩
  clear hs1
  replace z00 := ((kcell hk2).1 w.heap.size 0 zl0 zn0).trans z00
  replace z10 := ((kcell hk2).1 (w.heap.size + 1) 0 zl1 zn1).trans z10
  replace z11 := ((kcell hk2).1 (w.heap.size + 1) 1 zl1 zn1).trans z11
  replace z12 := ((kcell hk2).1 (w.heap.size + 1) 2 zl1 zn1).trans z12
  replace z13 := ((kcell hk2).1 (w.heap.size + 1) 3 zl1 zn1).trans z13
  replace z14 := ((kcell hk2).1 (w.heap.size + 1) 4 zl1 zn1).trans z14
  replace z20 := ((kcell hk2).1 (w.heap.size + 1 + 1) 0 zl2 zn2).trans z20
  replace z30 := ((kcell hk2).1 (w.heap.size + 1 + 1 + 1) 0 zl3 zn3).trans z30
  replace z31 := ((kcell hk2).1 (w.heap.size + 1 + 1 + 1) 1 zl3 zn3).trans z31
  replace z32 := ((kcell hk2).1 (w.heap.size + 1 + 1 + 1) 2 zl3 zn3).trans z32
  replace z33 := ((kcell hk2).1 (w.heap.size + 1 + 1 + 1) 3 zl3 zn3).trans z33
  replace z34 := ((kcell hk2).1 (w.heap.size + 1 + 1 + 1) 4 zl3 zn3).trans z34
  replace zf0 := fun o => ((kcell hk2).2 w.heap.size o zl0 zn0).trans (zf0 o)
  replace zf1 := fun o => ((kcell hk2).2 (w.heap.size + 1) o zl1 zn1).trans (zf1 o)
  replace zf2 := fun o => ((kcell hk2).2 (w.heap.size + 1 + 1) o zl2 zn2).trans (zf2 o)
  replace zf3 := fun o => ((kcell hk2).2 (w.heap.size + 1 + 1 + 1) o zl3 zn3).trans (zf3 o)
  replace zl0 := Nat.lt_of_lt_of_le zl0 hk2.size
  replace zl1 := Nat.lt_of_lt_of_le zl1 hk2.size
  replace zl2 := Nat.lt_of_lt_of_le zl2 hk2.size
  replace zl3 := Nat.lt_of_lt_of_le zl3 hk2.size
  replace HD := HD.trans (hk2.below hgw HD.size)
  replace BV := Nat.le_trans BV hk2.size
  have hrg : r ≠ g := by have := (ho.lt r rfl).1; have := hs0.lt; omega
  have Or := Lib.hid (own_mono ho (show W.heap.size ≤ V1.heap.size by omega))
  clear ho
  have lr := (Or.out.lt r rfl).2
  clear hk2 hs0
  go_wp2_with fail
  obtain ⟨V3, hV3⟩ : ∃ x, x = V2.alloc (.cells #[.slice (some ⟨r, 0, none⟩) l.length cp] 26) := ⟨_, rfl⟩
  have hb : Below V2.heap.size V2 V3 := by subst hV3; exact (Below.refl _ _).alloc (Nat.le_refl _) _
  have t0 : V3.cell? ⟨V2.heap.size, 0, none⟩ = some (.slice (some ⟨r, 0, none⟩) l.length cp) := by subst hV3; simp [go_sem]
  have tf : ∀ o, V3.frozen? ⟨V2.heap.size, o, none⟩ = false := by subst hV3; intro o; simp [go_sem]
  have tl : V2.heap.size < V3.heap.size := by subst hV3; simp
  rw [← hV3]
  clear hV3
  have tn : V2.heap.size ≠ g := by have := hs2.lt; omega
  have tw : w.heap.size ≤ V2.heap.size := HD.size
  have tW : W.heap.size ≤ V2.heap.size := BV
  replace hs2 := hs2.below hb
  have tz0 : w.heap.size ≠ V2.heap.size := by omega
  have tz1 : (w.heap.size + 1) ≠ V2.heap.size := by omega
  have tz2 : (w.heap.size + 1 + 1) ≠ V2.heap.size := by omega
  have tz3 : (w.heap.size + 1 + 1 + 1) ≠ V2.heap.size := by omega
  replace z00 := ((bcell hb).1 w.heap.size 0 zl0).trans z00
  replace z10 := ((bcell hb).1 (w.heap.size + 1) 0 zl1).trans z10
  replace z11 := ((bcell hb).1 (w.heap.size + 1) 1 zl1).trans z11
  replace z12 := ((bcell hb).1 (w.heap.size + 1) 2 zl1).trans z12
  replace z13 := ((bcell hb).1 (w.heap.size + 1) 3 zl1).trans z13
  replace z14 := ((bcell hb).1 (w.heap.size + 1) 4 zl1).trans z14
  replace z20 := ((bcell hb).1 (w.heap.size + 1 + 1) 0 zl2).trans z20
  replace z30 := ((bcell hb).1 (w.heap.size + 1 + 1 + 1) 0 zl3).trans z30
  replace z31 := ((bcell hb).1 (w.heap.size + 1 + 1 + 1) 1 zl3).trans z31
  replace z32 := ((bcell hb).1 (w.heap.size + 1 + 1 + 1) 2 zl3).trans z32
  replace z33 := ((bcell hb).1 (w.heap.size + 1 + 1 + 1) 3 zl3).trans z33
  replace z34 := ((bcell hb).1 (w.heap.size + 1 + 1 + 1) 4 zl3).trans z34
  replace zf0 := fun o => ((bcell hb).2 w.heap.size o zl0).trans (zf0 o)
  replace zf1 := fun o => ((bcell hb).2 (w.heap.size + 1) o zl1).trans (zf1 o)
  replace zf2 := fun o => ((bcell hb).2 (w.heap.size + 1 + 1) o zl2).trans (zf2 o)
  replace zf3 := fun o => ((bcell hb).2 (w.heap.size + 1 + 1 + 1) o zl3).trans (zf3 o)
  replace Or := Lib.hid (own_keptk Or.out (kept_of_below (g := g) hb) hrg)
  replace zl0 := Nat.lt_of_lt_of_le zl0 hb.size
  replace zl1 := Nat.lt_of_lt_of_le zl1 hb.size
  replace zl2 := Nat.lt_of_lt_of_le zl2 hb.size
  replace zl3 := Nat.lt_of_lt_of_le zl3 hb.size
  replace HD := HD.trans (hb.mono HD.size)
  replace BV := Nat.le_trans BV hb.size
  clear hb
  have trOr : r ≠ V2.heap.size := by omega
  generalize V2.heap.size = T at *
  refine (l05DrawCrossing_c g r W.heap.size cp a n cap l _ hn (by omega) hs2 hrg Or.out).mono ?_
  rintro e V4 ⟨⟨x0, x1, x2, x3, x4, rfl⟩, hs4, hk4⟩
  clear hs2
  replace z00 := ((kcell hk4).1 w.heap.size 0 zl0 zn0).trans z00
  replace z10 := ((kcell hk4).1 (w.heap.size + 1) 0 zl1 zn1).trans z10
  replace z11 := ((kcell hk4).1 (w.heap.size + 1) 1 zl1 zn1).trans z11
  replace z12 := ((kcell hk4).1 (w.heap.size + 1) 2 zl1 zn1).trans z12
  replace z13 := ((kcell hk4).1 (w.heap.size + 1) 3 zl1 zn1).trans z13
  replace z14 := ((kcell hk4).1 (w.heap.size + 1) 4 zl1 zn1).trans z14
  replace z20 := ((kcell hk4).1 (w.heap.size + 1 + 1) 0 zl2 zn2).trans z20
  replace z30 := ((kcell hk4).1 (w.heap.size + 1 + 1 + 1) 0 zl3 zn3).trans z30
  replace z31 := ((kcell hk4).1 (w.heap.size + 1 + 1 + 1) 1 zl3 zn3).trans z31
  replace z32 := ((kcell hk4).1 (w.heap.size + 1 + 1 + 1) 2 zl3 zn3).trans z32
  replace z33 := ((kcell hk4).1 (w.heap.size + 1 + 1 + 1) 3 zl3 zn3).trans z33
  replace z34 := ((kcell hk4).1 (w.heap.size + 1 + 1 + 1) 4 zl3 zn3).trans z34
  replace t0 := ((kcell hk4).1 T 0 tl tn).trans t0
  replace zf0 := fun o => ((kcell hk4).2 w.heap.size o zl0 zn0).trans (zf0 o)
  replace zf1 := fun o => ((kcell hk4).2 (w.heap.size + 1) o zl1 zn1).trans (zf1 o)
  replace zf2 := fun o => ((kcell hk4).2 (w.heap.size + 1 + 1) o zl2 zn2).trans (zf2 o)
  replace zf3 := fun o => ((kcell hk4).2 (w.heap.size + 1 + 1 + 1) o zl3 zn3).trans (zf3 o)
  replace tf := fun o => ((kcell hk4).2 T o tl tn).trans (tf o)
  replace Or := Lib.hid (own_keptk Or.out hk4 hrg)
  replace zl0 := Nat.lt_of_lt_of_le zl0 hk4.size
  replace zl1 := Nat.lt_of_lt_of_le zl1 hk4.size
  replace zl2 := Nat.lt_of_lt_of_le zl2 hk4.size
  replace zl3 := Nat.lt_of_lt_of_le zl3 hk4.size
  replace tl := Nat.lt_of_lt_of_le tl hk4.size
  replace HD := HD.trans (hk4.below hgw HD.size)
  replace BV := Nat.le_trans BV hk4.size
  clear hk4
  replace lr := (Or.out.lt r rfl).2
  go_wp2_with fail
  obtain ⟨V5, hV5⟩ : ∃ x, x = V4.alloc (.cells #[.int .i64 x0, .int .i64 x1, .int .i64 x2, .int .i64 x3, .int .i64 x4] 57) := ⟨_, rfl⟩
  have hb : Below V4.heap.size V4 V5 := by subst hV5; exact (Below.refl _ _).alloc (Nat.le_refl _) _
  have p0 : V5.cell? ⟨V4.heap.size, 0, none⟩ = some (.int .i64 x0) := by subst hV5; simp [go_sem]
  have p1 : V5.cell? ⟨V4.heap.size, 1, none⟩ = some (.int .i64 x1) := by subst hV5; simp [go_sem]
  have p2 : V5.cell? ⟨V4.heap.size, 2, none⟩ = some (.int .i64 x2) := by subst hV5; simp [go_sem]
  have p3 : V5.cell? ⟨V4.heap.size, 3, none⟩ = some (.int .i64 x3) := by subst hV5; simp [go_sem]
  have p4 : V5.cell? ⟨V4.heap.size, 4, none⟩ = some (.int .i64 x4) := by subst hV5; simp [go_sem]
  have pf : ∀ o, V5.frozen? ⟨V4.heap.size, o, none⟩ = false := by subst hV5; intro o; simp [go_sem]
  have psz : V5.heap.size = V4.heap.size + 1 := by subst hV5; simp
  have pl : V4.heap.size < V5.heap.size := by subst hV5; simp
  rw [← hV5]
  clear hV5
  have pn : V4.heap.size ≠ g := by have := hs4.lt; omega
  have pw : w.heap.size ≤ V4.heap.size := HD.size
  have pW : W.heap.size ≤ V4.heap.size := BV
  replace hs4 := hs4.below hb
  have pz0 : w.heap.size ≠ V4.heap.size := by omega
  have pz1 : (w.heap.size + 1) ≠ V4.heap.size := by omega
  have pz2 : (w.heap.size + 1 + 1) ≠ V4.heap.size := by omega
  have pz3 : (w.heap.size + 1 + 1 + 1) ≠ V4.heap.size := by omega
  replace z00 := ((bcell hb).1 w.heap.size 0 zl0).trans z00
  replace z10 := ((bcell hb).1 (w.heap.size + 1) 0 zl1).trans z10
  replace z11 := ((bcell hb).1 (w.heap.size + 1) 1 zl1).trans z11
  replace z12 := ((bcell hb).1 (w.heap.size + 1) 2 zl1).trans z12
  replace z13 := ((bcell hb).1 (w.heap.size + 1) 3 zl1).trans z13
  replace z14 := ((bcell hb).1 (w.heap.size + 1) 4 zl1).trans z14
  replace z20 := ((bcell hb).1 (w.heap.size + 1 + 1) 0 zl2).trans z20
  replace z30 := ((bcell hb).1 (w.heap.size + 1 + 1 + 1) 0 zl3).trans z30
  replace z31 := ((bcell hb).1 (w.heap.size + 1 + 1 + 1) 1 zl3).trans z31
  replace z32 := ((bcell hb).1 (w.heap.size + 1 + 1 + 1) 2 zl3).trans z32
  replace z33 := ((bcell hb).1 (w.heap.size + 1 + 1 + 1) 3 zl3).trans z33
  replace z34 := ((bcell hb).1 (w.heap.size + 1 + 1 + 1) 4 zl3).trans z34
  replace t0 := ((bcell hb).1 T 0 tl).trans t0
  replace zf0 := fun o => ((bcell hb).2 w.heap.size o zl0).trans (zf0 o)
  replace zf1 := fun o => ((bcell hb).2 (w.heap.size + 1) o zl1).trans (zf1 o)
  replace zf2 := fun o => ((bcell hb).2 (w.heap.size + 1 + 1) o zl2).trans (zf2 o)
  replace zf3 := fun o => ((bcell hb).2 (w.heap.size + 1 + 1 + 1) o zl3).trans (zf3 o)
  replace tf := fun o => ((bcell hb).2 T o tl).trans (tf o)
  replace Or := Lib.hid (own_keptk Or.out (kept_of_below (g := g) hb) hrg)
  replace zl0 := Nat.lt_of_lt_of_le zl0 hb.size
  replace zl1 := Nat.lt_of_lt_of_le zl1 hb.size
  replace zl2 := Nat.lt_of_lt_of_le zl2 hb.size
  replace zl3 := Nat.lt_of_lt_of_le zl3 hb.size
  replace tl := Nat.lt_of_lt_of_le tl hb.size
  replace HD := HD.trans (hb.mono HD.size)
  replace BV := Nat.le_trans BV hb.size
  clear hb
  have prOr : r ≠ V4.heap.size := by omega
  generalize V4.heap.size = A at *
  replace lr := (Or.out.lt r rfl).2
  have tV5 := tl
  have pV5 := pl
  go_wp2_with fail
  obtain ⟨V6, hV6⟩ : ∃ x, x = V5.alloc (.cells #[.slice (some ⟨r, 0, none⟩) l.length cp] 26) := ⟨_, rfl⟩
  have hb : Below V5.heap.size V5 V6 := by subst hV6; exact (Below.refl _ _).alloc (Nat.le_refl _) _
  have u0 : V6.cell? ⟨V5.heap.size, 0, none⟩ = some (.slice (some ⟨r, 0, none⟩) l.length cp) := by subst hV6; simp [go_sem]
  have uf : ∀ o, V6.frozen? ⟨V5.heap.size, o, none⟩ = false := by subst hV6; intro o; simp [go_sem]
  have ul : V5.heap.size < V6.heap.size := by subst hV6; simp
  rw [← hV6]
  clear hV6
  have un : V5.heap.size ≠ g := by have := hs4.lt; omega
  have uw : w.heap.size ≤ V5.heap.size := HD.size
  have gU : g < V5.heap.size := hs4.lt
  have nTU : T ≠ V5.heap.size := by omega
  have nAU : A ≠ V5.heap.size := by omega
  have urOr : r ≠ V5.heap.size := by omega
  have uW : W.heap.size ≤ V5.heap.size := BV
  replace hs4 := hs4.below hb
  have uz0 : w.heap.size ≠ V5.heap.size := by omega
  have uz1 : (w.heap.size + 1) ≠ V5.heap.size := by omega
  have uz2 : (w.heap.size + 1 + 1) ≠ V5.heap.size := by omega
  have uz3 : (w.heap.size + 1 + 1 + 1) ≠ V5.heap.size := by omega
  replace z00 := ((bcell hb).1 w.heap.size 0 zl0).trans z00
  replace z10 := ((bcell hb).1 (w.heap.size + 1) 0 zl1).trans z10
  replace z11 := ((bcell hb).1 (w.heap.size + 1) 1 zl1).trans z11
  replace z12 := ((bcell hb).1 (w.heap.size + 1) 2 zl1).trans z12
  replace z13 := ((bcell hb).1 (w.heap.size + 1) 3 zl1).trans z13
  replace z14 := ((bcell hb).1 (w.heap.size + 1) 4 zl1).trans z14
  replace z20 := ((bcell hb).1 (w.heap.size + 1 + 1) 0 zl2).trans z20
  replace z30 := ((bcell hb).1 (w.heap.size + 1 + 1 + 1) 0 zl3).trans z30
  replace z31 := ((bcell hb).1 (w.heap.size + 1 + 1 + 1) 1 zl3).trans z31
  replace z32 := ((bcell hb).1 (w.heap.size + 1 + 1 + 1) 2 zl3).trans z32
  replace z33 := ((bcell hb).1 (w.heap.size + 1 + 1 + 1) 3 zl3).trans z33
  replace z34 := ((bcell hb).1 (w.heap.size + 1 + 1 + 1) 4 zl3).trans z34
  replace t0 := ((bcell hb).1 T 0 tl).trans t0
  replace p0 := ((bcell hb).1 A 0 pl).trans p0
  replace p1 := ((bcell hb).1 A 1 pl).trans p1
  replace p2 := ((bcell hb).1 A 2 pl).trans p2
  replace p3 := ((bcell hb).1 A 3 pl).trans p3
  replace p4 := ((bcell hb).1 A 4 pl).trans p4
  replace zf0 := fun o => ((bcell hb).2 w.heap.size o zl0).trans (zf0 o)
  replace zf1 := fun o => ((bcell hb).2 (w.heap.size + 1) o zl1).trans (zf1 o)
  replace zf2 := fun o => ((bcell hb).2 (w.heap.size + 1 + 1) o zl2).trans (zf2 o)
  replace zf3 := fun o => ((bcell hb).2 (w.heap.size + 1 + 1 + 1) o zl3).trans (zf3 o)
  replace tf := fun o => ((bcell hb).2 T o tl).trans (tf o)
  replace pf := fun o => ((bcell hb).2 A o pl).trans (pf o)
  replace Or := Lib.hid (own_keptk Or.out (kept_of_below (g := g) hb) hrg)
  replace zl0 := Nat.lt_of_lt_of_le zl0 hb.size
  replace zl1 := Nat.lt_of_lt_of_le zl1 hb.size
  replace zl2 := Nat.lt_of_lt_of_le zl2 hb.size
  replace zl3 := Nat.lt_of_lt_of_le zl3 hb.size
  replace tl := Nat.lt_of_lt_of_le tl hb.size
  replace pl := Nat.lt_of_lt_of_le pl hb.size
  replace HD := HD.trans (hb.mono HD.size)
  replace BV := Nat.le_trans BV hb.size
  clear hb
  generalize V5.heap.size = U at *
  rw [← psz]
  replace psz := Lib.hid psz
  refine (l01Next_c g a n cap _ _ hn hs4).mono ?_
  rintro e V7 ⟨⟨q, rfl, hq1, hq2⟩, hs7, hk7⟩
  clear hq1 hq2 hs4
  replace z00 := ((kcell hk7).1 w.heap.size 0 zl0 zn0).trans z00
  replace z10 := ((kcell hk7).1 (w.heap.size + 1) 0 zl1 zn1).trans z10
  replace z11 := ((kcell hk7).1 (w.heap.size + 1) 1 zl1 zn1).trans z11
  replace z12 := ((kcell hk7).1 (w.heap.size + 1) 2 zl1 zn1).trans z12
  replace z13 := ((kcell hk7).1 (w.heap.size + 1) 3 zl1 zn1).trans z13
  replace z14 := ((kcell hk7).1 (w.heap.size + 1) 4 zl1 zn1).trans z14
  replace z20 := ((kcell hk7).1 (w.heap.size + 1 + 1) 0 zl2 zn2).trans z20
  replace z30 := ((kcell hk7).1 (w.heap.size + 1 + 1 + 1) 0 zl3 zn3).trans z30
  replace z31 := ((kcell hk7).1 (w.heap.size + 1 + 1 + 1) 1 zl3 zn3).trans z31
  replace z32 := ((kcell hk7).1 (w.heap.size + 1 + 1 + 1) 2 zl3 zn3).trans z32
  replace z33 := ((kcell hk7).1 (w.heap.size + 1 + 1 + 1) 3 zl3 zn3).trans z33
  replace z34 := ((kcell hk7).1 (w.heap.size + 1 + 1 + 1) 4 zl3 zn3).trans z34
  replace t0 := ((kcell hk7).1 T 0 tl tn).trans t0
  replace p0 := ((kcell hk7).1 A 0 pl pn).trans p0
  replace p1 := ((kcell hk7).1 A 1 pl pn).trans p1
  replace p2 := ((kcell hk7).1 A 2 pl pn).trans p2
  replace p3 := ((kcell hk7).1 A 3 pl pn).trans p3
  replace p4 := ((kcell hk7).1 A 4 pl pn).trans p4
  replace u0 := ((kcell hk7).1 U 0 ul un).trans u0
  replace zf0 := fun o => ((kcell hk7).2 w.heap.size o zl0 zn0).trans (zf0 o)
  replace zf1 := fun o => ((kcell hk7).2 (w.heap.size + 1) o zl1 zn1).trans (zf1 o)
  replace zf2 := fun o => ((kcell hk7).2 (w.heap.size + 1 + 1) o zl2 zn2).trans (zf2 o)
  replace zf3 := fun o => ((kcell hk7).2 (w.heap.size + 1 + 1 + 1) o zl3 zn3).trans (zf3 o)
  replace tf := fun o => ((kcell hk7).2 T o tl tn).trans (tf o)
  replace pf := fun o => ((kcell hk7).2 A o pl pn).trans (pf o)
  replace uf := fun o => ((kcell hk7).2 U o ul un).trans (uf o)
  replace Or := Lib.hid (own_keptk Or.out hk7 hrg)
  replace zl0 := Nat.lt_of_lt_of_le zl0 hk7.size
  replace zl1 := Nat.lt_of_lt_of_le zl1 hk7.size
  replace zl2 := Nat.lt_of_lt_of_le zl2 hk7.size
  replace zl3 := Nat.lt_of_lt_of_le zl3 hk7.size
  replace tl := Nat.lt_of_lt_of_le tl hk7.size
  replace pl := Nat.lt_of_lt_of_le pl hk7.size
  replace ul := Nat.lt_of_lt_of_le ul hk7.size
  replace HD := HD.trans (hk7.below hgw HD.size)
  replace BV := Nat.le_trans BV hk7.size
  clear hk7
  by_cases hq : q = 0
  case pos =>
    subst hq
    go_wp2_with fail
    have hs0 := hs7
    refine (l03DrawAny_c g a n cap _ hn hs7).mono ?_
    rintro e V8 ⟨⟨r', cp', l', rfl, hl0', hl1', ho⟩, hs8, hk8⟩
    clear hs7
    have hU8 := ul
    have BV7 := BV
    replace z00 := ((kcell hk8).1 w.heap.size 0 zl0 zn0).trans z00
    replace z10 := ((kcell hk8).1 (w.heap.size + 1) 0 zl1 zn1).trans z10
    replace z11 := ((kcell hk8).1 (w.heap.size + 1) 1 zl1 zn1).trans z11
    replace z12 := ((kcell hk8).1 (w.heap.size + 1) 2 zl1 zn1).trans z12
    replace z13 := ((kcell hk8).1 (w.heap.size + 1) 3 zl1 zn1).trans z13
    replace z14 := ((kcell hk8).1 (w.heap.size + 1) 4 zl1 zn1).trans z14
    replace z20 := ((kcell hk8).1 (w.heap.size + 1 + 1) 0 zl2 zn2).trans z20
    replace z30 := ((kcell hk8).1 (w.heap.size + 1 + 1 + 1) 0 zl3 zn3).trans z30
    replace z31 := ((kcell hk8).1 (w.heap.size + 1 + 1 + 1) 1 zl3 zn3).trans z31
    replace z32 := ((kcell hk8).1 (w.heap.size + 1 + 1 + 1) 2 zl3 zn3).trans z32
    replace z33 := ((kcell hk8).1 (w.heap.size + 1 + 1 + 1) 3 zl3 zn3).trans z33
    replace z34 := ((kcell hk8).1 (w.heap.size + 1 + 1 + 1) 4 zl3 zn3).trans z34
    replace t0 := ((kcell hk8).1 T 0 tl tn).trans t0
    replace p0 := ((kcell hk8).1 A 0 pl pn).trans p0
    replace p1 := ((kcell hk8).1 A 1 pl pn).trans p1
    replace p2 := ((kcell hk8).1 A 2 pl pn).trans p2
    replace p3 := ((kcell hk8).1 A 3 pl pn).trans p3
    replace p4 := ((kcell hk8).1 A 4 pl pn).trans p4
    replace u0 := ((kcell hk8).1 U 0 ul un).trans u0
    replace zf0 := fun o => ((kcell hk8).2 w.heap.size o zl0 zn0).trans (zf0 o)
    replace zf1 := fun o => ((kcell hk8).2 (w.heap.size + 1) o zl1 zn1).trans (zf1 o)
    replace zf2 := fun o => ((kcell hk8).2 (w.heap.size + 1 + 1) o zl2 zn2).trans (zf2 o)
    replace zf3 := fun o => ((kcell hk8).2 (w.heap.size + 1 + 1 + 1) o zl3 zn3).trans (zf3 o)
    replace tf := fun o => ((kcell hk8).2 T o tl tn).trans (tf o)
    replace pf := fun o => ((kcell hk8).2 A o pl pn).trans (pf o)
    replace uf := fun o => ((kcell hk8).2 U o ul un).trans (uf o)
    replace Or := Lib.hid (own_keptk Or.out hk8 hrg)
    replace zl0 := Nat.lt_of_lt_of_le zl0 hk8.size
    replace zl1 := Nat.lt_of_lt_of_le zl1 hk8.size
    replace zl2 := Nat.lt_of_lt_of_le zl2 hk8.size
    replace zl3 := Nat.lt_of_lt_of_le zl3 hk8.size
    replace tl := Nat.lt_of_lt_of_le tl hk8.size
    replace pl := Nat.lt_of_lt_of_le pl hk8.size
    replace ul := Nat.lt_of_lt_of_le ul hk8.size
    replace HD := HD.trans (hk8.below hgw HD.size)
    replace BV := Nat.le_trans BV hk8.size
    have lr8 := (ho.lt r' rfl).1
    have nrU : r' ≠ U := by omega
    have hrg' : r' ≠ g := by have := hs0.lt; omega
    have Or' := Lib.hid (own_mono ho (show W.heap.size ≤ V7.heap.size by omega))
    clear ho hk8 hs0
    go_wp2_with fail
    obtain ⟨V9, hV9⟩ : ∃ x, x = V8.setCell ⟨U, 0, none⟩ (.slice (some ⟨r', 0, none⟩) l'.length cp') := ⟨_, rfl⟩
    have hX : KX g U V8 V9 := by subst hV9; exact (KX.of (Kept.refl g V8)).set _
    have hs9 : Src g a n cap V9 := by subst hV9; exact hs8.setCell (p := ⟨U, 0, none⟩) gU _
    have u00 : V9.cell? ⟨U, 0, none⟩ = some (.slice (some ⟨r', 0, none⟩) l'.length cp') := by subst hV9; exact World.cell?_setCell_same _ _ _ u0
    have uf0 : ∀ o, V9.frozen? ⟨U, o, none⟩ = false := by subst hV9; intro o; exact (World.frozen?_setCell ..).trans (uf o)
    have HD9 : Below w.heap.size w V9 := by subst hV9; exact HD.setCell (p := ⟨U, 0, none⟩) uw _
    have hsz9 : V9.heap.size = V8.heap.size := by subst hV9; simp [World.setCell]
    rw [← hV9]
    clear hV9 u0 uf HD hs8
    replace z00 := (hX.cell (o := 0) zl0 zn0 uz0).trans z00
    replace z10 := (hX.cell (o := 0) zl1 zn1 uz1).trans z10
    replace z11 := (hX.cell (o := 1) zl1 zn1 uz1).trans z11
    replace z12 := (hX.cell (o := 2) zl1 zn1 uz1).trans z12
    replace z13 := (hX.cell (o := 3) zl1 zn1 uz1).trans z13
    replace z14 := (hX.cell (o := 4) zl1 zn1 uz1).trans z14
    replace z20 := (hX.cell (o := 0) zl2 zn2 uz2).trans z20
    replace z30 := (hX.cell (o := 0) zl3 zn3 uz3).trans z30
    replace z31 := (hX.cell (o := 1) zl3 zn3 uz3).trans z31
    replace z32 := (hX.cell (o := 2) zl3 zn3 uz3).trans z32
    replace z33 := (hX.cell (o := 3) zl3 zn3 uz3).trans z33
    replace z34 := (hX.cell (o := 4) zl3 zn3 uz3).trans z34
    replace t0 := (hX.cell (o := 0) tl tn nTU).trans t0
    replace p0 := (hX.cell (o := 0) pl pn nAU).trans p0
    replace p1 := (hX.cell (o := 1) pl pn nAU).trans p1
    replace p2 := (hX.cell (o := 2) pl pn nAU).trans p2
    replace p3 := (hX.cell (o := 3) pl pn nAU).trans p3
    replace p4 := (hX.cell (o := 4) pl pn nAU).trans p4
    replace zf0 := fun o => (hX.frozen (o := o) zl0 zn0 uz0).trans (zf0 o)
    replace zf1 := fun o => (hX.frozen (o := o) zl1 zn1 uz1).trans (zf1 o)
    replace zf2 := fun o => (hX.frozen (o := o) zl2 zn2 uz2).trans (zf2 o)
    replace zf3 := fun o => (hX.frozen (o := o) zl3 zn3 uz3).trans (zf3 o)
    replace tf := fun o => (hX.frozen (o := o) tl tn nTU).trans (tf o)
    replace pf := fun o => (hX.frozen (o := o) pl pn nAU).trans (pf o)
    replace Or := Lib.hid (hX.own Or.out hrg urOr)
    replace Or' := Lib.hid (hX.own Or'.out hrg' nrU)
    rw [← hsz9] at zl0
    rw [← hsz9] at zl1
    rw [← hsz9] at zl2
    rw [← hsz9] at zl3
    rw [← hsz9] at tl
    rw [← hsz9] at pl
    rw [← hsz9] at ul
    rw [← hsz9] at BV
    clear hX hsz9
    have HD := HD9
    have u0 := u00
    have uf := uf0
    clear HD9 u00 uf0
    refine (l05DrawCrossing_c g r' W.heap.size cp' a n cap l' _ hn (by omega) hs9 hrg' Or'.out).mono ?_
    rintro e X1 ⟨⟨y0, y1, y2, y3, y4, rfl⟩, hsX1, hk⟩
    clear hs9
    replace z00 := ((kcell hk).1 w.heap.size 0 zl0 zn0).trans z00
    replace z10 := ((kcell hk).1 (w.heap.size + 1) 0 zl1 zn1).trans z10
    replace z11 := ((kcell hk).1 (w.heap.size + 1) 1 zl1 zn1).trans z11
    replace z12 := ((kcell hk).1 (w.heap.size + 1) 2 zl1 zn1).trans z12
    replace z13 := ((kcell hk).1 (w.heap.size + 1) 3 zl1 zn1).trans z13
    replace z14 := ((kcell hk).1 (w.heap.size + 1) 4 zl1 zn1).trans z14
    replace z20 := ((kcell hk).1 (w.heap.size + 1 + 1) 0 zl2 zn2).trans z20
    replace z30 := ((kcell hk).1 (w.heap.size + 1 + 1 + 1) 0 zl3 zn3).trans z30
    replace z31 := ((kcell hk).1 (w.heap.size + 1 + 1 + 1) 1 zl3 zn3).trans z31
    replace z32 := ((kcell hk).1 (w.heap.size + 1 + 1 + 1) 2 zl3 zn3).trans z32
    replace z33 := ((kcell hk).1 (w.heap.size + 1 + 1 + 1) 3 zl3 zn3).trans z33
    replace z34 := ((kcell hk).1 (w.heap.size + 1 + 1 + 1) 4 zl3 zn3).trans z34
    replace t0 := ((kcell hk).1 T 0 tl tn).trans t0
    replace p0 := ((kcell hk).1 A 0 pl pn).trans p0
    replace p1 := ((kcell hk).1 A 1 pl pn).trans p1
    replace p2 := ((kcell hk).1 A 2 pl pn).trans p2
    replace p3 := ((kcell hk).1 A 3 pl pn).trans p3
    replace p4 := ((kcell hk).1 A 4 pl pn).trans p4
    replace u0 := ((kcell hk).1 U 0 ul un).trans u0
    replace zf0 := fun o => ((kcell hk).2 w.heap.size o zl0 zn0).trans (zf0 o)
    replace zf1 := fun o => ((kcell hk).2 (w.heap.size + 1) o zl1 zn1).trans (zf1 o)
    replace zf2 := fun o => ((kcell hk).2 (w.heap.size + 1 + 1) o zl2 zn2).trans (zf2 o)
    replace zf3 := fun o => ((kcell hk).2 (w.heap.size + 1 + 1 + 1) o zl3 zn3).trans (zf3 o)
    replace tf := fun o => ((kcell hk).2 T o tl tn).trans (tf o)
    replace pf := fun o => ((kcell hk).2 A o pl pn).trans (pf o)
    replace uf := fun o => ((kcell hk).2 U o ul un).trans (uf o)
    replace Or := Lib.hid (own_keptk Or.out hk hrg)
    replace Or' := Lib.hid (own_keptk Or'.out hk hrg')
    replace zl0 := Nat.lt_of_lt_of_le zl0 hk.size
    replace zl1 := Nat.lt_of_lt_of_le zl1 hk.size
    replace zl2 := Nat.lt_of_lt_of_le zl2 hk.size
    replace zl3 := Nat.lt_of_lt_of_le zl3 hk.size
    replace tl := Nat.lt_of_lt_of_le tl hk.size
    replace pl := Nat.lt_of_lt_of_le pl hk.size
    replace ul := Nat.lt_of_lt_of_le ul hk.size
    replace HD := HD.trans (hk.below hgw HD.size)
    replace BV := Nat.le_trans BV hk.size
    clear hk
    go_wp2_with fail
    obtain ⟨Y1, hY1⟩ : ∃ x, x = X1.alloc (.cells #[.int .i64 y0, .int .i64 y1, .int .i64 y2, .int .i64 y3, .int .i64 y4] 57) := ⟨_, rfl⟩
    have hb : Below X1.heap.size X1 Y1 := by subst hY1; exact (Below.refl _ _).alloc (Nat.le_refl _) _
    have b0 : Y1.cell? ⟨X1.heap.size, 0, none⟩ = some (.int .i64 y0) := by subst hY1; simp [go_sem]
    have b1 : Y1.cell? ⟨X1.heap.size, 1, none⟩ = some (.int .i64 y1) := by subst hY1; simp [go_sem]
    have b2 : Y1.cell? ⟨X1.heap.size, 2, none⟩ = some (.int .i64 y2) := by subst hY1; simp [go_sem]
    have b3 : Y1.cell? ⟨X1.heap.size, 3, none⟩ = some (.int .i64 y3) := by subst hY1; simp [go_sem]
    have b4 : Y1.cell? ⟨X1.heap.size, 4, none⟩ = some (.int .i64 y4) := by subst hY1; simp [go_sem]
    have bf : ∀ o, Y1.frozen? ⟨X1.heap.size, o, none⟩ = false := by subst hY1; intro o; simp [go_sem]
    have bl : X1.heap.size < Y1.heap.size := by subst hY1; simp
    rw [← hY1]
    clear hY1
    have bn : X1.heap.size ≠ g := by have := hsX1.lt; omega
    have bw : w.heap.size ≤ X1.heap.size := HD.size
    have bW : W.heap.size ≤ X1.heap.size := BV
    replace hsX1 := hsX1.below hb
    have bz0 : w.heap.size ≠ X1.heap.size := by omega
    have bz1 : (w.heap.size + 1) ≠ X1.heap.size := by omega
    have bz2 : (w.heap.size + 1 + 1) ≠ X1.heap.size := by omega
    have bz3 : (w.heap.size + 1 + 1 + 1) ≠ X1.heap.size := by omega
    replace z00 := ((bcell hb).1 w.heap.size 0 zl0).trans z00
    replace z10 := ((bcell hb).1 (w.heap.size + 1) 0 zl1).trans z10
    replace z11 := ((bcell hb).1 (w.heap.size + 1) 1 zl1).trans z11
    replace z12 := ((bcell hb).1 (w.heap.size + 1) 2 zl1).trans z12
    replace z13 := ((bcell hb).1 (w.heap.size + 1) 3 zl1).trans z13
    replace z14 := ((bcell hb).1 (w.heap.size + 1) 4 zl1).trans z14
    replace z20 := ((bcell hb).1 (w.heap.size + 1 + 1) 0 zl2).trans z20
    replace z30 := ((bcell hb).1 (w.heap.size + 1 + 1 + 1) 0 zl3).trans z30
    replace z31 := ((bcell hb).1 (w.heap.size + 1 + 1 + 1) 1 zl3).trans z31
    replace z32 := ((bcell hb).1 (w.heap.size + 1 + 1 + 1) 2 zl3).trans z32
    replace z33 := ((bcell hb).1 (w.heap.size + 1 + 1 + 1) 3 zl3).trans z33
    replace z34 := ((bcell hb).1 (w.heap.size + 1 + 1 + 1) 4 zl3).trans z34
    replace t0 := ((bcell hb).1 T 0 tl).trans t0
    replace p0 := ((bcell hb).1 A 0 pl).trans p0
    replace p1 := ((bcell hb).1 A 1 pl).trans p1
    replace p2 := ((bcell hb).1 A 2 pl).trans p2
    replace p3 := ((bcell hb).1 A 3 pl).trans p3
    replace p4 := ((bcell hb).1 A 4 pl).trans p4
    replace u0 := ((bcell hb).1 U 0 ul).trans u0
    replace zf0 := fun o => ((bcell hb).2 w.heap.size o zl0).trans (zf0 o)
    replace zf1 := fun o => ((bcell hb).2 (w.heap.size + 1) o zl1).trans (zf1 o)
    replace zf2 := fun o => ((bcell hb).2 (w.heap.size + 1 + 1) o zl2).trans (zf2 o)
    replace zf3 := fun o => ((bcell hb).2 (w.heap.size + 1 + 1 + 1) o zl3).trans (zf3 o)
    replace tf := fun o => ((bcell hb).2 T o tl).trans (tf o)
    replace pf := fun o => ((bcell hb).2 A o pl).trans (pf o)
    replace uf := fun o => ((bcell hb).2 U o ul).trans (uf o)
    replace Or := Lib.hid (own_keptk Or.out (kept_of_below (g := g) hb) hrg)
    replace Or' := Lib.hid (own_keptk Or'.out (kept_of_below (g := g) hb) hrg')
    replace zl0 := Nat.lt_of_lt_of_le zl0 hb.size
    replace zl1 := Nat.lt_of_lt_of_le zl1 hb.size
    replace zl2 := Nat.lt_of_lt_of_le zl2 hb.size
    replace zl3 := Nat.lt_of_lt_of_le zl3 hb.size
    replace tl := Nat.lt_of_lt_of_le tl hb.size
    replace pl := Nat.lt_of_lt_of_le pl hb.size
    replace ul := Nat.lt_of_lt_of_le ul hb.size
    replace HD := HD.trans (hb.mono HD.size)
    replace BV := Nat.le_trans BV hb.size
    clear hb
    generalize X1.heap.size = Bv at *
    refine (l01Next_c g a n cap _ _ hn hsX1).mono ?_
    rintro e Z1 ⟨⟨q6, rfl, hq1, hq2⟩, hsZ1, hk⟩
    clear hq1 hq2 hsX1
    replace z00 := ((kcell hk).1 w.heap.size 0 zl0 zn0).trans z00
    replace z10 := ((kcell hk).1 (w.heap.size + 1) 0 zl1 zn1).trans z10
    replace z11 := ((kcell hk).1 (w.heap.size + 1) 1 zl1 zn1).trans z11
    replace z12 := ((kcell hk).1 (w.heap.size + 1) 2 zl1 zn1).trans z12
    replace z13 := ((kcell hk).1 (w.heap.size + 1) 3 zl1 zn1).trans z13
    replace z14 := ((kcell hk).1 (w.heap.size + 1) 4 zl1 zn1).trans z14
    replace z20 := ((kcell hk).1 (w.heap.size + 1 + 1) 0 zl2 zn2).trans z20
    replace z30 := ((kcell hk).1 (w.heap.size + 1 + 1 + 1) 0 zl3 zn3).trans z30
    replace z31 := ((kcell hk).1 (w.heap.size + 1 + 1 + 1) 1 zl3 zn3).trans z31
    replace z32 := ((kcell hk).1 (w.heap.size + 1 + 1 + 1) 2 zl3 zn3).trans z32
    replace z33 := ((kcell hk).1 (w.heap.size + 1 + 1 + 1) 3 zl3 zn3).trans z33
    replace z34 := ((kcell hk).1 (w.heap.size + 1 + 1 + 1) 4 zl3 zn3).trans z34
    replace t0 := ((kcell hk).1 T 0 tl tn).trans t0
    replace p0 := ((kcell hk).1 A 0 pl pn).trans p0
    replace p1 := ((kcell hk).1 A 1 pl pn).trans p1
    replace p2 := ((kcell hk).1 A 2 pl pn).trans p2
    replace p3 := ((kcell hk).1 A 3 pl pn).trans p3
    replace p4 := ((kcell hk).1 A 4 pl pn).trans p4
    replace u0 := ((kcell hk).1 U 0 ul un).trans u0
    replace b0 := ((kcell hk).1 Bv 0 bl bn).trans b0
    replace b1 := ((kcell hk).1 Bv 1 bl bn).trans b1
    replace b2 := ((kcell hk).1 Bv 2 bl bn).trans b2
    replace b3 := ((kcell hk).1 Bv 3 bl bn).trans b3
    replace b4 := ((kcell hk).1 Bv 4 bl bn).trans b4
    replace zf0 := fun o => ((kcell hk).2 w.heap.size o zl0 zn0).trans (zf0 o)
    replace zf1 := fun o => ((kcell hk).2 (w.heap.size + 1) o zl1 zn1).trans (zf1 o)
    replace zf2 := fun o => ((kcell hk).2 (w.heap.size + 1 + 1) o zl2 zn2).trans (zf2 o)
    replace zf3 := fun o => ((kcell hk).2 (w.heap.size + 1 + 1 + 1) o zl3 zn3).trans (zf3 o)
    replace tf := fun o => ((kcell hk).2 T o tl tn).trans (tf o)
    replace pf := fun o => ((kcell hk).2 A o pl pn).trans (pf o)
    replace uf := fun o => ((kcell hk).2 U o ul un).trans (uf o)
    replace bf := fun o => ((kcell hk).2 Bv o bl bn).trans (bf o)
    replace Or := Lib.hid (own_keptk Or.out hk hrg)
    replace Or' := Lib.hid (own_keptk Or'.out hk hrg')
    replace zl0 := Nat.lt_of_lt_of_le zl0 hk.size
    replace zl1 := Nat.lt_of_lt_of_le zl1 hk.size
    replace zl2 := Nat.lt_of_lt_of_le zl2 hk.size
    replace zl3 := Nat.lt_of_lt_of_le zl3 hk.size
    replace tl := Nat.lt_of_lt_of_le tl hk.size
    replace pl := Nat.lt_of_lt_of_le pl hk.size
    replace ul := Nat.lt_of_lt_of_le ul hk.size
    replace bl := Nat.lt_of_lt_of_le bl hk.size
    replace HD := HD.trans (hk.below hgw HD.size)
    replace BV := Nat.le_trans BV hk.size
    clear hk
    by_cases hq6 : q6 = 0
    case pos =>
      subst hq6
      go_wp2_with fail
      clear HBy BV BV1
      skip
      go_region_held3 (fun wx => True ∧ ∀ b o, W.heap.size ≤ b → wx.cell? ⟨b, o, none⟩ = Z1.cell? ⟨b, o, none⟩)
        (repeat (first | with_reducible assumption | with_reducible refine res_set ?_ (by first | (simp only; omega) | omega) _ | with_reducible refine res_drew ?_ | with_reducible exact res_refl _ _))
        (fail)
      all_goals go_wp2_with fail
      refine bodyPost_named ?_
      intro Y hY
      obtain ⟨Y00, Y10, Y11, Y12, Y13, Y14, Y20, Y30, Y31, Y32, Y33, Y34⟩ := fin4 hY z00 z10 z11 z12 z13 z14 z20 z30 z31 z32 z33 z34
      have HO1 : FixAt Y (some ⟨r, 0, none⟩) l := fixAt_own (fin4o hY LW Or.out)
      have HO2 : FixAt Y (some ⟨r, 0, none⟩) l := fixAt_own (fin4o hY LW Or.out)
      have HB := fin4b hY HD
      clear hY
      exact bodyPost_ret (v := .tuple #[.agg #[.slice (some ⟨r, 0, none⟩) l.length cp], .agg #[.int .i64 x0, .int .i64 x1, .int .i64 x2, .int .i64 x3, .int .i64 x4], .agg #[.slice (some ⟨r, 0, none⟩) l.length cp], .agg #[.int .i64 x0, .int .i64 x1, .int .i64 x2, .int .i64 x3, .int .i64 x4]]) (by simp [results, Try.results41, go_sem, Y00, Y10, Y11, Y12, Y13, Y14, Y20, Y30, Y31, Y32, Y33, Y34]) rfl ⟨⟨r, cp, l, x0, x1, x2, x3, x4, r, cp, l, x0, x1, x2, x3, x4, rfl, ⟨by omega, by omega⟩, HO1, HO2⟩, HB⟩
    case neg =>
      go_wp2_with fail
      clear HBy BV BV1
      skip
      go_region_held3 (fun wx => True ∧ ∀ b o, W.heap.size ≤ b → wx.cell? ⟨b, o, none⟩ = Z1.cell? ⟨b, o, none⟩)
        (repeat (first | with_reducible assumption | with_reducible refine res_set ?_ (by first | (simp only; omega) | omega) _ | with_reducible refine res_drew ?_ | with_reducible exact res_refl _ _))
        (fail)
      all_goals go_wp2_with fail
      refine bodyPost_named ?_
      intro Y hY
      obtain ⟨Y00, Y10, Y11, Y12, Y13, Y14, Y20, Y30, Y31, Y32, Y33, Y34⟩ := fin4 hY z00 z10 z11 z12 z13 z14 z20 z30 z31 z32 z33 z34
      have HO1 : FixAt Y (some ⟨r, 0, none⟩) l := fixAt_own (fin4o hY LW Or.out)
      have HO2 : FixAt Y (some ⟨r', 0, none⟩) l' := fixAt_own (fin4o hY LW Or'.out)
      have HB := fin4b hY HD
      clear hY
      exact bodyPost_ret (v := .tuple #[.agg #[.slice (some ⟨r, 0, none⟩) l.length cp], .agg #[.int .i64 x0, .int .i64 x1, .int .i64 x2, .int .i64 x3, .int .i64 x4], .agg #[.slice (some ⟨r', 0, none⟩) l'.length cp'], .agg #[.int .i64 y0, .int .i64 y1, .int .i64 y2, .int .i64 y3, .int .i64 y4]]) (by simp [results, Try.results41, go_sem, Y00, Y10, Y11, Y12, Y13, Y14, Y20, Y30, Y31, Y32, Y33, Y34]) rfl ⟨⟨r, cp, l, x0, x1, x2, x3, x4, r', cp', l', y0, y1, y2, y3, y4, rfl, ⟨by omega, by omega⟩, HO1, HO2⟩, HB⟩
  case neg =>
    go_wp2_with fail
    refine (l05DrawCrossing_c g r W.heap.size cp a n cap l _ hn (by omega) hs7 hrg Or.out).mono ?_
    rintro e X2 ⟨⟨y0, y1, y2, y3, y4, rfl⟩, hsX2, hk⟩
    clear hs7
    replace z00 := ((kcell hk).1 w.heap.size 0 zl0 zn0).trans z00
    replace z10 := ((kcell hk).1 (w.heap.size + 1) 0 zl1 zn1).trans z10
    replace z11 := ((kcell hk).1 (w.heap.size + 1) 1 zl1 zn1).trans z11
    replace z12 := ((kcell hk).1 (w.heap.size + 1) 2 zl1 zn1).trans z12
    replace z13 := ((kcell hk).1 (w.heap.size + 1) 3 zl1 zn1).trans z13
    replace z14 := ((kcell hk).1 (w.heap.size + 1) 4 zl1 zn1).trans z14
    replace z20 := ((kcell hk).1 (w.heap.size + 1 + 1) 0 zl2 zn2).trans z20
    replace z30 := ((kcell hk).1 (w.heap.size + 1 + 1 + 1) 0 zl3 zn3).trans z30
    replace z31 := ((kcell hk).1 (w.heap.size + 1 + 1 + 1) 1 zl3 zn3).trans z31
    replace z32 := ((kcell hk).1 (w.heap.size + 1 + 1 + 1) 2 zl3 zn3).trans z32
    replace z33 := ((kcell hk).1 (w.heap.size + 1 + 1 + 1) 3 zl3 zn3).trans z33
    replace z34 := ((kcell hk).1 (w.heap.size + 1 + 1 + 1) 4 zl3 zn3).trans z34
    replace t0 := ((kcell hk).1 T 0 tl tn).trans t0
    replace p0 := ((kcell hk).1 A 0 pl pn).trans p0
    replace p1 := ((kcell hk).1 A 1 pl pn).trans p1
    replace p2 := ((kcell hk).1 A 2 pl pn).trans p2
    replace p3 := ((kcell hk).1 A 3 pl pn).trans p3
    replace p4 := ((kcell hk).1 A 4 pl pn).trans p4
    replace u0 := ((kcell hk).1 U 0 ul un).trans u0
    replace zf0 := fun o => ((kcell hk).2 w.heap.size o zl0 zn0).trans (zf0 o)
    replace zf1 := fun o => ((kcell hk).2 (w.heap.size + 1) o zl1 zn1).trans (zf1 o)
    replace zf2 := fun o => ((kcell hk).2 (w.heap.size + 1 + 1) o zl2 zn2).trans (zf2 o)
    replace zf3 := fun o => ((kcell hk).2 (w.heap.size + 1 + 1 + 1) o zl3 zn3).trans (zf3 o)
    replace tf := fun o => ((kcell hk).2 T o tl tn).trans (tf o)
    replace pf := fun o => ((kcell hk).2 A o pl pn).trans (pf o)
    replace uf := fun o => ((kcell hk).2 U o ul un).trans (uf o)
    replace Or := Lib.hid (own_keptk Or.out hk hrg)
    replace zl0 := Nat.lt_of_lt_of_le zl0 hk.size
    replace zl1 := Nat.lt_of_lt_of_le zl1 hk.size
    replace zl2 := Nat.lt_of_lt_of_le zl2 hk.size
    replace zl3 := Nat.lt_of_lt_of_le zl3 hk.size
    replace tl := Nat.lt_of_lt_of_le tl hk.size
    replace pl := Nat.lt_of_lt_of_le pl hk.size
    replace ul := Nat.lt_of_lt_of_le ul hk.size
    replace HD := HD.trans (hk.below hgw HD.size)
    replace BV := Nat.le_trans BV hk.size
    clear hk
    go_wp2_with fail
    obtain ⟨Y2, hY2⟩ : ∃ x, x = X2.alloc (.cells #[.int .i64 y0, .int .i64 y1, .int .i64 y2, .int .i64 y3, .int .i64 y4] 57) := ⟨_, rfl⟩
    have hb : Below X2.heap.size X2 Y2 := by subst hY2; exact (Below.refl _ _).alloc (Nat.le_refl _) _
    have b0 : Y2.cell? ⟨X2.heap.size, 0, none⟩ = some (.int .i64 y0) := by subst hY2; simp [go_sem]
    have b1 : Y2.cell? ⟨X2.heap.size, 1, none⟩ = some (.int .i64 y1) := by subst hY2; simp [go_sem]
    have b2 : Y2.cell? ⟨X2.heap.size, 2, none⟩ = some (.int .i64 y2) := by subst hY2; simp [go_sem]
    have b3 : Y2.cell? ⟨X2.heap.size, 3, none⟩ = some (.int .i64 y3) := by subst hY2; simp [go_sem]
    have b4 : Y2.cell? ⟨X2.heap.size, 4, none⟩ = some (.int .i64 y4) := by subst hY2; simp [go_sem]
    have bf : ∀ o, Y2.frozen? ⟨X2.heap.size, o, none⟩ = false := by subst hY2; intro o; simp [go_sem]
    have bl : X2.heap.size < Y2.heap.size := by subst hY2; simp
    rw [← hY2]
    clear hY2
    have bn : X2.heap.size ≠ g := by have := hsX2.lt; omega
    have bw : w.heap.size ≤ X2.heap.size := HD.size
    have bW : W.heap.size ≤ X2.heap.size := BV
    replace hsX2 := hsX2.below hb
    have bz0 : w.heap.size ≠ X2.heap.size := by omega
    have bz1 : (w.heap.size + 1) ≠ X2.heap.size := by omega
    have bz2 : (w.heap.size + 1 + 1) ≠ X2.heap.size := by omega
    have bz3 : (w.heap.size + 1 + 1 + 1) ≠ X2.heap.size := by omega
    replace z00 := ((bcell hb).1 w.heap.size 0 zl0).trans z00
    replace z10 := ((bcell hb).1 (w.heap.size + 1) 0 zl1).trans z10
    replace z11 := ((bcell hb).1 (w.heap.size + 1) 1 zl1).trans z11
    replace z12 := ((bcell hb).1 (w.heap.size + 1) 2 zl1).trans z12
    replace z13 := ((bcell hb).1 (w.heap.size + 1) 3 zl1).trans z13
    replace z14 := ((bcell hb).1 (w.heap.size + 1) 4 zl1).trans z14
    replace z20 := ((bcell hb).1 (w.heap.size + 1 + 1) 0 zl2).trans z20
    replace z30 := ((bcell hb).1 (w.heap.size + 1 + 1 + 1) 0 zl3).trans z30
    replace z31 := ((bcell hb).1 (w.heap.size + 1 + 1 + 1) 1 zl3).trans z31
    replace z32 := ((bcell hb).1 (w.heap.size + 1 + 1 + 1) 2 zl3).trans z32
    replace z33 := ((bcell hb).1 (w.heap.size + 1 + 1 + 1) 3 zl3).trans z33
    replace z34 := ((bcell hb).1 (w.heap.size + 1 + 1 + 1) 4 zl3).trans z34
    replace t0 := ((bcell hb).1 T 0 tl).trans t0
    replace p0 := ((bcell hb).1 A 0 pl).trans p0
    replace p1 := ((bcell hb).1 A 1 pl).trans p1
    replace p2 := ((bcell hb).1 A 2 pl).trans p2
    replace p3 := ((bcell hb).1 A 3 pl).trans p3
    replace p4 := ((bcell hb).1 A 4 pl).trans p4
    replace u0 := ((bcell hb).1 U 0 ul).trans u0
    replace zf0 := fun o => ((bcell hb).2 w.heap.size o zl0).trans (zf0 o)
    replace zf1 := fun o => ((bcell hb).2 (w.heap.size + 1) o zl1).trans (zf1 o)
    replace zf2 := fun o => ((bcell hb).2 (w.heap.size + 1 + 1) o zl2).trans (zf2 o)
    replace zf3 := fun o => ((bcell hb).2 (w.heap.size + 1 + 1 + 1) o zl3).trans (zf3 o)
    replace tf := fun o => ((bcell hb).2 T o tl).trans (tf o)
    replace pf := fun o => ((bcell hb).2 A o pl).trans (pf o)
    replace uf := fun o => ((bcell hb).2 U o ul).trans (uf o)
    replace Or := Lib.hid (own_keptk Or.out (kept_of_below (g := g) hb) hrg)
    replace zl0 := Nat.lt_of_lt_of_le zl0 hb.size
    replace zl1 := Nat.lt_of_lt_of_le zl1 hb.size
    replace zl2 := Nat.lt_of_lt_of_le zl2 hb.size
    replace zl3 := Nat.lt_of_lt_of_le zl3 hb.size
    replace tl := Nat.lt_of_lt_of_le tl hb.size
    replace pl := Nat.lt_of_lt_of_le pl hb.size
    replace ul := Nat.lt_of_lt_of_le ul hb.size
    replace HD := HD.trans (hb.mono HD.size)
    replace BV := Nat.le_trans BV hb.size
    clear hb
    generalize X2.heap.size = Bv at *
    refine (l01Next_c g a n cap _ _ hn hsX2).mono ?_
    rintro e Z2 ⟨⟨q6, rfl, hq1, hq2⟩, hsZ2, hk⟩
    clear hq1 hq2 hsX2
    replace z00 := ((kcell hk).1 w.heap.size 0 zl0 zn0).trans z00
    replace z10 := ((kcell hk).1 (w.heap.size + 1) 0 zl1 zn1).trans z10
    replace z11 := ((kcell hk).1 (w.heap.size + 1) 1 zl1 zn1).trans z11
    replace z12 := ((kcell hk).1 (w.heap.size + 1) 2 zl1 zn1).trans z12
    replace z13 := ((kcell hk).1 (w.heap.size + 1) 3 zl1 zn1).trans z13
    replace z14 := ((kcell hk).1 (w.heap.size + 1) 4 zl1 zn1).trans z14
    replace z20 := ((kcell hk).1 (w.heap.size + 1 + 1) 0 zl2 zn2).trans z20
    replace z30 := ((kcell hk).1 (w.heap.size + 1 + 1 + 1) 0 zl3 zn3).trans z30
    replace z31 := ((kcell hk).1 (w.heap.size + 1 + 1 + 1) 1 zl3 zn3).trans z31
    replace z32 := ((kcell hk).1 (w.heap.size + 1 + 1 + 1) 2 zl3 zn3).trans z32
    replace z33 := ((kcell hk).1 (w.heap.size + 1 + 1 + 1) 3 zl3 zn3).trans z33
    replace z34 := ((kcell hk).1 (w.heap.size + 1 + 1 + 1) 4 zl3 zn3).trans z34
    replace t0 := ((kcell hk).1 T 0 tl tn).trans t0
    replace p0 := ((kcell hk).1 A 0 pl pn).trans p0
    replace p1 := ((kcell hk).1 A 1 pl pn).trans p1
    replace p2 := ((kcell hk).1 A 2 pl pn).trans p2
    replace p3 := ((kcell hk).1 A 3 pl pn).trans p3
    replace p4 := ((kcell hk).1 A 4 pl pn).trans p4
    replace u0 := ((kcell hk).1 U 0 ul un).trans u0
    replace b0 := ((kcell hk).1 Bv 0 bl bn).trans b0
    replace b1 := ((kcell hk).1 Bv 1 bl bn).trans b1
    replace b2 := ((kcell hk).1 Bv 2 bl bn).trans b2
    replace b3 := ((kcell hk).1 Bv 3 bl bn).trans b3
    replace b4 := ((kcell hk).1 Bv 4 bl bn).trans b4
    replace zf0 := fun o => ((kcell hk).2 w.heap.size o zl0 zn0).trans (zf0 o)
    replace zf1 := fun o => ((kcell hk).2 (w.heap.size + 1) o zl1 zn1).trans (zf1 o)
    replace zf2 := fun o => ((kcell hk).2 (w.heap.size + 1 + 1) o zl2 zn2).trans (zf2 o)
    replace zf3 := fun o => ((kcell hk).2 (w.heap.size + 1 + 1 + 1) o zl3 zn3).trans (zf3 o)
    replace tf := fun o => ((kcell hk).2 T o tl tn).trans (tf o)
    replace pf := fun o => ((kcell hk).2 A o pl pn).trans (pf o)
    replace uf := fun o => ((kcell hk).2 U o ul un).trans (uf o)
    replace bf := fun o => ((kcell hk).2 Bv o bl bn).trans (bf o)
    replace Or := Lib.hid (own_keptk Or.out hk hrg)
    replace zl0 := Nat.lt_of_lt_of_le zl0 hk.size
    replace zl1 := Nat.lt_of_lt_of_le zl1 hk.size
    replace zl2 := Nat.lt_of_lt_of_le zl2 hk.size
    replace zl3 := Nat.lt_of_lt_of_le zl3 hk.size
    replace tl := Nat.lt_of_lt_of_le tl hk.size
    replace pl := Nat.lt_of_lt_of_le pl hk.size
    replace ul := Nat.lt_of_lt_of_le ul hk.size
    replace bl := Nat.lt_of_lt_of_le bl hk.size
    replace HD := HD.trans (hk.below hgw HD.size)
    replace BV := Nat.le_trans BV hk.size
    clear hk
    by_cases hq6 : q6 = 0
    case pos =>
      subst hq6
      go_wp2_with fail
      clear HBy BV BV1
      skip
      go_region_held3 (fun wx => True ∧ ∀ b o, W.heap.size ≤ b → wx.cell? ⟨b, o, none⟩ = Z2.cell? ⟨b, o, none⟩)
        (repeat (first | with_reducible assumption | with_reducible refine res_set ?_ (by first | (simp only; omega) | omega) _ | with_reducible refine res_drew ?_ | with_reducible exact res_refl _ _))
        (fail)
      all_goals go_wp2_with fail
      refine bodyPost_named ?_
      intro Y hY
      obtain ⟨Y00, Y10, Y11, Y12, Y13, Y14, Y20, Y30, Y31, Y32, Y33, Y34⟩ := fin4 hY z00 z10 z11 z12 z13 z14 z20 z30 z31 z32 z33 z34
      have HO1 : FixAt Y (some ⟨r, 0, none⟩) l := fixAt_own (fin4o hY LW Or.out)
      have HO2 : FixAt Y (some ⟨r, 0, none⟩) l := fixAt_own (fin4o hY LW Or.out)
      have HB := fin4b hY HD
      clear hY
      exact bodyPost_ret (v := .tuple #[.agg #[.slice (some ⟨r, 0, none⟩) l.length cp], .agg #[.int .i64 x0, .int .i64 x1, .int .i64 x2, .int .i64 x3, .int .i64 x4], .agg #[.slice (some ⟨r, 0, none⟩) l.length cp], .agg #[.int .i64 x0, .int .i64 x1, .int .i64 x2, .int .i64 x3, .int .i64 x4]]) (by simp [results, Try.results41, go_sem, Y00, Y10, Y11, Y12, Y13, Y14, Y20, Y30, Y31, Y32, Y33, Y34]) rfl ⟨⟨r, cp, l, x0, x1, x2, x3, x4, r, cp, l, x0, x1, x2, x3, x4, rfl, ⟨by omega, by omega⟩, HO1, HO2⟩, HB⟩
    case neg =>
      go_wp2_with fail
      clear HBy BV BV1
      skip
      go_region_held3 (fun wx => True ∧ ∀ b o, W.heap.size ≤ b → wx.cell? ⟨b, o, none⟩ = Z2.cell? ⟨b, o, none⟩)
        (repeat (first | with_reducible assumption | with_reducible refine res_set ?_ (by first | (simp only; omega) | omega) _ | with_reducible refine res_drew ?_ | with_reducible exact res_refl _ _))
        (fail)
      all_goals go_wp2_with fail
      refine bodyPost_named ?_
      intro Y hY
      obtain ⟨Y00, Y10, Y11, Y12, Y13, Y14, Y20, Y30, Y31, Y32, Y33, Y34⟩ := fin4 hY z00 z10 z11 z12 z13 z14 z20 z30 z31 z32 z33 z34
      have HO1 : FixAt Y (some ⟨r, 0, none⟩) l := fixAt_own (fin4o hY LW Or.out)
      have HO2 : FixAt Y (some ⟨r, 0, none⟩) l := fixAt_own (fin4o hY LW Or.out)
      have HB := fin4b hY HD
      clear hY
      exact bodyPost_ret (v := .tuple #[.agg #[.slice (some ⟨r, 0, none⟩) l.length cp], .agg #[.int .i64 x0, .int .i64 x1, .int .i64 x2, .int .i64 x3, .int .i64 x4], .agg #[.slice (some ⟨r, 0, none⟩) l.length cp], .agg #[.int .i64 y0, .int .i64 y1, .int .i64 y2, .int .i64 y3, .int .i64 y4]]) (by simp [results, Try.results41, go_sem, Y00, Y10, Y11, Y12, Y13, Y14, Y20, Y30, Y31, Y32, Y33, Y34]) rfl ⟨⟨r, cp, l, x0, x1, x2, x3, x4, r, cp, l, y0, y1, y2, y3, y4, rfl, ⟨by omega, by omega⟩, HO1, HO2⟩, HB⟩
end Go.Proofs.Ytdepdkpehbkcjaa
