/-
  General lemmas of the prover's own: rows that grow, and what stays below. No condition; no program is named.
-/
import Derived.Test.YtdepdkpehbkcjaaMark
namespace Go.Proofs.Ytdepdkpehbkcjaa
set_option linter.unusedVariables false
open Go.RowKit Go.Deep

theorem flat3 (t x y : Int) : flat [⟨t, x, y⟩] = [.int .i64 t, .int .i64 x, .int .i64 y] := rfl
theorem one3 (a b c : Int) : ∀ u ∈ [Value.int .i64 a, .int .i64 b, .int .i64 c], u.oneCell' = true := by
  intro u hu
  simp at hu
  rcases hu with rfl | rfl | rfl <;> rfl
theorem own_nil (w : World) (base : Nat) (e : TypeId) : w.ownsRow base e 3 (.slice none 0 0) 0 (flat []) := World.ownsRow_nil _ _ _ _
theorem grown_below {w w' : World} {base : Nat} {row : Option Nat} (h : w.grownBy w' row) (hb : base ≤ w.heap.size) (hr : ∀ k, row = some k → base ≤ k) : Below base w w' :=
  ⟨h.os, h.tape, h.output, h.size, fun k hk => h.block k (by omega) (fun e => by have := hr k e.symm; omega)⟩
theorem held_re2 {W w1 : World} {o u : Obj} (h : Below W.heap.size W ((w1.alloc o).alloc u) ∧ ∀ b o', b < W.heap.size → ((w1.alloc o).alloc u).cell? ⟨b, o', none⟩ = W.cell? ⟨b, o', none⟩) (hw : W.heap.size ≤ w1.heap.size) (o2 : Obj) :
    Below W.heap.size W ((w1.alloc o2).alloc u) ∧ ∀ b o', b < W.heap.size → ((w1.alloc o2).alloc u).cell? ⟨b, o', none⟩ = W.cell? ⟨b, o', none⟩ :=
  held_of ⟨h.1.os, h.1.tape, h.1.output, by simp; omega, fun b hb => by
    rw [Below.heap_alloc _ _ _ (by simp; omega), Below.heap_alloc _ _ _ (by omega)]
    have := h.1.block b hb
    rwa [Below.heap_alloc _ _ _ (by simp; omega), Below.heap_alloc _ _ _ (by omega)] at this⟩
theorem heap_new {w : World} {o : Obj} {n : Nat} (h : w.heap.size = n) : (w.alloc o).heap[n]? = some o := h ▸ heap_alloc_new w o
theorem own_mono {w : World} {base base' size n : Nat} {e : TypeId} {v : Value} {xs : List Value} (h : w.ownsRow base e size v n xs) (hb : base' ≤ base) : w.ownsRow base' e size v n xs := by
  obtain ⟨h1, h2⟩ := h
  refine ⟨h1, ?_⟩
  rcases h2 with h2 | ⟨g, cap, cur, hv, hg, r⟩
  · exact .inl h2
  · exact .inr ⟨g, cap, cur, hv, Nat.le_trans hb hg, r⟩
theorem below_top {X w1 : World} (hb : Below X.heap.size X w1) (h0 : 0 < X.heap.size) :
    w1.cell? ⟨X.heap.size - 1, 0, none⟩ = X.cell? ⟨X.heap.size - 1, 0, none⟩ ∧ w1.cell? ⟨X.heap.size - 1, 1, none⟩ = X.cell? ⟨X.heap.size - 1, 1, none⟩ ∧ w1.frozen? ⟨X.heap.size - 1, 0, none⟩ = X.frozen? ⟨X.heap.size - 1, 0, none⟩ ∧ w1.frozen? ⟨X.heap.size - 1, 1, none⟩ = X.frozen? ⟨X.heap.size - 1, 1, none⟩ ∧
    w1.cell? ⟨X.heap.size - 2, 0, none⟩ = X.cell? ⟨X.heap.size - 2, 0, none⟩ ∧ w1.cell? ⟨X.heap.size - 2, 1, none⟩ = X.cell? ⟨X.heap.size - 2, 1, none⟩ ∧ w1.frozen? ⟨X.heap.size - 2, 0, none⟩ = X.frozen? ⟨X.heap.size - 2, 0, none⟩ ∧ w1.frozen? ⟨X.heap.size - 2, 1, none⟩ = X.frozen? ⟨X.heap.size - 2, 1, none⟩ := by
  obtain ⟨hc, hf⟩ := bcell hb
  exact ⟨hc _ _ (by omega), hc _ _ (by omega), hf _ _ (by omega), hf _ _ (by omega), hc _ _ (by omega), hc _ _ (by omega), hf _ _ (by omega), hf _ _ (by omega)⟩
end Go.Proofs.Ytdepdkpehbkcjaa
