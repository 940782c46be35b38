/-
  A drawn number, as a natural number; the k-th of some numbers. Conditions: the source lies in the world.
-/
import Derived.Test.YtjgndfphbmkhaaaGreatDoorDraw
namespace Go.Proofs.YtjgndfphbmkhaaaGreatDoor
set_option linter.unusedVariables false
open Go.RowKit Go.Deep

/-- the k-th of some numbers -/
def pk (l : List Int) (k : Nat) : Int := l.getD k 0
section
@[go_sem] theorem get_pk2 (x y : Int) (k : Nat) (hk : k < ([.int .i64 x, .int .i64 y] : List Value).length) : ([.int .i64 x, .int .i64 y] : List Value)[k] = .int .i64 (pk [x, y] k) := by
  obtain rfl | rfl : k = 0 ∨ k = 1 := by simp at hk; omega
  all_goals rfl
@[go_sem] theorem get_pk3 (x y z : Int) (k : Nat) (hk : k < ([.int .i64 x, .int .i64 y, .int .i64 z] : List Value).length) : ([.int .i64 x, .int .i64 y, .int .i64 z] : List Value)[k] = .int .i64 (pk [x, y, z] k) := by
  obtain rfl | rfl | rfl : k = 0 ∨ k = 1 ∨ k = 2 := by simp at hk; omega
  all_goals rfl
@[go_sem] theorem get_pk4 (x y z u : Int) (k : Nat) (hk : k < ([.int .i64 x, .int .i64 y, .int .i64 z, .int .i64 u] : List Value).length) : ([.int .i64 x, .int .i64 y, .int .i64 z, .int .i64 u] : List Value)[k] = .int .i64 (pk [x, y, z, u] k) := by
  obtain rfl | rfl | rfl | rfl : k = 0 ∨ k = 1 ∨ k = 2 ∨ k = 3 := by simp at hk; omega
  all_goals rfl
@[go_sem] theorem get_pk5 (x y z u v : Int) (k : Nat) (hk : k < ([.int .i64 x, .int .i64 y, .int .i64 z, .int .i64 u, .int .i64 v] : List Value).length) : ([.int .i64 x, .int .i64 y, .int .i64 z, .int .i64 u, .int .i64 v] : List Value)[k] = .int .i64 (pk [x, y, z, u, v] k) := by
  obtain rfl | rfl | rfl | rfl | rfl : k = 0 ∨ k = 1 ∨ k = 2 ∨ k = 3 ∨ k = 4 := by simp at hk; omega
  all_goals rfl
@[go_sem] theorem get_pk6 (x y z u v t : Int) (k : Nat) (hk : k < ([.int .i64 x, .int .i64 y, .int .i64 z, .int .i64 u, .int .i64 v, .int .i64 t] : List Value).length) : ([.int .i64 x, .int .i64 y, .int .i64 z, .int .i64 u, .int .i64 v, .int .i64 t] : List Value)[k] = .int .i64 (pk [x, y, z, u, v, t] k) := by
  obtain rfl | rfl | rfl | rfl | rfl | rfl : k = 0 ∨ k = 1 ∨ k = 2 ∨ k = 3 ∨ k = 4 ∨ k = 5 := by simp at hk; omega
  all_goals rfl
end
theorem l01NextN_c (g : Nat) (a : Option Addr) (n cap : Nat) (m : Int) (w : World) (hn : n ≤ 9223372036854775807) (hs : Src g a n cap w) : Calls Tryz.prog 47 #[.pointer (some ⟨g, 0, none⟩), .int .i64 m] w fun e w' => (∃ r : Nat, e = .returned (.int .i64 r) ∧ (1 < m → (r : Int) < m ∧ r < m.toNat) ∧ (m ≤ 1 → r = 0)) ∧ Src g a n cap w' ∧ Kept g w w' :=
  (l01Next_c g a n cap m w hn hs).mono fun e w' ⟨⟨r, he, h1, h2⟩, h⟩ => by
    have h0 : 0 ≤ r := by
      rcases Int.lt_or_le 1 m with h | h
      · exact (h1 h).1
      · rw [h2 h]; omega
    refine ⟨⟨r.toNat, by rw [he, Int.toNat_of_nonneg h0], fun h => by have := h1 h; omega, fun h => by rw [h2 h]; rfl⟩, h⟩
end Go.Proofs.YtjgndfphbmkhaaaGreatDoor
