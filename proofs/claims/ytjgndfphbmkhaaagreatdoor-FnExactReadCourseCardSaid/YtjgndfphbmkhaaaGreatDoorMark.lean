/-
  Filling a row with marks and reading them again; comparing rows of fixes. Conditions: the row is the caller's own; its length is small.
-/
import Derived.Test.YtjgndfphbmkhaaaGreatDoorL03e
import Derived.Test.YtjgndfphbmkhaaaGreatDoorDraw
import Derived.Maps.AppendAt
import Derived.Maps.Range
import Derived.Deep.AppendLies
namespace Go.Proofs.YtjgndfphbmkhaaaGreatDoor
set_option linter.unusedVariables false
open Go.RowKit Go.Deep

def marks (k : Int) (n : Nat) : List Value := (List.range n).map fun (i : Nat) => Value.int .i64 (k + (i : Int))
def mixed (xs : List Value) (k : Int) (m : Nat) : List Value := marks k m ++ xs.drop m
theorem marks_len (k : Int) (n : Nat) : (marks k n).length = n := by simp [marks]
theorem marks_get {k : Int} {n i : Nat} (h : i < n) : (marks k n)[i]? = some (.int .i64 (k + (i : Int))) := by simp [marks, h]
theorem mixed_zero (xs : List Value) (k : Int) : mixed xs k 0 = xs := by simp [mixed, marks]
theorem mixed_all {xs : List Value} {n : Nat} (k : Int) (h : xs.length = n) : mixed xs k n = marks k n := by simp [mixed, h]
theorem mixed_len {xs : List Value} {k : Int} {m : Nat} (h : m ≤ xs.length) : (mixed xs k m).length = xs.length := by simp [mixed, marks_len]; omega
theorem mixed_set {xs : List Value} {k : Int} {m : Nat} (h : m < xs.length) : (mixed xs k m).set m (.int .i64 (k + (m : Int))) = mixed xs k (m + 1) := by
  unfold mixed
  rw [List.set_append_right _ _ (by rw [marks_len]; exact Nat.le_refl _), marks_len, Nat.sub_self, List.drop_eq_getElem_cons h, List.set_cons_zero]
  simp [marks, List.range_succ]
theorem mixed_set3 {xs : List Value} {k : Int} {j : Nat} (h : j * 3 + 2 < xs.length) {z : Int} (hz : z = k + ((j * 3 : Nat) : Int)) :
    (((mixed xs k (j * 3)).set (j * 3) (.int .i64 z)).set (j * 3 + 1) (.int .i64 (z + 1))).set (j * 3 + 2) (.int .i64 (z + 1 + 1)) = mixed xs k ((j + 1) * 3) := by
  subst hz
  rw [mixed_set (by omega), show k + ((j * 3 : Nat) : Int) + 1 = k + ((j * 3 + 1 : Nat) : Int) by omega, mixed_set (by omega),
    show k + ((j * 3 + 1 : Nat) : Int) + 1 = k + ((j * 3 + 2 : Nat) : Int) by omega, mixed_set (by omega), show (j + 1) * 3 = j * 3 + 2 + 1 by omega]
theorem own_some {w : World} {base size n cap : Nat} {e : TypeId} {a : Option Addr} {xs : List Value} (h : w.ownsRow base e size (.slice a n cap) n xs) (hn : 0 < n) : ∃ g, a = some ⟨g, 0, none⟩ ∧ base ≤ g ∧ g < w.heap.size := by
  obtain ⟨g, cap', hv, h1, h2⟩ := h.form hn
  simp at hv
  exact ⟨g, hv.1, h1, h2⟩
end Go.Proofs.YtjgndfphbmkhaaaGreatDoor
