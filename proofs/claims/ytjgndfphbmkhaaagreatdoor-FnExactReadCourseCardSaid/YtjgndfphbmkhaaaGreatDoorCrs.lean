/-
  Courses: how an argument of this type lies in memory. No condition.
-/
import Derived.Test.YtjgndfphbmkhaaaGreatDoorRow
import Derived.Deep.Slices
namespace Go.Proofs.YtjgndfphbmkhaaaGreatDoor
set_option linter.unusedVariables false
open Go.ChangeShapes Go.WideShapes Go.ChangeAt Go.RowKit Go.Deep

/-- a mark -/
structure Mk where
  name : ByteArray
  x : Int
  y : Int
  s : Int
  z : Int
def mflat : List Mk → List Value
  | [] => []
  | m :: l => .string m.name :: .int .i64 m.x :: .int .i64 m.y :: .int .i64 m.s :: .int .i64 m.z :: mflat l
theorem mflat_length : ∀ l : List Mk, (mflat l).length = l.length * 5
  | [] => rfl
  | m :: l => by simp [mflat, mflat_length l]; omega
theorem mflat_append : ∀ a b : List Mk, mflat (a ++ b) = mflat a ++ mflat b
  | [], b => rfl
  | m :: a, b => by simp [mflat, mflat_append a b]
theorem mflat_get : ∀ (l : List Mk) (i : Nat) (m : Mk), l[i]? = some m → (mflat l)[i * 5]? = some (.string m.name) ∧ (mflat l)[i * 5 + 1]? = some (.int .i64 m.x) ∧ (mflat l)[i * 5 + 2]? = some (.int .i64 m.y) ∧ (mflat l)[i * 5 + 3]? = some (.int .i64 m.s) ∧ (mflat l)[i * 5 + 4]? = some (.int .i64 m.z)
  | [], i, m, h => by simp at h
  | c :: l, 0, m, h => by simp at h; subst h; exact ⟨rfl, rfl, rfl, rfl, rfl⟩
  | c :: l, i + 1, m, h => by
    have := mflat_get l i m (by simpa using h)
    rw [show (i + 1) * 5 = i * 5 + 1 + 1 + 1 + 1 + 1 by omega]
    simpa [mflat] using this
def mk (l : List Mk) (i : Nat) : Mk := l.getD i ⟨ByteArray.empty, 0, 0, 0, 0⟩
theorem mk_of {l : List Mk} {i : Nat} (h : i < l.length) : l[i]? = some (mk l i) := by
  unfold mk
  rw [List.getD_eq_getElem?_getD, List.getElem?_eq_getElem h]; rfl

theorem cell_of_row {w : World} (g i : Nat) (cur : Array Value) (e : TypeId) (z : Nat × Nat) (hh : w.heap[g]? = some (.cells cur e)) : w.cell? ⟨g, i, none⟩ = cur[i]? := by
  simp [World.cell?, hh]
theorem mark_cell {w : World} {a : Option Addr} {k : Nat} {l : List Mk} (h : RowAt w a (mflat l)) (hk : k < l.length) : ∃ b off, a = some ⟨b, off, none⟩ ∧ b < w.heap.size ∧ w.cell? ⟨b, off + k * 5, none⟩ = some (.string (mk l k).name) ∧ w.cell? ⟨b, off + k * 5 + 1, none⟩ = some (.int .i64 (mk l k).x) ∧ w.cell? ⟨b, off + k * 5 + 2, none⟩ = some (.int .i64 (mk l k).y) ∧ w.cell? ⟨b, off + k * 5 + 3, none⟩ = some (.int .i64 (mk l k).s) ∧ w.cell? ⟨b, off + k * 5 + 4, none⟩ = some (.int .i64 (mk l k).z) := by
  obtain ⟨f0, f1, f2, f3, f4⟩ := mflat_get l k _ (mk_of hk)
  obtain ⟨b, off, rfl, hlt, hc⟩ := h.head (by rw [mflat_length]; omega)
  exact ⟨b, off, rfl, hlt, hc _ _ f0, hc _ _ f1, hc _ _ f2, hc _ _ f3, hc _ _ f4⟩

end Go.Proofs.YtjgndfphbmkhaaaGreatDoor
