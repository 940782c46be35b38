/-
  A slice of cells, as it lies in a world. No condition.
-/
import Derived.Test.YtjgndfphbmkhaaaGreatDoorL02
import Derived.Deep.Slices
namespace Go.Proofs.YtjgndfphbmkhaaaGreatDoor
set_option linter.unusedVariables false
open Go.ChangeShapes Go.WideShapes Go.ChangeAt Go.RowKit Go.Deep

/-- a slice of cells, as it lies in a world -/
def RowAt (w : World) (a : Option Addr) (xs : List Value) : Prop :=
  ∀ i v, xs[i]? = some v → ∃ b off, a = some ⟨b, off, none⟩ ∧ b < w.heap.size ∧ w.cell? ⟨b, off + i, none⟩ = some v
theorem RowAt.below {w w' : World} {a : Option Addr} {xs : List Value} (h : RowAt w a xs) (hb : Below w.heap.size w w') : RowAt w' a xs := fun i v hv => by
  obtain ⟨b, off, ha, hlt, h0⟩ := h i v hv
  exact ⟨b, off, ha, Nat.lt_of_lt_of_le hlt hb.size, (hb.cell (p := ⟨b, _, none⟩) hlt).trans h0⟩
theorem RowAt.head {w : World} {a : Option Addr} {xs : List Value} (h : RowAt w a xs) (hl : 0 < xs.length) : ∃ b off, a = some ⟨b, off, none⟩ ∧ b < w.heap.size ∧ ∀ i v, xs[i]? = some v → w.cell? ⟨b, off + i, none⟩ = some v := by
  obtain ⟨b, off, ha, hlt, _⟩ := h 0 _ (List.getElem?_eq_getElem hl)
  refine ⟨b, off, ha, hlt, fun i v hv => ?_⟩
  obtain ⟨b', off', ha', _, h0⟩ := h i v hv
  rw [ha] at ha'
  simp at ha'
  obtain ⟨rfl, rfl⟩ := ha'
  exact h0
theorem rowAt_own {w : World} {base g size n cap : Nat} {e : TypeId} {xs : List Value} (h : w.ownsRow base e size (.slice (some ⟨g, 0, none⟩) n cap) n xs) : RowAt w (some ⟨g, 0, none⟩) xs := fun i v hv => by
  have hi : i < n * size := by rw [← h.1]; exact (List.getElem?_eq_some_iff.1 hv).1
  exact ⟨g, 0, rfl, (h.lt g rfl).2, by rw [Nat.zero_add]; exact (h.cellAt i hi).trans hv⟩
end Go.Proofs.YtjgndfphbmkhaaaGreatDoor
