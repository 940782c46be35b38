/-
  The laws' own functions on courses: sizes, copies, equality. Conditions stand with each.
-/
import Derived.Test.YtjgndfphbmkhaaaGreatDoorCrsF
namespace Go.Proofs.YtjgndfphbmkhaaaGreatDoor
set_option linter.unusedVariables false
open Go.RowKit Go.Deep

theorem below_hid {n : Nat} {w w' : World} (h : Hid (Below n w w')) : Below n w w' := h.out
def mz0 : Mk := ⟨ByteArray.empty, 0, 0, 0, 0⟩
def mfill (l : List Mk) (k : Nat) : List Mk := l.take k ++ List.replicate (l.length - k) mz0
theorem mfill_len {l : List Mk} {k : Nat} (h : k ≤ l.length) : (mfill l k).length = l.length := by simp [mfill]; omega
theorem mfill_zero (l : List Mk) : mfill l 0 = List.replicate l.length mz0 := by simp [mfill]
theorem mfill_all (l : List Mk) : mfill l l.length = l := by simp [mfill]
theorem mfill_get {l : List Mk} {k : Nat} (h : k < l.length) : (mfill l k)[k]? = some mz0 := by
  unfold mfill
  rw [List.getElem?_append_right (by simp; omega), List.getElem?_replicate, if_pos (by simp; omega)]
theorem mfill_succ {l : List Mk} {k : Nat} (h : k < l.length) : (mfill l k).set k (mk l k) = mfill l (k + 1) := by
  unfold mfill
  rw [List.take_add_one, mk_of h, List.set_append_right _ _ (by simp; omega), show l.length - k = (l.length - (k + 1)) + 1 by omega, List.replicate_succ, List.append_assoc]
  simp [Nat.min_eq_left (Nat.le_of_lt h)]
theorem mflat_set : ∀ (l : List Mk) (k : Nat) (m : Mk), k < l.length → (((((mflat l).set (k * 5) (.string m.name)).set (k * 5 + 1) (.int .i64 m.x)).set (k * 5 + 2) (.int .i64 m.y)).set (k * 5 + 3) (.int .i64 m.s)).set (k * 5 + 4) (.int .i64 m.z) = mflat (l.set k m)
  | [], k, m, h => by simp at h
  | c :: l, 0, m, h => rfl
  | c :: l, k + 1, m, h => by
    have := mflat_set l k m (by simpa using h)
    rw [show (k + 1) * 5 = k * 5 + 1 + 1 + 1 + 1 + 1 by omega]
    simp only [mflat, List.set_cons_succ, show k * 5 + 1 + 1 + 1 + 1 + 1 + 1 = k * 5 + 1 + 1 + 1 + 1 + 1 + 1 from rfl, show k * 5 + 1 + 1 + 1 + 1 + 1 + 2 = (k * 5 + 2) + 1 + 1 + 1 + 1 + 1 by omega, show k * 5 + 1 + 1 + 1 + 1 + 1 + 3 = (k * 5 + 3) + 1 + 1 + 1 + 1 + 1 by omega, show k * 5 + 1 + 1 + 1 + 1 + 1 + 4 = (k * 5 + 4) + 1 + 1 + 1 + 1 + 1 by omega]
    rw [this]
end Go.Proofs.YtjgndfphbmkhaaaGreatDoor
