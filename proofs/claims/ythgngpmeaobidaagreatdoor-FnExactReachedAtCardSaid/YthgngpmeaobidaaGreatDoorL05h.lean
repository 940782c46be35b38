/-
  Counting the crossings of a line, and the first of them: the program's and the reference's. Conditions: the cells lie in the world.
-/
import Derived.Test.YthgngpmeaobidaaGreatDoorL05g
namespace Go.Proofs.YthgngpmeaobidaaGreatDoor
set_option linter.unusedVariables false
open Go.RowKit Go.Deep

def cntF (L : List Cr) : Nat → Nat
  | 0 => 0
  | k + 1 => if 0 < (cr L k).way then cntF L k + 1 else cntF L k
theorem cntF_le (L : List Cr) : ∀ k, cntF L k ≤ k
  | 0 => Nat.le_refl _
  | k + 1 => by
    have := cntF_le L k
    unfold cntF
    split <;> omega
theorem cntF_yes {L : List Cr} {k : Nat} (h : 0 < (cr L k).way) : cntF L (k + 1) = cntF L k + 1 := by rw [cntF, if_pos h]
theorem cntF_no {L : List Cr} {k : Nat} (h : ¬ 0 < (cr L k).way) : cntF L (k + 1) = cntF L k := by rw [cntF, if_neg h]
def crL (l : List Fx) (ax ay bx cy : Int) : List Cr := crs l ax ay bx cy (l.length - 1)
theorem crL_len {l : List Fx} {ax ay bx cy : Int} (h : isTrk l = true) : (crL l ax ay bx cy).length ≤ 39 := by
  have h1 := crs_len l ax ay bx cy (l.length - 1)
  have h2 := (isTrk_true h).2.1
  unfold crL; omega
def countR (l : List Fx) (ax ay bx cy : Int) : Int × Int × Int := if isTrk l = true ∧ isSeg ax ay bx cy = true then ((cntF (crL l ax ay bx cy) (crL l ax ay bx cy).length : Nat), ((crL l ax ay bx cy).length : Int) - (cntF (crL l ax ay bx cy) (crL l ax ay bx cy).length : Nat), 0) else (0, 0, 1)
theorem row_cell {w : World} {g k : Nat} {L : List Cr} (h : RowAt w (some ⟨g, 0, none⟩) (crFlat L)) (hk : k < L.length) : w.cell? ⟨g, k * 5, none⟩ = some (.int .i64 (cr L k).t) ∧ w.cell? ⟨g, k * 5 + 1, none⟩ = some (.int .i64 (cr L k).leg) ∧ w.cell? ⟨g, k * 5 + 2, none⟩ = some (.int .i64 (cr L k).way) ∧ w.cell? ⟨g, k * 5 + 3, none⟩ = some (.int .i64 (cr L k).num) ∧ w.cell? ⟨g, k * 5 + 4, none⟩ = some (.int .i64 (cr L k).den) := by
  obtain ⟨f0, f1, f2, f3, f4⟩ := crFlat_get L k _ (cr_of hk)
  have key : ∀ i v, (crFlat L)[i]? = some v → w.cell? ⟨g, i, none⟩ = some v := fun i v hv => by
    obtain ⟨b, off, ha, _, h0⟩ := h i v hv
    simp at ha
    obtain ⟨rfl, rfl⟩ := ha
    rwa [Nat.zero_add] at h0
  exact ⟨key _ _ f0, key _ _ f1, key _ _ f2, key _ _ f3, key _ _ f4⟩
end Go.Proofs.YthgngpmeaobidaaGreatDoor
