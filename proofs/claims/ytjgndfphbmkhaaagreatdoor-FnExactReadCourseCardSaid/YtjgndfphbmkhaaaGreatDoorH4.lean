/-
  General: a region that stores into a variable of two numbers made before it. No condition; no program is named.
-/
import Derived.Test.YtjgndfphbmkhaaaGreatDoorDraw
namespace Go.Proofs.YtjgndfphbmkhaaaGreatDoor
set_option linter.unusedVariables false
open Go.RowKit Go.Deep

/-- the number in a cell -/
def rd (w : World) (a : Addr) : Int := match w.cell? a with | some (.int _ z) => z | _ => 0
theorem rd_eq {w : World} {a : Addr} {z : Int} (h : w.cell? a = some (.int .i64 z)) : w.cell? a = some (.int .i64 (rd w a)) := by unfold rd; rw [h]
theorem rd_same {w : World} {a : Addr} {z : Int} (h : (w.cell? a).isSome = true) : rd (w.setCell a (.int .i64 z)) a = z := by
  obtain ⟨u, hu⟩ := Option.isSome_iff_exists.1 h
  unfold rd; rw [World.cell?_setCell_same _ _ _ hu]
theorem rd_other {w : World} {a p : Addr} {v : Value} (h : p ≠ a) : rd (w.setCell p v) a = rd w a := by
  unfold rd; rw [World.cell?_setCell_other _ _ _ _ h]
theorem h4_mk {W wx : World} {B : Nat} {z0 z1 : Int} (hk : Kept B W wx) (c0 : wx.cell? ⟨B, 0, none⟩ = some (.int .i64 z0)) (c1 : wx.cell? ⟨B, 1, none⟩ = some (.int .i64 z1)) (f0 : wx.frozen? ⟨B, 0, none⟩ = false) (f1 : wx.frozen? ⟨B, 1, none⟩ = false) :
    ((∀ b o, b < W.heap.size → b ≠ B → wx.cell? ⟨b, o, none⟩ = W.cell? ⟨b, o, none⟩) ∧ wx.cell? ⟨B, 0, none⟩ = some (.int .i64 (rd wx ⟨B, 0, none⟩)) ∧ wx.cell? ⟨B, 1, none⟩ = some (.int .i64 (rd wx ⟨B, 1, none⟩)) ∧ wx.frozen? ⟨B, 0, none⟩ = false ∧ wx.frozen? ⟨B, 1, none⟩ = false ∧ Kept B W wx) := ⟨(kcell hk).1, rd_eq c0, rd_eq c1, f0, f1, hk⟩
theorem h4_set0 {W wx : World} {B : Nat} (h : ((∀ b o, b < W.heap.size → b ≠ B → wx.cell? ⟨b, o, none⟩ = W.cell? ⟨b, o, none⟩) ∧ wx.cell? ⟨B, 0, none⟩ = some (.int .i64 (rd wx ⟨B, 0, none⟩)) ∧ wx.cell? ⟨B, 1, none⟩ = some (.int .i64 (rd wx ⟨B, 1, none⟩)) ∧ wx.frozen? ⟨B, 0, none⟩ = false ∧ wx.frozen? ⟨B, 1, none⟩ = false ∧ Kept B W wx)) (z : Int) : ((∀ b o, b < W.heap.size → b ≠ B → (wx.setCell ⟨B, 0, none⟩ (.int .i64 z)).cell? ⟨b, o, none⟩ = W.cell? ⟨b, o, none⟩) ∧ (wx.setCell ⟨B, 0, none⟩ (.int .i64 z)).cell? ⟨B, 0, none⟩ = some (.int .i64 (rd (wx.setCell ⟨B, 0, none⟩ (.int .i64 z)) ⟨B, 0, none⟩)) ∧ (wx.setCell ⟨B, 0, none⟩ (.int .i64 z)).cell? ⟨B, 1, none⟩ = some (.int .i64 (rd (wx.setCell ⟨B, 0, none⟩ (.int .i64 z)) ⟨B, 1, none⟩)) ∧ (wx.setCell ⟨B, 0, none⟩ (.int .i64 z)).frozen? ⟨B, 0, none⟩ = false ∧ (wx.setCell ⟨B, 0, none⟩ (.int .i64 z)).frozen? ⟨B, 1, none⟩ = false ∧ Kept B W (wx.setCell ⟨B, 0, none⟩ (.int .i64 z))) :=
  h4_mk (h.2.2.2.2.2.setCell (.inl rfl) _) (World.cell?_setCell_same _ _ _ h.2.1) ((World.cell?_setCell_other _ _ _ _ (by simp)).trans h.2.2.1) ((World.frozen?_setCell ..).trans h.2.2.2.1) ((World.frozen?_setCell ..).trans h.2.2.2.2.1)
theorem h4_set1 {W wx : World} {B : Nat} (h : ((∀ b o, b < W.heap.size → b ≠ B → wx.cell? ⟨b, o, none⟩ = W.cell? ⟨b, o, none⟩) ∧ wx.cell? ⟨B, 0, none⟩ = some (.int .i64 (rd wx ⟨B, 0, none⟩)) ∧ wx.cell? ⟨B, 1, none⟩ = some (.int .i64 (rd wx ⟨B, 1, none⟩)) ∧ wx.frozen? ⟨B, 0, none⟩ = false ∧ wx.frozen? ⟨B, 1, none⟩ = false ∧ Kept B W wx)) (z : Int) : ((∀ b o, b < W.heap.size → b ≠ B → (wx.setCell ⟨B, 1, none⟩ (.int .i64 z)).cell? ⟨b, o, none⟩ = W.cell? ⟨b, o, none⟩) ∧ (wx.setCell ⟨B, 1, none⟩ (.int .i64 z)).cell? ⟨B, 0, none⟩ = some (.int .i64 (rd (wx.setCell ⟨B, 1, none⟩ (.int .i64 z)) ⟨B, 0, none⟩)) ∧ (wx.setCell ⟨B, 1, none⟩ (.int .i64 z)).cell? ⟨B, 1, none⟩ = some (.int .i64 (rd (wx.setCell ⟨B, 1, none⟩ (.int .i64 z)) ⟨B, 1, none⟩)) ∧ (wx.setCell ⟨B, 1, none⟩ (.int .i64 z)).frozen? ⟨B, 0, none⟩ = false ∧ (wx.setCell ⟨B, 1, none⟩ (.int .i64 z)).frozen? ⟨B, 1, none⟩ = false ∧ Kept B W (wx.setCell ⟨B, 1, none⟩ (.int .i64 z))) :=
  h4_mk (h.2.2.2.2.2.setCell (.inl rfl) _) ((World.cell?_setCell_other _ _ _ _ (by simp)).trans h.2.1) (World.cell?_setCell_same _ _ _ h.2.2.1) ((World.frozen?_setCell ..).trans h.2.2.2.1) ((World.frozen?_setCell ..).trans h.2.2.2.2.1)
theorem h4_below {W wx w1 : World} {B : Nat} (h : ((∀ b o, b < W.heap.size → b ≠ B → wx.cell? ⟨b, o, none⟩ = W.cell? ⟨b, o, none⟩) ∧ wx.cell? ⟨B, 0, none⟩ = some (.int .i64 (rd wx ⟨B, 0, none⟩)) ∧ wx.cell? ⟨B, 1, none⟩ = some (.int .i64 (rd wx ⟨B, 1, none⟩)) ∧ wx.frozen? ⟨B, 0, none⟩ = false ∧ wx.frozen? ⟨B, 1, none⟩ = false ∧ Kept B W wx)) (hB : B < W.heap.size) (hb : Below wx.heap.size wx w1) : ((∀ b o, b < W.heap.size → b ≠ B → w1.cell? ⟨b, o, none⟩ = W.cell? ⟨b, o, none⟩) ∧ w1.cell? ⟨B, 0, none⟩ = some (.int .i64 (rd w1 ⟨B, 0, none⟩)) ∧ w1.cell? ⟨B, 1, none⟩ = some (.int .i64 (rd w1 ⟨B, 1, none⟩)) ∧ w1.frozen? ⟨B, 0, none⟩ = false ∧ w1.frozen? ⟨B, 1, none⟩ = false ∧ Kept B W w1) := by
  have hlt : B < wx.heap.size := Nat.lt_of_lt_of_le hB h.2.2.2.2.2.size
  exact h4_mk (h.2.2.2.2.2.trans (Kept.of hb)) ((hb.cell (p := ⟨B, 0, none⟩) hlt).trans h.2.1) ((hb.cell (p := ⟨B, 1, none⟩) hlt).trans h.2.2.1) ((hb.frozen (p := ⟨B, 0, none⟩) hlt).trans h.2.2.2.1) ((hb.frozen (p := ⟨B, 1, none⟩) hlt).trans h.2.2.2.2.1)
theorem setCell_isSome {w : World} {a : Addr} {v : Value} (h : ((w.setCell a v).cell? a).isSome = true) : (w.cell? a).isSome = true := by
  cases hb : w.heap[a.block]? with
  | none => simp [World.setCell, World.cell?, Array.getElem?_modify, hb] at h
  | some o =>
    cases o with
    | cells c e f =>
      simp only [World.setCell, World.cell?, Array.getElem?_modify, ↓reduceIte, hb, Option.map_some] at h ⊢
      split at h
      · simp at h
      · rename_i hs
        rw [if_neg hs]
        simpa using h
    | _ => simp [World.setCell, World.cell?, Array.getElem?_modify, hb] at h
theorem h4_vals {W w1 : World} {B : Nat} {x y : Int} (h : ((∀ b o, b < W.heap.size → b ≠ B → ((w1.setCell ⟨B, 0, none⟩ (.int .i64 x)).setCell ⟨B, 1, none⟩ (.int .i64 y)).cell? ⟨b, o, none⟩ = W.cell? ⟨b, o, none⟩) ∧ ((w1.setCell ⟨B, 0, none⟩ (.int .i64 x)).setCell ⟨B, 1, none⟩ (.int .i64 y)).cell? ⟨B, 0, none⟩ = some (.int .i64 (rd ((w1.setCell ⟨B, 0, none⟩ (.int .i64 x)).setCell ⟨B, 1, none⟩ (.int .i64 y)) ⟨B, 0, none⟩)) ∧ ((w1.setCell ⟨B, 0, none⟩ (.int .i64 x)).setCell ⟨B, 1, none⟩ (.int .i64 y)).cell? ⟨B, 1, none⟩ = some (.int .i64 (rd ((w1.setCell ⟨B, 0, none⟩ (.int .i64 x)).setCell ⟨B, 1, none⟩ (.int .i64 y)) ⟨B, 1, none⟩)) ∧ ((w1.setCell ⟨B, 0, none⟩ (.int .i64 x)).setCell ⟨B, 1, none⟩ (.int .i64 y)).frozen? ⟨B, 0, none⟩ = false ∧ ((w1.setCell ⟨B, 0, none⟩ (.int .i64 x)).setCell ⟨B, 1, none⟩ (.int .i64 y)).frozen? ⟨B, 1, none⟩ = false ∧ Kept B W ((w1.setCell ⟨B, 0, none⟩ (.int .i64 x)).setCell ⟨B, 1, none⟩ (.int .i64 y)))) :
    rd ((w1.setCell ⟨B, 0, none⟩ (.int .i64 x)).setCell ⟨B, 1, none⟩ (.int .i64 y)) ⟨B, 0, none⟩ = x ∧ rd ((w1.setCell ⟨B, 0, none⟩ (.int .i64 x)).setCell ⟨B, 1, none⟩ (.int .i64 y)) ⟨B, 1, none⟩ = y := by
  have c0 := h.2.1
  have c1 := h.2.2.1
  rw [World.cell?_setCell_other _ _ _ _ (by simp)] at c0
  refine ⟨?_, rd_same (setCell_isSome (by rw [c1]; rfl))⟩
  rw [rd_other (by simp)]
  exact rd_same (setCell_isSome (by rw [c0]; rfl))
theorem h4_kept {W wx : World} {B : Nat} (h : ((∀ b o, b < W.heap.size → b ≠ B → wx.cell? ⟨b, o, none⟩ = W.cell? ⟨b, o, none⟩) ∧ wx.cell? ⟨B, 0, none⟩ = some (.int .i64 (rd wx ⟨B, 0, none⟩)) ∧ wx.cell? ⟨B, 1, none⟩ = some (.int .i64 (rd wx ⟨B, 1, none⟩)) ∧ wx.frozen? ⟨B, 0, none⟩ = false ∧ wx.frozen? ⟨B, 1, none⟩ = false ∧ Kept B W wx)) : Kept B W wx := h.2.2.2.2.2
theorem kept_end {w w1 w' : World} {g : Nat} (hb : Below w.heap.size w w1) (hg : w.heap.size ≤ g) (hk : Kept g w1 w') : Below w.heap.size w w' := hb.trans (hk.below hg hb.size)
end Go.Proofs.YtjgndfphbmkhaaaGreatDoor
