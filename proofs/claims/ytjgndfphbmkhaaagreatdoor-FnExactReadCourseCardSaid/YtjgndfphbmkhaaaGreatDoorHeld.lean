/-
  General lemmas of the prover's own: what is known of a world in the midst of a statement that calls, makes a variable and stores into it. No condition; no program is named.
-/
import Derived.Test.YtjgndfphbmkhaaaGreatDoorBase
import Derived.Deep.DeepCutAuto
import Derived.Deep.RegionHeld3
import Derived.Deep.Light
namespace Go.Proofs.YtjgndfphbmkhaaaGreatDoor
set_option linter.unusedVariables false
open Go.RowKit Go.Deep

/- What is known in the midst: nothing that was in W has changed. (Laid out in place where a tactic must see it.) -/
theorem held_of {W w1 : World} (h : Below W.heap.size W w1) : Below W.heap.size W w1 ∧ ∀ b o, b < W.heap.size → w1.cell? ⟨b, o, none⟩ = W.cell? ⟨b, o, none⟩ := ⟨h, (bcell h).1⟩
theorem held_begin (W : World) : Below W.heap.size W W.drew ∧ ∀ b o, b < W.heap.size → W.drew.cell? ⟨b, o, none⟩ = W.cell? ⟨b, o, none⟩ := held_of (Below.refl _ _).drew
theorem held_step {W w0 w1 : World} (h : Below W.heap.size W w0 ∧ ∀ b o, b < W.heap.size → w0.cell? ⟨b, o, none⟩ = W.cell? ⟨b, o, none⟩) (hb : Below w0.heap.size w0 w1) :
    Below W.heap.size W w1 ∧ ∀ b o, b < W.heap.size → w1.cell? ⟨b, o, none⟩ = W.cell? ⟨b, o, none⟩ := held_of (below_trans h.1 hb)
theorem held_alloc {W w0 : World} (h : Below W.heap.size W w0 ∧ ∀ b o, b < W.heap.size → w0.cell? ⟨b, o, none⟩ = W.cell? ⟨b, o, none⟩) (o : Obj) :
    Below W.heap.size W (w0.alloc o) ∧ ∀ b o', b < W.heap.size → (w0.alloc o).cell? ⟨b, o', none⟩ = W.cell? ⟨b, o', none⟩ := held_of (h.1.alloc h.1.size o)
theorem held_set {W w0 : World} (h : Below W.heap.size W w0 ∧ ∀ b o, b < W.heap.size → w0.cell? ⟨b, o, none⟩ = W.cell? ⟨b, o, none⟩) {p : Addr} (hp : W.heap.size ≤ p.block) (v : Value) :
    Below W.heap.size W (w0.setCell p v) ∧ ∀ b o, b < W.heap.size → (w0.setCell p v).cell? ⟨b, o, none⟩ = W.cell? ⟨b, o, none⟩ := held_of (h.1.setCell hp v)
theorem held_realloc {W w1 : World} {o : Obj} (h : Below W.heap.size W (w1.alloc o) ∧ ∀ b o', b < W.heap.size → (w1.alloc o).cell? ⟨b, o', none⟩ = W.cell? ⟨b, o', none⟩) (hw : W.heap.size ≤ w1.heap.size) (u : Obj) :
    Below W.heap.size W (w1.alloc u) ∧ ∀ b o', b < W.heap.size → (w1.alloc u).cell? ⟨b, o', none⟩ = W.cell? ⟨b, o', none⟩ :=
  held_of ⟨h.1.os, h.1.tape, h.1.output, by simp; omega, fun b hb => by
    rw [Below.heap_alloc _ _ _ (by omega)]
    have := h.1.block b hb
    rwa [Below.heap_alloc _ _ _ (by omega)] at this⟩
theorem held_start (W : World) (o : Obj) :
    Below W.heap.size W (W.alloc o).drew ∧ ∀ b o', b < W.heap.size → (W.alloc o).drew.cell? ⟨b, o', none⟩ = W.cell? ⟨b, o', none⟩ := held_of ((Below.refl _ _).alloc (Nat.le_refl _) o).drew
theorem below_lt {X w1 : World} {o : Obj} (hb : Below (X.alloc o).heap.size (X.alloc o) w1) : X.heap.size < w1.heap.size := by
  have := hb.size
  simp at this
  omega
theorem held_size {W w0 w1 : World} (h : Below W.heap.size W w0 ∧ ∀ b o, b < W.heap.size → w0.cell? ⟨b, o, none⟩ = W.cell? ⟨b, o, none⟩) (hb : Below w0.heap.size w0 w1) : W.heap.size ≤ w1.heap.size := Nat.le_trans h.1.size hb.size
end Go.Proofs.YtjgndfphbmkhaaaGreatDoor
