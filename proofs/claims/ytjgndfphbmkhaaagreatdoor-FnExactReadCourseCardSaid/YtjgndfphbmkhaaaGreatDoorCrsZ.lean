/-
  General lemmas on rows of marks and on worlds in the midst of a statement. No condition; no program is named.
-/
import Derived.Test.YtjgndfphbmkhaaaGreatDoorCrsI
import Derived.Test.YtjgndfphbmkhaaaGreatDoorHeld
import Derived.Maps.AppendAt
import Derived.Lib.LazyBuf
import Derived.Deep.AppendLies
namespace Go.Proofs.YtjgndfphbmkhaaaGreatDoor
set_option linter.unusedVariables false
open Go.RowKit Go.Deep

theorem add_noneC (b off k : Nat) : (⟨b, off, none⟩ : Addr).add k = ⟨b, off + k, none⟩ := by
  unfold Addr.add
  split
  · simp_all
  · rfl
theorem infoMk : (Tryz.prog.info? 47).map (fun i => (i.zero, i.size, i.bytes)) = some (some (.agg #[.string ByteArray.empty, .int .i64 0, .int .i64 0, .int .i64 0, .int .i64 0]), 5, 48) := by kernel_rfl
theorem row_news {w : World} {b off : Nat} {xs : List Value} (h : RowAt w (some ⟨b, off, none⟩) xs) : ∀ j u, xs[j]? = some u → w.cell? ((⟨b, off, none⟩ : Addr).add j) = some u := fun j u hu => by
  obtain ⟨b', off', ha, _, hc⟩ := h j u hu
  simp at ha
  obtain ⟨rfl, rfl⟩ := ha
  rw [add_noneC]
  exact hc
theorem mflat_one : ∀ l : List Mk, ∀ u ∈ mflat l, u.oneCell' = true
  | [], u, h => by simp [mflat] at h
  | m :: l, u, h => by
    simp only [mflat, List.mem_cons] at h
    rcases h with rfl | rfl | rfl | rfl | rfl | h
    · rfl
    · rfl
    · rfl
    · rfl
    · rfl
    · exact mflat_one l u h
theorem own_capG {w : World} {base r n cap size : Nat} {e : TypeId} {xs : List Value} (h : w.ownsRow base e size (.slice (some ⟨r, 0, none⟩) n cap) n xs) : n ≤ cap := by
  obtain ⟨h1, h2⟩ := h
  rcases h2 with ⟨h2, _⟩ | ⟨g', cap', cur, hv', hg, hh, hc, _⟩
  · simp at h2
  · simp at hv'
    obtain ⟨rfl, rfl⟩ := hv'
    omega
theorem own_lit5 (w : World) (o : Obj) (e : TypeId) {base : Nat} (hb : base ≤ w.heap.size) : ((w.alloc o).alloc (.cells #[] e)).ownsRow base e 5 (.slice (some ⟨w.heap.size + 1, 0, none⟩) 0 0) 0 [] := by
  have h := World.ownsRow_lit (base := base) (e := e) (size := 5) (w.alloc o) #[] 0 (by simp; omega) (by unfold maxLen; omega) rfl
  rw [show (w.alloc o).heap.size = w.heap.size + 1 by simp] at h
  exact h
theorem held_set2 {W w0 : World} {B : Nat} (h : Below W.heap.size W w0 ∧ ∀ b o, b < W.heap.size → (w0).cell? ⟨b, o, none⟩ = W.cell? ⟨b, o, none⟩) (hB : W.heap.size ≤ B) (v0 v1 : Value) : Below W.heap.size W ((w0.setCell ⟨B, 0, none⟩ v0).setCell ⟨B, 1, none⟩ v1) ∧ ∀ b o, b < W.heap.size → (((w0.setCell ⟨B, 0, none⟩ v0).setCell ⟨B, 1, none⟩ v1)).cell? ⟨b, o, none⟩ = W.cell? ⟨b, o, none⟩ := (held_set (held_set h (p := ⟨B, 0, none⟩) hB v0) (p := ⟨B, 1, none⟩) hB v1)
theorem held_set4 {W w0 : World} {B : Nat} (h : Below W.heap.size W w0 ∧ ∀ b o, b < W.heap.size → (w0).cell? ⟨b, o, none⟩ = W.cell? ⟨b, o, none⟩) (hB : W.heap.size ≤ B) (v0 v1 v2 v3 : Value) : Below W.heap.size W ((((w0.setCell ⟨B, 0, none⟩ v0).setCell ⟨B, 1, none⟩ v1).setCell ⟨B, 2, none⟩ v2).setCell ⟨B, 3, none⟩ v3) ∧ ∀ b o, b < W.heap.size → (((((w0.setCell ⟨B, 0, none⟩ v0).setCell ⟨B, 1, none⟩ v1).setCell ⟨B, 2, none⟩ v2).setCell ⟨B, 3, none⟩ v3)).cell? ⟨b, o, none⟩ = W.cell? ⟨b, o, none⟩ := (held_set (held_set (held_set (held_set h (p := ⟨B, 0, none⟩) hB v0) (p := ⟨B, 1, none⟩) hB v1) (p := ⟨B, 2, none⟩) hB v2) (p := ⟨B, 3, none⟩) hB v3)
theorem held_set5 {W w0 : World} {B : Nat} (h : Below W.heap.size W w0 ∧ ∀ b o, b < W.heap.size → (w0).cell? ⟨b, o, none⟩ = W.cell? ⟨b, o, none⟩) (hB : W.heap.size ≤ B) (v0 v1 v2 v3 v4 : Value) : Below W.heap.size W (((((w0.setCell ⟨B, 0, none⟩ v0).setCell ⟨B, 1, none⟩ v1).setCell ⟨B, 2, none⟩ v2).setCell ⟨B, 3, none⟩ v3).setCell ⟨B, 4, none⟩ v4) ∧ ∀ b o, b < W.heap.size → ((((((w0.setCell ⟨B, 0, none⟩ v0).setCell ⟨B, 1, none⟩ v1).setCell ⟨B, 2, none⟩ v2).setCell ⟨B, 3, none⟩ v3).setCell ⟨B, 4, none⟩ v4)).cell? ⟨b, o, none⟩ = W.cell? ⟨b, o, none⟩ := (held_set (held_set (held_set (held_set (held_set h (p := ⟨B, 0, none⟩) hB v0) (p := ⟨B, 1, none⟩) hB v1) (p := ⟨B, 2, none⟩) hB v2) (p := ⟨B, 3, none⟩) hB v3) (p := ⟨B, 4, none⟩) hB v4)
theorem held_refl (W : World) : Below W.heap.size W W ∧ ∀ b o, b < W.heap.size → W.cell? ⟨b, o, none⟩ = W.cell? ⟨b, o, none⟩ := held_of (Below.refl _ _)
theorem held_drew {W w1 : World} (h : Below W.heap.size W w1 ∧ ∀ b o, b < W.heap.size → w1.cell? ⟨b, o, none⟩ = W.cell? ⟨b, o, none⟩) : Below W.heap.size W w1.drew ∧ ∀ b o, b < W.heap.size → w1.drew.cell? ⟨b, o, none⟩ = W.cell? ⟨b, o, none⟩ := held_of h.1.drew
theorem held_back {W w1 : World} {o : Obj} (h : Below W.heap.size W (w1.alloc o) ∧ ∀ b o', b < W.heap.size → (w1.alloc o).cell? ⟨b, o', none⟩ = W.cell? ⟨b, o', none⟩) (hw : W.heap.size ≤ w1.heap.size) : Below W.heap.size W w1 ∧ ∀ b o', b < W.heap.size → w1.cell? ⟨b, o', none⟩ = W.cell? ⟨b, o', none⟩ :=
  held_of ⟨h.1.os, h.1.tape, h.1.output, hw, fun b hb => by
    have := h.1.block b hb
    rwa [Below.heap_alloc _ _ _ (by omega)] at this⟩
theorem held_realloc1 {W w1 : World} {o : Obj} (h : Below W.heap.size W (w1.alloc o) ∧ ∀ b o', b < W.heap.size → (w1.alloc o).cell? ⟨b, o', none⟩ = W.cell? ⟨b, o', none⟩) (hw : W.heap.size ≤ w1.heap.size) (u : Obj) : Below W.heap.size W (w1.alloc u) ∧ ∀ b o', b < W.heap.size → (w1.alloc u).cell? ⟨b, o', none⟩ = W.cell? ⟨b, o', none⟩ := held_alloc (held_back h hw) u
theorem held_realloc2 {W w1 : World} {o p : Obj} (h : Below W.heap.size W ((w1.alloc o).alloc p) ∧ ∀ b o', b < W.heap.size → ((w1.alloc o).alloc p).cell? ⟨b, o', none⟩ = W.cell? ⟨b, o', none⟩) (hw : W.heap.size ≤ w1.heap.size) (u v : Obj) : Below W.heap.size W ((w1.alloc u).alloc v) ∧ ∀ b o', b < W.heap.size → ((w1.alloc u).alloc v).cell? ⟨b, o', none⟩ = W.cell? ⟨b, o', none⟩ := held_alloc (held_alloc (held_back (held_back h (by simp; omega)) hw) u) v
theorem held_set9 {W w0 : World} {B : Nat} (h : Below W.heap.size W w0 ∧ ∀ b o, b < W.heap.size → (w0).cell? ⟨b, o, none⟩ = W.cell? ⟨b, o, none⟩) (hB : W.heap.size ≤ B) (v0 v1 v2 v3 v4 v5 v6 v7 v8 : Value) : Below W.heap.size W (((((((((w0.setCell ⟨B, 0, none⟩ v0).setCell ⟨B, 1, none⟩ v1).setCell ⟨B, 2, none⟩ v2).setCell ⟨B, 3, none⟩ v3).setCell ⟨B, 4, none⟩ v4).setCell ⟨B, 5, none⟩ v5).setCell ⟨B, 6, none⟩ v6).setCell ⟨B, 7, none⟩ v7).setCell ⟨B, 8, none⟩ v8) ∧ ∀ b o, b < W.heap.size → ((((((((((w0.setCell ⟨B, 0, none⟩ v0).setCell ⟨B, 1, none⟩ v1).setCell ⟨B, 2, none⟩ v2).setCell ⟨B, 3, none⟩ v3).setCell ⟨B, 4, none⟩ v4).setCell ⟨B, 5, none⟩ v5).setCell ⟨B, 6, none⟩ v6).setCell ⟨B, 7, none⟩ v7).setCell ⟨B, 8, none⟩ v8)).cell? ⟨b, o, none⟩ = W.cell? ⟨b, o, none⟩ := (held_set (held_set (held_set (held_set (held_set (held_set (held_set (held_set (held_set h (p := ⟨B, 0, none⟩) hB v0) (p := ⟨B, 1, none⟩) hB v1) (p := ⟨B, 2, none⟩) hB v2) (p := ⟨B, 3, none⟩) hB v3) (p := ⟨B, 4, none⟩) hB v4) (p := ⟨B, 5, none⟩) hB v5) (p := ⟨B, 6, none⟩) hB v6) (p := ⟨B, 7, none⟩) hB v7) (p := ⟨B, 8, none⟩) hB v8)
end Go.Proofs.YtjgndfphbmkhaaaGreatDoor
