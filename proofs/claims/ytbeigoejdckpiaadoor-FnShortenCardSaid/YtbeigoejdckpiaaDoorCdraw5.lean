/-
  The draw of the law on shortened courses. Conditions: the code's bytes lie in the world.
-/
import Derived.Test.YtbeigoejdckpiaaDoorCdraw4
namespace Go.Proofs.YtbeigoejdckpiaaDoor
set_option linter.unusedVariables false
open Go.RowKit Go.Deep

def setq4 (w : World) (C : Nat) (v0 v1 v2 v3 : Value) : World := ((((w.setCell ⟨C, 0, none⟩ v0).setCell ⟨C, 1, none⟩ v1).setCell ⟨C, 2, none⟩ v2).setCell ⟨C, 3, none⟩ v3)
theorem setq4_cells {w : World} {C : Nat} (h : ∀ o, o < 4 → ∃ v, w.cell? ⟨C, o, none⟩ = some v) (v0 v1 v2 v3 : Value) : (setq4 w C v0 v1 v2 v3).cell? ⟨C, 0, none⟩ = some v0 ∧ (setq4 w C v0 v1 v2 v3).cell? ⟨C, 1, none⟩ = some v1 ∧ (setq4 w C v0 v1 v2 v3).cell? ⟨C, 2, none⟩ = some v2 ∧ (setq4 w C v0 v1 v2 v3).cell? ⟨C, 3, none⟩ = some v3 := by
  have h' : ∀ o, o < 4 → (w.cell? ⟨C, o, none⟩).isSome = true := fun o ho => by obtain ⟨v, hv⟩ := h o ho; exact isS hv
  unfold setq4
  exact ⟨setO (by decide) (setO (by decide) (setO (by decide) (setS (h' 0 (by decide))))), setO (by decide) (setO (by decide) (setS (isS_set (h' 1 (by decide))))), setO (by decide) (setS (isS_set (isS_set (h' 2 (by decide))))), setS (isS_set (isS_set (isS_set (h' 3 (by decide)))))⟩
theorem setq4_heap (w : World) {C b : Nat} (hb : b ≠ C) (v0 v1 v2 v3 : Value) : (setq4 w C v0 v1 v2 v3).heap[b]? = w.heap[b]? := by
  unfold setq4
  repeat rw [heap_setCell_other _ _ _ _ hb]
theorem setq4_cell (w : World) {C b : Nat} (hb : b ≠ C) (o : Nat) (v0 v1 v2 v3 : Value) : (setq4 w C v0 v1 v2 v3).cell? ⟨b, o, none⟩ = w.cell? ⟨b, o, none⟩ := World.cell?_of_block (w := w) (setq4_heap w hb ..)
theorem setq4_own {w : World} {C base n : Nat} {e : TypeId} {v : Value} {xs : List Value} (h : w.ownsRow base e 5 v n xs) (hC : C < base) (v0 v1 v2 v3 : Value) : (setq4 w C v0 v1 v2 v3).ownsRow base e 5 v n xs := by
  have hC' : v.ownBlock ≠ some C := fun e => by have := (h.lt C e).1; omega
  unfold setq4
  repeat (first | with_reducible exact h | with_reducible refine ownsRow_setCell_other ?_ hC' _)
theorem setq4_below {n C : Nat} {w X : World} (h : Below n w X) (hC : n ≤ C) (v0 v1 v2 v3 : Value) : Below n w (setq4 X C v0 v1 v2 v3) := by
  unfold setq4
  repeat (first | with_reducible exact h | refine Below.setCell ?_ (by simp only; omega) _)
theorem wpNamed5 {P : Program} {c : Code} {Q : Exit → Act → World → Prop} {ac : Act} {w : World} (h : ∀ Y, Y = w → Code.wp P c Q ac Y) : Code.wp P c Q ac w := h w rfl

theorem post94 {P : Program} {fn : Func} {R : Ending → World → Prop} {x : Exit} {ac : Act} {w : World} {Z B : Nat} {v0 v1 v2 v3 v4 v5 v6 v7 v8 u0 u1 u2 u3 : Value} (hc : ∀ o, o < 9 → ∃ v, w.cell? ⟨Z, o, none⟩ = some v) (hd : ∀ o, o < 4 → ∃ v, w.cell? ⟨B, o, none⟩ = some v) (hne : Z ≠ B) (h : ∀ Y, Y = setq4 (set9 w Z v0 v1 v2 v3 v4 v5 v6 v7 v8) B u0 u1 u2 u3 → (Y.cell? ⟨Z, 0, none⟩ = some v0 ∧ Y.cell? ⟨Z, 1, none⟩ = some v1 ∧ Y.cell? ⟨Z, 2, none⟩ = some v2 ∧ Y.cell? ⟨Z, 3, none⟩ = some v3 ∧ Y.cell? ⟨Z, 4, none⟩ = some v4 ∧ Y.cell? ⟨Z, 5, none⟩ = some v5 ∧ Y.cell? ⟨Z, 6, none⟩ = some v6 ∧ Y.cell? ⟨Z, 7, none⟩ = some v7 ∧ Y.cell? ⟨Z, 8, none⟩ = some v8 ∧ Y.cell? ⟨B, 0, none⟩ = some u0 ∧ Y.cell? ⟨B, 1, none⟩ = some u1 ∧ Y.cell? ⟨B, 2, none⟩ = some u2 ∧ Y.cell? ⟨B, 3, none⟩ = some u3) → bodyPost P fn R x ac Y) : bodyPost P fn R x ac (setq4 (set9 w Z v0 v1 v2 v3 v4 v5 v6 v7 v8) B u0 u1 u2 u3) := by
  refine h _ rfl ?_
  obtain ⟨e0, e1, e2, e3, e4, e5, e6, e7, e8⟩ := set9_cells hc v0 v1 v2 v3 v4 v5 v6 v7 v8
  obtain ⟨f0, f1, f2, f3⟩ := setq4_cells (w := set9 w Z v0 v1 v2 v3 v4 v5 v6 v7 v8) (fun o ho => (hd o ho).imp fun _ e => (set9_cell w (Ne.symm hne) o ..).trans e) u0 u1 u2 u3
  exact ⟨(setq4_cell _ hne 0 ..).trans e0, (setq4_cell _ hne 1 ..).trans e1, (setq4_cell _ hne 2 ..).trans e2, (setq4_cell _ hne 3 ..).trans e3, (setq4_cell _ hne 4 ..).trans e4, (setq4_cell _ hne 5 ..).trans e5, (setq4_cell _ hne 6 ..).trans e6, (setq4_cell _ hne 7 ..).trans e7, (setq4_cell _ hne 8 ..).trans e8, f0, f1, f2, f3⟩
theorem post49 {P : Program} {fn : Func} {R : Ending → World → Prop} {x : Exit} {ac : Act} {w : World} {Z B : Nat} {v0 v1 v2 v3 v4 v5 v6 v7 v8 u0 u1 u2 u3 : Value} (hc : ∀ o, o < 9 → ∃ v, w.cell? ⟨Z, o, none⟩ = some v) (hd : ∀ o, o < 4 → ∃ v, w.cell? ⟨B, o, none⟩ = some v) (hne : Z ≠ B) (h : ∀ Y, Y = set9 (setq4 w B u0 u1 u2 u3) Z v0 v1 v2 v3 v4 v5 v6 v7 v8 → (Y.cell? ⟨Z, 0, none⟩ = some v0 ∧ Y.cell? ⟨Z, 1, none⟩ = some v1 ∧ Y.cell? ⟨Z, 2, none⟩ = some v2 ∧ Y.cell? ⟨Z, 3, none⟩ = some v3 ∧ Y.cell? ⟨Z, 4, none⟩ = some v4 ∧ Y.cell? ⟨Z, 5, none⟩ = some v5 ∧ Y.cell? ⟨Z, 6, none⟩ = some v6 ∧ Y.cell? ⟨Z, 7, none⟩ = some v7 ∧ Y.cell? ⟨Z, 8, none⟩ = some v8 ∧ Y.cell? ⟨B, 0, none⟩ = some u0 ∧ Y.cell? ⟨B, 1, none⟩ = some u1 ∧ Y.cell? ⟨B, 2, none⟩ = some u2 ∧ Y.cell? ⟨B, 3, none⟩ = some u3) → bodyPost P fn R x ac Y) : bodyPost P fn R x ac (set9 (setq4 w B u0 u1 u2 u3) Z v0 v1 v2 v3 v4 v5 v6 v7 v8) := by
  refine h _ rfl ?_
  obtain ⟨f0, f1, f2, f3⟩ := setq4_cells hd u0 u1 u2 u3
  obtain ⟨e0, e1, e2, e3, e4, e5, e6, e7, e8⟩ := set9_cells (w := setq4 w B u0 u1 u2 u3) (fun o ho => (hc o ho).imp fun _ e => (setq4_cell w hne o ..).trans e) v0 v1 v2 v3 v4 v5 v6 v7 v8
  exact ⟨e0, e1, e2, e3, e4, e5, e6, e7, e8, (set9_cell _ (Ne.symm hne) 0 ..).trans f0, (set9_cell _ (Ne.symm hne) 1 ..).trans f1, (set9_cell _ (Ne.symm hne) 2 ..).trans f2, (set9_cell _ (Ne.symm hne) 3 ..).trans f3⟩

set_option maxRecDepth 100000 in
set_option maxHeartbeats 4000000 in
theorem DrawShortenCourse_c (a : Option Addr) (n cap : Nat) (w : World) (hn : n ≤ 9223372036854775807) (hb : BytesB w.heap.size w a n) : Calls Tryd.prog 20 #[.slice a n cap] w fun e w' => (∃ (x0 x1 x2 x3 x4 x5 x6 x7 : Int) (a9 : Option Addr) (cp : Nat) (l : List Mk) (k y0 y1 y2 y3 : Int), e = .returned (.tuple #[.agg #[.int .i64 x0, .int .i64 x1, .int .i64 x2, .int .i64 x3, .int .i64 x4, .int .i64 x5, .int .i64 x6, .int .i64 x7, .slice a9 l.length cp], .int .i64 k, .agg #[.int .i64 y0, .int .i64 y1, .int .i64 y2, .int .i64 y3]]) ∧ l.length ≤ 9 ∧ NSm l ∧ w'.ownsRow w.heap.size 64 5 (.slice a9 l.length cp) l.length (mflat l)) ∧ Below w.heap.size w w' := by
  have HB := Lib.hid hb
  clear hb
  go_enter Tryd.func20, Tryd.ntmps20
  go_wp2_with fail
  obtain ⟨W, hW⟩ : ∃ W, W = (w.alloc (.cells #[.int .i64 0, .int .i64 0, .int .i64 0, .int .i64 0, .int .i64 0, .int .i64 0, .int .i64 0, .int .i64 0, .slice none 0 0] 36)).alloc (.cells #[.int .i64 0, .int .i64 0, .int .i64 0, .int .i64 0] 33) := ⟨_, rfl⟩
  have HD : Below w.heap.size w W := by subst hW; exact (by repeat (first | with_reducible exact Below.refl _ _ | with_reducible assumption | with_reducible refine Below.drew ?_ | with_reducible refine Below.alloc ?_ (by first | exact Nat.le_refl _ | (simp; done) | (simp; omega) | omega) _ | with_reducible refine Below.setCell ?_ (by first | exact Nat.le_refl _ | (simp; done) | (simp; omega) | omega) _ | with_reducible refine Below.trans ?_ (Below.mono (by with_reducible assumption) (by first | exact Nat.le_refl _ | (simp; done) | (simp; omega) | omega))))
  have zc : ∀ o, o < 9 → ∃ v, W.cell? ⟨w.heap.size, o, none⟩ = some v := by subst hW; intro o ho; exact (zcell ho).imp fun _ e => cell_allocD e _
  have zf : ∀ o, W.frozen? ⟨w.heap.size, o, none⟩ = false := by subst hW; intro o; simp [go_sem]
  have y0 : W.cell? ⟨w.heap.size + 1, 0, none⟩ = some (.int .i64 0) := by subst hW; simp [go_sem]
  have y1 : W.cell? ⟨w.heap.size + 1, 1, none⟩ = some (.int .i64 0) := by subst hW; simp [go_sem]
  have y2 : W.cell? ⟨w.heap.size + 1, 2, none⟩ = some (.int .i64 0) := by subst hW; simp [go_sem]
  have y3 : W.cell? ⟨w.heap.size + 1, 3, none⟩ = some (.int .i64 0) := by subst hW; simp [go_sem]
  have yf : ∀ o, W.frozen? ⟨w.heap.size + 1, o, none⟩ = false := by subst hW; intro o; simp [go_sem]
  have LY : w.heap.size + 1 < W.heap.size := by subst hW; simp
  have LZ : w.heap.size < W.heap.size := by subst hW; simp; omega
  rw [← hW]
  clear hW
  refine (l01From_c a n cap W hn (bytes_at HB.out HD)).mono ?_
  rintro e V1 ⟨⟨g, rfl, hg, hs1⟩, hb1⟩
  obtain ⟨hc, hf⟩ := bcell hb1
  replace zc := fun o ho => (zc o ho).imp fun _ e => (hc _ o LZ).trans e
  replace zf := fun o => (hf _ o LZ).trans (zf o)
  replace y0 := (hc _ 0 LY).trans y0
  replace y1 := (hc _ 1 LY).trans y1
  replace y2 := (hc _ 2 LY).trans y2
  replace y3 := (hc _ 3 LY).trans y3
  replace yf := fun o => (hf _ o LY).trans (yf o)
  have gY : w.heap.size + 1 ≠ g := by omega
  replace LY := Nat.lt_of_lt_of_le LY hb1.size
  have gZ : w.heap.size ≠ g := by omega
  have LW := LZ
  replace LZ := Nat.lt_of_lt_of_le LZ hb1.size
  clear hc hf
  go_wp2_with fail
  refine (l04DrawAny_c g a n cap V1 hn hs1).mono ?_
  rintro e V2 ⟨⟨x0, x1, x2, x3, x4, x5, x6, x7, a9, cp, l, rfl, hl9, hns, ho⟩, hs2, hk2⟩
  obtain ⟨hc, hf⟩ := kcell hk2
  replace zc := fun o ho => (zc o ho).imp fun _ e => (hc _ o LZ gZ).trans e
  replace zf := fun o => (hf _ o LZ gZ).trans (zf o)
  replace y0 := (hc _ 0 LY gY).trans y0
  replace y1 := (hc _ 1 LY gY).trans y1
  replace y2 := (hc _ 2 LY gY).trans y2
  replace y3 := (hc _ 3 LY gY).trans y3
  replace yf := fun o => (hf _ o LY gY).trans (yf o)
  replace LY := Nat.lt_of_lt_of_le LY hk2.size
  replace LZ := Nat.lt_of_lt_of_le LZ hk2.size
  clear hc hf
  have HK := hk2
  have hWg := hg
  have hgV1 := hs1.lt
  have hWV1 := hb1.size
  clear hs1
  go_wp2_with fail
  obtain ⟨V3, hV3⟩ : ∃ x, x = V2.alloc (.cells #[.int .i64 x0, .int .i64 x1, .int .i64 x2, .int .i64 x3, .int .i64 x4, .int .i64 x5, .int .i64 x6, .int .i64 x7, .slice a9 l.length cp] 36) := ⟨_, rfl⟩
  have hkb : Kept g V2 V3 := by subst hV3; exact (Kept.refl _ _).alloc _
  have hs3 : Src g a n cap V3 := by subst hV3; exact hs2.alloc _
  have c0 : V3.cell? ⟨V2.heap.size, 0, none⟩ = some (.int .i64 x0) := by subst hV3; simp [go_sem]
  have c1 : V3.cell? ⟨V2.heap.size, 1, none⟩ = some (.int .i64 x1) := by subst hV3; simp [go_sem]
  have c2 : V3.cell? ⟨V2.heap.size, 2, none⟩ = some (.int .i64 x2) := by subst hV3; simp [go_sem]
  have c3 : V3.cell? ⟨V2.heap.size, 3, none⟩ = some (.int .i64 x3) := by subst hV3; simp [go_sem]
  have c4 : V3.cell? ⟨V2.heap.size, 4, none⟩ = some (.int .i64 x4) := by subst hV3; simp [go_sem]
  have c5 : V3.cell? ⟨V2.heap.size, 5, none⟩ = some (.int .i64 x5) := by subst hV3; simp [go_sem]
  have c6 : V3.cell? ⟨V2.heap.size, 6, none⟩ = some (.int .i64 x6) := by subst hV3; simp [go_sem]
  have c7 : V3.cell? ⟨V2.heap.size, 7, none⟩ = some (.int .i64 x7) := by subst hV3; simp [go_sem]
  have c8 : V3.cell? ⟨V2.heap.size, 8, none⟩ = some (.slice a9 l.length cp) := by subst hV3; simp [go_sem]
  have LC : V2.heap.size < V3.heap.size := by subst hV3; simp
  have gC : V2.heap.size ≠ g := by have := hs2.lt; omega
  rw [← hV3]
  clear hV3 hs2
  obtain ⟨hc, hf⟩ := kcell hkb
  replace zc := fun o ho => (zc o ho).imp fun _ e => (hc _ o LZ gZ).trans e
  replace zf := fun o => (hf _ o LZ gZ).trans (zf o)
  replace y0 := (hc _ 0 LY gY).trans y0
  replace y1 := (hc _ 1 LY gY).trans y1
  replace y2 := (hc _ 2 LY gY).trans y2
  replace y3 := (hc _ 3 LY gY).trans y3
  replace yf := fun o => (hf _ o LY gY).trans (yf o)
  replace LY := Nat.lt_of_lt_of_le LY hkb.size
  replace LZ := Nat.lt_of_lt_of_le LZ hkb.size
  clear hc hf
  have hO := Lib.hid (own_keptD ho hkb (by omega))
  have HKb := HK.trans hkb
  have hOC := fun j e => (ho.lt j e).2
  clear ho hkb HK hk2
  skip
  generalize V2.heap.size = C at *
  refine (l04DrawLine_c g a n cap V3 hn hs3).mono ?_
  rintro e V4 ⟨⟨l0, l1, l2, l3, rfl⟩, hs4, hk4⟩
  obtain ⟨hc, hf⟩ := kcell hk4
  replace zc := fun o ho => (zc o ho).imp fun _ e => (hc _ o LZ gZ).trans e
  replace zf := fun o => (hf _ o LZ gZ).trans (zf o)
  replace y0 := (hc _ 0 LY gY).trans y0
  replace y1 := (hc _ 1 LY gY).trans y1
  replace y2 := (hc _ 2 LY gY).trans y2
  replace y3 := (hc _ 3 LY gY).trans y3
  replace yf := fun o => (hf _ o LY gY).trans (yf o)
  replace LY := Nat.lt_of_lt_of_le LY hk4.size
  replace LZ := Nat.lt_of_lt_of_le LZ hk4.size
  clear hc hf
  replace c0 := ((kcell hk4).1 C 0 LC gC).trans c0
  replace c1 := ((kcell hk4).1 C 1 LC gC).trans c1
  replace c2 := ((kcell hk4).1 C 2 LC gC).trans c2
  replace c3 := ((kcell hk4).1 C 3 LC gC).trans c3
  replace c4 := ((kcell hk4).1 C 4 LC gC).trans c4
  replace c5 := ((kcell hk4).1 C 5 LC gC).trans c5
  replace c6 := ((kcell hk4).1 C 6 LC gC).trans c6
  replace c7 := ((kcell hk4).1 C 7 LC gC).trans c7
  replace c8 := ((kcell hk4).1 C 8 LC gC).trans c8
  replace LC := Nat.lt_of_lt_of_le LC hk4.size
  replace hO := Lib.hid (own_keptD hO.out hk4 (by omega))
  replace HKb := HKb.trans hk4
  clear hk4 hs3
  go_wp2_with fail
  obtain ⟨V5, hV5⟩ : ∃ x, x = V4.alloc (.cells #[.int .i64 l0, .int .i64 l1, .int .i64 l2, .int .i64 l3] 33) := ⟨_, rfl⟩
  have hk5 : Kept g V4 V5 := by subst hV5; exact (Kept.refl _ _).alloc _
  have hs5 : Src g a n cap V5 := by subst hV5; exact hs4.alloc _
  have d0 : V5.cell? ⟨V4.heap.size, 0, none⟩ = some (.int .i64 l0) := by subst hV5; simp [go_sem]
  have d1 : V5.cell? ⟨V4.heap.size, 1, none⟩ = some (.int .i64 l1) := by subst hV5; simp [go_sem]
  have d2 : V5.cell? ⟨V4.heap.size, 2, none⟩ = some (.int .i64 l2) := by subst hV5; simp [go_sem]
  have d3 : V5.cell? ⟨V4.heap.size, 3, none⟩ = some (.int .i64 l3) := by subst hV5; simp [go_sem]
  have df : ∀ o, V5.frozen? ⟨V4.heap.size, o, none⟩ = false := by subst hV5; intro o; simp [go_sem]
  have LL : V4.heap.size < V5.heap.size := by subst hV5; simp
  have gL : V4.heap.size ≠ g := by have := hs4.lt; omega
  rw [← hV5]
  clear hV5
  have nCB : C < V4.heap.size := LC
  have nZB : w.heap.size + 1 < V4.heap.size := LY
  have nVB : V1.heap.size ≤ V4.heap.size := HKb.size
  obtain ⟨hc, hf⟩ := kcell hk5
  replace zc := fun o ho => (zc o ho).imp fun _ e => (hc _ o LZ gZ).trans e
  replace zf := fun o => (hf _ o LZ gZ).trans (zf o)
  replace y0 := (hc _ 0 LY gY).trans y0
  replace y1 := (hc _ 1 LY gY).trans y1
  replace y2 := (hc _ 2 LY gY).trans y2
  replace y3 := (hc _ 3 LY gY).trans y3
  replace yf := fun o => (hf _ o LY gY).trans (yf o)
  replace LY := Nat.lt_of_lt_of_le LY hk5.size
  replace LZ := Nat.lt_of_lt_of_le LZ hk5.size
  clear hc hf
  replace c0 := ((kcell hk5).1 C 0 LC gC).trans c0
  replace c1 := ((kcell hk5).1 C 1 LC gC).trans c1
  replace c2 := ((kcell hk5).1 C 2 LC gC).trans c2
  replace c3 := ((kcell hk5).1 C 3 LC gC).trans c3
  replace c4 := ((kcell hk5).1 C 4 LC gC).trans c4
  replace c5 := ((kcell hk5).1 C 5 LC gC).trans c5
  replace c6 := ((kcell hk5).1 C 6 LC gC).trans c6
  replace c7 := ((kcell hk5).1 C 7 LC gC).trans c7
  replace c8 := ((kcell hk5).1 C 8 LC gC).trans c8
  replace LC := Nat.lt_of_lt_of_le LC hk5.size
  replace hO := Lib.hid (own_keptD hO.out hk5 (by omega))
  replace HKb := HKb.trans hk5
  clear hk5 hs4
  generalize V4.heap.size = B at *
  have hOB : ∀ o : Nat, (Value.slice a9 l.length cp).ownBlock ≠ some (⟨B, o, none⟩ : Addr).block := fun o e => by have := hOC _ e; simp only at this; omega
  refine (l01NextN_c g a n cap _ V5 hn hs5).mono ?_
  rintro e V6 ⟨⟨q, rfl, hr1, hr2⟩, hs6, hk6⟩
  obtain ⟨hc, hf⟩ := kcell hk6
  replace zc := fun o ho => (zc o ho).imp fun _ e => (hc _ o LZ gZ).trans e
  replace zf := fun o => (hf _ o LZ gZ).trans (zf o)
  replace y0 := (hc _ 0 LY gY).trans y0
  replace y1 := (hc _ 1 LY gY).trans y1
  replace y2 := (hc _ 2 LY gY).trans y2
  replace y3 := (hc _ 3 LY gY).trans y3
  replace yf := fun o => (hf _ o LY gY).trans (yf o)
  replace LY := Nat.lt_of_lt_of_le LY hk6.size
  replace LZ := Nat.lt_of_lt_of_le LZ hk6.size
  clear hc hf
  replace c0 := ((kcell hk6).1 C 0 LC gC).trans c0
  replace c1 := ((kcell hk6).1 C 1 LC gC).trans c1
  replace c2 := ((kcell hk6).1 C 2 LC gC).trans c2
  replace c3 := ((kcell hk6).1 C 3 LC gC).trans c3
  replace c4 := ((kcell hk6).1 C 4 LC gC).trans c4
  replace c5 := ((kcell hk6).1 C 5 LC gC).trans c5
  replace c6 := ((kcell hk6).1 C 6 LC gC).trans c6
  replace c7 := ((kcell hk6).1 C 7 LC gC).trans c7
  replace c8 := ((kcell hk6).1 C 8 LC gC).trans c8
  replace LC := Nat.lt_of_lt_of_le LC hk6.size
  replace hO := Lib.hid (own_keptD hO.out hk6 (by omega))
  replace HKb := HKb.trans hk6
  replace d0 := ((kcell hk6).1 B 0 LL gL).trans d0
  replace d1 := ((kcell hk6).1 B 1 LL gL).trans d1
  replace d2 := ((kcell hk6).1 B 2 LL gL).trans d2
  replace d3 := ((kcell hk6).1 B 3 LL gL).trans d3
  replace df := fun o => ((kcell hk6).2 B o LL gL).trans (df o)
  replace LL := Nat.lt_of_lt_of_le LL hk6.size
  clear hk6 hs5 hr1 hr2
  by_cases hq0 : q = 0
  · subst hq0
    go_upto_region 6 with fail
    refine wpNamed5 ?_
    intro V7 hV7
    have eo : ∀ b o, b ≠ B → V7.cell? ⟨b, o, none⟩ = V6.cell? ⟨b, o, none⟩ := fun b o hb => by rw [hV7]; exact (World.cell?_of_block (heap_setCell_other _ ⟨B, 3, none⟩ b _ hb)).trans (World.cell?_of_block (heap_setCell_other _ ⟨B, 2, none⟩ b _ hb))
    have ef : ∀ p, V7.frozen? p = V6.frozen? p := fun p => by rw [hV7, World.frozen?_setCell, World.frozen?_setCell]
    have es : V7.heap.size = V6.heap.size := by rw [hV7]; simp [World.setCell]
    have hs7 : Src g a n cap V7 := by rw [hV7]; exact (hs6.setCell (p := ⟨B, 2, none⟩) (show g < B by omega) _).setCell (p := ⟨B, 3, none⟩) (show g < B by omega) _
    replace HKb : Kept g V1 V7 := by rw [hV7]; exact (HKb.setCell (p := ⟨B, 2, none⟩) (.inr nVB) _).setCell (p := ⟨B, 3, none⟩) (.inr nVB) _
    replace hO : Hid (V7.ownsRow V1.heap.size 64 5 (.slice a9 l.length cp) l.length (mflat l)) := Lib.hid (by rw [hV7]; exact ownsRow_setCell_other (a := ⟨B, 3, none⟩) (ownsRow_setCell_other (a := ⟨B, 2, none⟩) hO.out (hOB 2) _) (hOB 3) _)
    replace d0 : V7.cell? ⟨B, 0, none⟩ = some (.int .i64 l0) := by rw [hV7]; exact setO (by decide) (setO (by decide) d0)
    replace d1 : V7.cell? ⟨B, 1, none⟩ = some (.int .i64 l1) := by rw [hV7]; exact setO (by decide) (setO (by decide) d1)
    replace d2 : V7.cell? ⟨B, 2, none⟩ = some (.int .i64 l0) := by rw [hV7]; exact setO (by decide) (setS (isS d2))
    replace d3 : V7.cell? ⟨B, 3, none⟩ = some (.int .i64 l1) := by rw [hV7]; exact setS (isS_set (isS d3))
    replace c0 := (eo C 0 (by omega)).trans c0
    replace c1 := (eo C 1 (by omega)).trans c1
    replace c2 := (eo C 2 (by omega)).trans c2
    replace c3 := (eo C 3 (by omega)).trans c3
    replace c4 := (eo C 4 (by omega)).trans c4
    replace c5 := (eo C 5 (by omega)).trans c5
    replace c6 := (eo C 6 (by omega)).trans c6
    replace c7 := (eo C 7 (by omega)).trans c7
    replace c8 := (eo C 8 (by omega)).trans c8
    replace y0 := (eo _ 0 (by omega)).trans y0
    replace y1 := (eo _ 1 (by omega)).trans y1
    replace y2 := (eo _ 2 (by omega)).trans y2
    replace y3 := (eo _ 3 (by omega)).trans y3
    replace zc := fun o ho => (zc o ho).imp fun _ e => (eo w.heap.size o (by omega)).trans e
    replace zf := fun o => (ef _).trans (zf o)
    replace yf := fun o => (ef _).trans (yf o)
    rw [← es] at LC LZ LY LL
    clear hV7 eo ef es hs6 df
    obtain ⟨z0, e0⟩ := zc 0 (by decide)
    obtain ⟨z1, e1⟩ := zc 1 (by decide)
    obtain ⟨z2, e2⟩ := zc 2 (by decide)
    obtain ⟨z3, e3⟩ := zc 3 (by decide)
    obtain ⟨z4, e4⟩ := zc 4 (by decide)
    obtain ⟨z5, e5⟩ := zc 5 (by decide)
    obtain ⟨z6, e6⟩ := zc 6 (by decide)
    obtain ⟨z7, e7⟩ := zc 7 (by decide)
    obtain ⟨z8, e8⟩ := zc 8 (by decide)
    have hzc := Lib.hid zc
    have hsV := Lib.hid hs7
    clear zc
    have hL := Lib.hid (show l.length ≤ 9 from hl9)
    go_wp2_with fail
    go_region_with (go_at_call 59; refine (l01Next_c g a n cap _ _ hn (by first | exact hsV.out.drew | exact hsV.out)).mono ?_; rintro e w1 ⟨⟨kq, rfl, hq1, hq2⟩, hsq, HK⟩; clear hq1 hq2; have hK1 : Kept g V7 w1 := (by first | exact HK | exact (Kept.refl g V7).drew.trans HK); have t0 := ((kcell hK1).1 C 0 LC gC).trans c0; have t1 := ((kcell hK1).1 C 1 LC gC).trans c1; have t2 := ((kcell hK1).1 C 2 LC gC).trans c2; have t3 := ((kcell hK1).1 C 3 LC gC).trans c3; have t4 := ((kcell hK1).1 C 4 LC gC).trans c4; have t5 := ((kcell hK1).1 C 5 LC gC).trans c5; have t6 := ((kcell hK1).1 C 6 LC gC).trans c6; have t7 := ((kcell hK1).1 C 7 LC gC).trans c7; have t8 := ((kcell hK1).1 C 8 LC gC).trans c8; have q0 := ((kcell hK1).1 _ 0 LZ gZ).trans e0; have q1 := ((kcell hK1).1 _ 1 LZ gZ).trans e1; have q2 := ((kcell hK1).1 _ 2 LZ gZ).trans e2; have q3 := ((kcell hK1).1 _ 3 LZ gZ).trans e3; have q4 := ((kcell hK1).1 _ 4 LZ gZ).trans e4; have q5 := ((kcell hK1).1 _ 5 LZ gZ).trans e5; have q6 := ((kcell hK1).1 _ 6 LZ gZ).trans e6; have q7 := ((kcell hK1).1 _ 7 LZ gZ).trans e7; have q8 := ((kcell hK1).1 _ 8 LZ gZ).trans e8; have r0 := ((kcell hK1).1 _ 0 LY gY).trans y0; have r1 := ((kcell hK1).1 _ 1 LY gY).trans y1; have r2 := ((kcell hK1).1 _ 2 LY gY).trans y2; have r3 := ((kcell hK1).1 _ 3 LY gY).trans y3; have s0 := ((kcell hK1).1 B 0 LL gL).trans d0; have s1 := ((kcell hK1).1 B 1 LL gL).trans d1; have s2 := ((kcell hK1).1 B 2 LL gL).trans d2; have s3 := ((kcell hK1).1 B 3 LL gL).trans d3; have qf := fun o => ((kcell hK1).2 _ o LZ gZ).trans (zf o); have rf := fun o => ((kcell hK1).2 _ o LY gY).trans (yf o); have hzz := Lib.hid (fun o ho => (hzc.out o ho).imp fun _ e => ((kcell hK1).1 _ o LZ gZ).trans e))
    all_goals go_wp2_with fail
    all_goals
      have hyy := Lib.hid (fun o (ho : o < 4) => (show ∃ v, w1.cell? ⟨w.heap.size + 1, o, none⟩ = some v from by (match o, ho with | 0, _ => exact ⟨_, r0⟩ | 1, _ => exact ⟨_, r1⟩ | 2, _ => exact ⟨_, r2⟩ | 3, _ => exact ⟨_, r3⟩)))
      first
      | (refine post94 hzz.out hyy.out (by omega) (v0 := .int .i64 x0) (v1 := .int .i64 x1) (v2 := .int .i64 x2) (v3 := .int .i64 x3) (v4 := .int .i64 x4) (v5 := .int .i64 x5) (v6 := .int .i64 x6) (v7 := .int .i64 x7) (v8 := .slice a9 l.length cp) (u0 := .int .i64 l0) (u1 := .int .i64 l1) (u2 := .int .i64 l0) (u3 := .int .i64 l1) ?_; intro Y hY ⟨f0, f1, f2, f3, f4, f5, f6, f7, f8, h0, h1, h2, h3⟩; exact bodyPost_ret (v := .tuple #[.agg #[.int .i64 x0, .int .i64 x1, .int .i64 x2, .int .i64 x3, .int .i64 x4, .int .i64 x5, .int .i64 x6, .int .i64 x7, .slice a9 l.length cp], .int .i64 kq, .agg #[.int .i64 l0, .int .i64 l1, .int .i64 l0, .int .i64 l1]]) (by simp [results, Tryd.results20, go_sem, f0, f1, f2, f3, f4, f5, f6, f7, f8, h0, h1, h2, h3]) rfl ⟨⟨x0, x1, x2, x3, x4, x5, x6, x7, a9, cp, l, kq, l0, l1, l0, l1, rfl, hl9, hns, by rw [hY]; exact pown_mono (setq4_own (set9_own (own_keptD hO.out hK1 (by omega)) (by omega) ..) (by omega) ..) (by omega)⟩, by rw [hY]; exact setq4_below (set9_below (bfromC HD hb1 hg (HKb.trans hK1)) (Nat.le_refl _) ..) (Nat.le_succ _) ..⟩)
      | (refine post49 hzz.out hyy.out (by omega) (v0 := .int .i64 x0) (v1 := .int .i64 x1) (v2 := .int .i64 x2) (v3 := .int .i64 x3) (v4 := .int .i64 x4) (v5 := .int .i64 x5) (v6 := .int .i64 x6) (v7 := .int .i64 x7) (v8 := .slice a9 l.length cp) (u0 := .int .i64 l0) (u1 := .int .i64 l1) (u2 := .int .i64 l0) (u3 := .int .i64 l1) ?_; intro Y hY ⟨f0, f1, f2, f3, f4, f5, f6, f7, f8, h0, h1, h2, h3⟩; exact bodyPost_ret (v := .tuple #[.agg #[.int .i64 x0, .int .i64 x1, .int .i64 x2, .int .i64 x3, .int .i64 x4, .int .i64 x5, .int .i64 x6, .int .i64 x7, .slice a9 l.length cp], .int .i64 kq, .agg #[.int .i64 l0, .int .i64 l1, .int .i64 l0, .int .i64 l1]]) (by simp [results, Tryd.results20, go_sem, f0, f1, f2, f3, f4, f5, f6, f7, f8, h0, h1, h2, h3]) rfl ⟨⟨x0, x1, x2, x3, x4, x5, x6, x7, a9, cp, l, kq, l0, l1, l0, l1, rfl, hl9, hns, by rw [hY]; exact pown_mono (set9_own (setq4_own (own_keptD hO.out hK1 (by omega)) (by omega) ..) (by omega) ..) (by omega)⟩, by rw [hY]; exact set9_below (setq4_below (bfromC HD hb1 hg (HKb.trans hK1)) (Nat.le_succ _) ..) (Nat.le_refl _) ..⟩)
  · have hq0i : ¬ (q : Int) = 0 := by omega
    go_upto_region 6 with fail
    obtain ⟨z0, e0⟩ := zc 0 (by decide)
    obtain ⟨z1, e1⟩ := zc 1 (by decide)
    obtain ⟨z2, e2⟩ := zc 2 (by decide)
    obtain ⟨z3, e3⟩ := zc 3 (by decide)
    obtain ⟨z4, e4⟩ := zc 4 (by decide)
    obtain ⟨z5, e5⟩ := zc 5 (by decide)
    obtain ⟨z6, e6⟩ := zc 6 (by decide)
    obtain ⟨z7, e7⟩ := zc 7 (by decide)
    obtain ⟨z8, e8⟩ := zc 8 (by decide)
    have hzc := Lib.hid zc
    have hsV := Lib.hid hs6
    clear zc
    have hL := Lib.hid (show l.length ≤ 9 from hl9)
    go_wp2_with fail
    go_region_with (go_at_call 59; refine (l01Next_c g a n cap _ _ hn (by first | exact hsV.out.drew | exact hsV.out)).mono ?_; rintro e w1 ⟨⟨kq, rfl, hq1, hq2⟩, hsq, HK⟩; clear hq1 hq2; have hK1 : Kept g V6 w1 := (by first | exact HK | exact (Kept.refl g V6).drew.trans HK); have t0 := ((kcell hK1).1 C 0 LC gC).trans c0; have t1 := ((kcell hK1).1 C 1 LC gC).trans c1; have t2 := ((kcell hK1).1 C 2 LC gC).trans c2; have t3 := ((kcell hK1).1 C 3 LC gC).trans c3; have t4 := ((kcell hK1).1 C 4 LC gC).trans c4; have t5 := ((kcell hK1).1 C 5 LC gC).trans c5; have t6 := ((kcell hK1).1 C 6 LC gC).trans c6; have t7 := ((kcell hK1).1 C 7 LC gC).trans c7; have t8 := ((kcell hK1).1 C 8 LC gC).trans c8; have q0 := ((kcell hK1).1 _ 0 LZ gZ).trans e0; have q1 := ((kcell hK1).1 _ 1 LZ gZ).trans e1; have q2 := ((kcell hK1).1 _ 2 LZ gZ).trans e2; have q3 := ((kcell hK1).1 _ 3 LZ gZ).trans e3; have q4 := ((kcell hK1).1 _ 4 LZ gZ).trans e4; have q5 := ((kcell hK1).1 _ 5 LZ gZ).trans e5; have q6 := ((kcell hK1).1 _ 6 LZ gZ).trans e6; have q7 := ((kcell hK1).1 _ 7 LZ gZ).trans e7; have q8 := ((kcell hK1).1 _ 8 LZ gZ).trans e8; have r0 := ((kcell hK1).1 _ 0 LY gY).trans y0; have r1 := ((kcell hK1).1 _ 1 LY gY).trans y1; have r2 := ((kcell hK1).1 _ 2 LY gY).trans y2; have r3 := ((kcell hK1).1 _ 3 LY gY).trans y3; have s0 := ((kcell hK1).1 B 0 LL gL).trans d0; have s1 := ((kcell hK1).1 B 1 LL gL).trans d1; have s2 := ((kcell hK1).1 B 2 LL gL).trans d2; have s3 := ((kcell hK1).1 B 3 LL gL).trans d3; have qf := fun o => ((kcell hK1).2 _ o LZ gZ).trans (zf o); have rf := fun o => ((kcell hK1).2 _ o LY gY).trans (yf o); have hzz := Lib.hid (fun o ho => (hzc.out o ho).imp fun _ e => ((kcell hK1).1 _ o LZ gZ).trans e))
    all_goals go_wp2_with fail
    all_goals
      have hyy := Lib.hid (fun o (ho : o < 4) => (show ∃ v, w1.cell? ⟨w.heap.size + 1, o, none⟩ = some v from by (match o, ho with | 0, _ => exact ⟨_, r0⟩ | 1, _ => exact ⟨_, r1⟩ | 2, _ => exact ⟨_, r2⟩ | 3, _ => exact ⟨_, r3⟩)))
      first
      | (refine post94 hzz.out hyy.out (by omega) (v0 := .int .i64 x0) (v1 := .int .i64 x1) (v2 := .int .i64 x2) (v3 := .int .i64 x3) (v4 := .int .i64 x4) (v5 := .int .i64 x5) (v6 := .int .i64 x6) (v7 := .int .i64 x7) (v8 := .slice a9 l.length cp) (u0 := .int .i64 l0) (u1 := .int .i64 l1) (u2 := .int .i64 l2) (u3 := .int .i64 l3) ?_; intro Y hY ⟨f0, f1, f2, f3, f4, f5, f6, f7, f8, h0, h1, h2, h3⟩; exact bodyPost_ret (v := .tuple #[.agg #[.int .i64 x0, .int .i64 x1, .int .i64 x2, .int .i64 x3, .int .i64 x4, .int .i64 x5, .int .i64 x6, .int .i64 x7, .slice a9 l.length cp], .int .i64 kq, .agg #[.int .i64 l0, .int .i64 l1, .int .i64 l2, .int .i64 l3]]) (by simp [results, Tryd.results20, go_sem, f0, f1, f2, f3, f4, f5, f6, f7, f8, h0, h1, h2, h3]) rfl ⟨⟨x0, x1, x2, x3, x4, x5, x6, x7, a9, cp, l, kq, l0, l1, l2, l3, rfl, hl9, hns, by rw [hY]; exact pown_mono (setq4_own (set9_own (own_keptD hO.out hK1 (by omega)) (by omega) ..) (by omega) ..) (by omega)⟩, by rw [hY]; exact setq4_below (set9_below (bfromC HD hb1 hg (HKb.trans hK1)) (Nat.le_refl _) ..) (Nat.le_succ _) ..⟩)
      | (refine post49 hzz.out hyy.out (by omega) (v0 := .int .i64 x0) (v1 := .int .i64 x1) (v2 := .int .i64 x2) (v3 := .int .i64 x3) (v4 := .int .i64 x4) (v5 := .int .i64 x5) (v6 := .int .i64 x6) (v7 := .int .i64 x7) (v8 := .slice a9 l.length cp) (u0 := .int .i64 l0) (u1 := .int .i64 l1) (u2 := .int .i64 l2) (u3 := .int .i64 l3) ?_; intro Y hY ⟨f0, f1, f2, f3, f4, f5, f6, f7, f8, h0, h1, h2, h3⟩; exact bodyPost_ret (v := .tuple #[.agg #[.int .i64 x0, .int .i64 x1, .int .i64 x2, .int .i64 x3, .int .i64 x4, .int .i64 x5, .int .i64 x6, .int .i64 x7, .slice a9 l.length cp], .int .i64 kq, .agg #[.int .i64 l0, .int .i64 l1, .int .i64 l2, .int .i64 l3]]) (by simp [results, Tryd.results20, go_sem, f0, f1, f2, f3, f4, f5, f6, f7, f8, h0, h1, h2, h3]) rfl ⟨⟨x0, x1, x2, x3, x4, x5, x6, x7, a9, cp, l, kq, l0, l1, l2, l3, rfl, hl9, hns, by rw [hY]; exact pown_mono (set9_own (setq4_own (own_keptD hO.out hK1 (by omega)) (by omega) ..) (by omega) ..) (by omega)⟩, by rw [hY]; exact set9_below (setq4_below (bfromC HD hb1 hg (HKb.trans hK1)) (Nat.le_succ _) ..) (Nat.le_refl _) ..⟩)

end Go.Proofs.YtbeigoejdckpiaaDoor
