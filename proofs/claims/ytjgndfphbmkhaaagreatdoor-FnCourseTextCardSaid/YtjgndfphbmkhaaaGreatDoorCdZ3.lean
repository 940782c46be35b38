/-
  Drawn courses, continued: l04DrawAny (some course of at most 9 marks with short names). Conditions: the code's bytes lie in the world.
-/
import Derived.Test.YtjgndfphbmkhaaaGreatDoorCdZ2
namespace Go.Proofs.YtjgndfphbmkhaaaGreatDoor
set_option linter.unusedVariables false
open Go.RowKit Go.Deep

/-- a course in block C that is drawn: what is kept of it, of the result and of the source -/
structure DE (g n cap C R0 : Nat) (a : Option Addr) (w : World) (T : TypeId) (x0 x1 x2 x3 x4 x5 x6 x7 : Int) (a9 : Option Addr) (cp : Nat) (L : List Mk) (X : World) : Prop where
  c0 : X.cell? ⟨C, 0, none⟩ = some (.int .i64 x0)
  c1 : X.cell? ⟨C, 1, none⟩ = some (.int .i64 x1)
  c2 : X.cell? ⟨C, 2, none⟩ = some (.int .i64 x2)
  c3 : X.cell? ⟨C, 3, none⟩ = some (.int .i64 x3)
  c4 : X.cell? ⟨C, 4, none⟩ = some (.int .i64 x4)
  c5 : X.cell? ⟨C, 5, none⟩ = some (.int .i64 x5)
  c6 : X.cell? ⟨C, 6, none⟩ = some (.int .i64 x6)
  c7 : X.cell? ⟨C, 7, none⟩ = some (.int .i64 x7)
  c8 : X.cell? ⟨C, 8, none⟩ = some (.slice a9 L.length cp)
  cf : ∀ o, X.frozen? ⟨C, o, none⟩ = false
  zc : ∀ o, o < 9 → ∃ v, X.cell? ⟨w.heap.size, o, none⟩ = some v
  zf : ∀ o, X.frozen? ⟨w.heap.size, o, none⟩ = false
  LC : C < X.heap.size
  LZ : w.heap.size < X.heap.size
  LR : R0 ≤ X.heap.size
  own : X.ownsRow R0 T 5 (.slice a9 L.length cp) L.length (mflat L)
  nr : ∀ j, (Value.slice a9 L.length cp).ownBlock = some j → j ≠ C
  src : Src g a n cap X
  kept : Kept g w X
section
variable {g n cap C R0 : Nat} {a : Option Addr} {w : World} {T : TypeId} {x0 x1 x2 x3 x4 x5 x6 x7 : Int} {a9 : Option Addr} {cp : Nat} {L : List Mk} {X Y : World}
theorem DE.keep (h : DE g n cap C R0 a w T x0 x1 x2 x3 x4 x5 x6 x7 a9 cp L X) (hs : Src g a n cap Y) (hk : Kept g X Y) (hg : g < w.heap.size) (hC : w.heap.size < C) (hR : w.heap.size < R0) : DE g n cap C R0 a w T x0 x1 x2 x3 x4 x5 x6 x7 a9 cp L Y := by
  obtain ⟨kc, kf⟩ := kcell hk
  have nC : C ≠ g := by omega
  have nZ : w.heap.size ≠ g := by omega
  exact ⟨(kc _ 0 h.LC nC).trans h.c0, (kc _ 1 h.LC nC).trans h.c1, (kc _ 2 h.LC nC).trans h.c2, (kc _ 3 h.LC nC).trans h.c3, (kc _ 4 h.LC nC).trans h.c4, (kc _ 5 h.LC nC).trans h.c5, (kc _ 6 h.LC nC).trans h.c6, (kc _ 7 h.LC nC).trans h.c7, (kc _ 8 h.LC nC).trans h.c8, fun o => (kf _ o h.LC nC).trans (h.cf o), fun o ho => (h.zc o ho).imp fun _ e => (kc _ o h.LZ nZ).trans e, fun o => (kf _ o h.LZ nZ).trans (h.zf o), Nat.lt_of_lt_of_le h.LC hk.size, Nat.lt_of_lt_of_le h.LZ hk.size, Nat.le_trans h.LR hk.size, own_keptD h.own hk (by omega), h.nr, hs, h.kept.trans hk⟩
theorem DE.below (h : DE g n cap C R0 a w T x0 x1 x2 x3 x4 x5 x6 x7 a9 cp L X) (hb : Below X.heap.size X Y) (hg : g < w.heap.size) (hC : w.heap.size < C) (hR : w.heap.size < R0) : DE g n cap C R0 a w T x0 x1 x2 x3 x4 x5 x6 x7 a9 cp L Y := h.keep (h.src.below hb) (Kept.of hb) hg hC hR
theorem DE.drew (h : DE g n cap C R0 a w T x0 x1 x2 x3 x4 x5 x6 x7 a9 cp L X) : DE g n cap C R0 a w T x0 x1 x2 x3 x4 x5 x6 x7 a9 cp L X.drew := ⟨h.c0, h.c1, h.c2, h.c3, h.c4, h.c5, h.c6, h.c7, h.c8, h.cf, h.zc, h.zf, h.LC, h.LZ, h.LR, h.own.drew, h.nr, h.src.drew, h.kept.drew⟩
theorem DE.alloc (h : DE g n cap C R0 a w T x0 x1 x2 x3 x4 x5 x6 x7 a9 cp L X) (u : Obj) (hg : g < w.heap.size) (hC : w.heap.size < C) (hR : w.heap.size < R0) : DE g n cap C R0 a w T x0 x1 x2 x3 x4 x5 x6 x7 a9 cp L (X.alloc u) := h.below ((Below.refl _ _).alloc (Nat.le_refl _) u) hg hC hR
theorem DE.setC (h : DE g n cap C R0 a w T x0 x1 x2 x3 x4 x5 x6 x7 a9 cp L X) (hg : g < w.heap.size) (hC : w.heap.size < C) (i : Nat) (v : Value) : (∀ b o, b ≠ C → (X.setCell ⟨C, i, none⟩ v).cell? ⟨b, o, none⟩ = X.cell? ⟨b, o, none⟩) ∧ (∀ p, (X.setCell ⟨C, i, none⟩ v).frozen? p = X.frozen? p) ∧ (X.setCell ⟨C, i, none⟩ v).heap.size = X.heap.size ∧ Src g a n cap (X.setCell ⟨C, i, none⟩ v) ∧ Kept g w (X.setCell ⟨C, i, none⟩ v) :=
  ⟨fun b o hb => World.cell?_of_block (w := X) (heap_setCell_other X ⟨C, i, none⟩ b _ hb), fun p => World.frozen?_setCell .., by simp [World.setCell], h.src.setCell (p := ⟨C, i, none⟩) (show g < C by omega) _, h.kept.setCell (p := ⟨C, i, none⟩) (.inr (show w.heap.size ≤ C by omega)) _⟩
theorem DE.put8 (h : DE g n cap C R0 a w T x0 x1 x2 x3 x4 x5 x6 x7 a9 cp L X) (hg : g < w.heap.size) (hC : w.heap.size < C) (a9' : Option Addr) (cp' : Nat) (L' : List Mk) (ho : X.ownsRow R0 T 5 (.slice a9' L'.length cp') L'.length (mflat L')) (hj : ∀ j, (Value.slice a9' L'.length cp').ownBlock = some j → j ≠ C) : DE g n cap C R0 a w T x0 x1 x2 x3 x4 x5 x6 x7 a9' cp' L' (X.setCell ⟨C, 8, none⟩ (.slice a9' L'.length cp')) := by
  obtain ⟨ec, ef, es, hs, hk⟩ := h.setC hg hC 8 (.slice a9' L'.length cp')
  have nZ : w.heap.size ≠ C := by omega
  exact ⟨setO (by decide) h.c0, setO (by decide) h.c1, setO (by decide) h.c2, setO (by decide) h.c3, setO (by decide) h.c4, setO (by decide) h.c5, setO (by decide) h.c6, setO (by decide) h.c7, setS (isS h.c8), fun o => (ef _).trans (h.cf o), fun o ho => (h.zc o ho).imp fun _ e => (ec _ o nZ).trans e, fun o => (ef _).trans (h.zf o), by rw [es]; exact h.LC, by rw [es]; exact h.LZ, by rw [es]; exact h.LR, ownsRow_setCell_other ho (fun e => hj C e rfl) _, hj, hs, hk⟩
theorem DE.put6 (h : DE g n cap C R0 a w T x0 x1 x2 x3 x4 x5 x6 x7 a9 cp L X) (hg : g < w.heap.size) (hC : w.heap.size < C) (y : Int) : DE g n cap C R0 a w T x0 x1 x2 x3 x4 x5 y x7 a9 cp L (X.setCell ⟨C, 6, none⟩ (.int .i64 y)) := by
  obtain ⟨ec, ef, es, hs, hk⟩ := h.setC hg hC 6 (.int .i64 y)
  have nZ : w.heap.size ≠ C := by omega
  exact ⟨setO (by decide) h.c0, setO (by decide) h.c1, setO (by decide) h.c2, setO (by decide) h.c3, setO (by decide) h.c4, setO (by decide) h.c5, setS (isS h.c6), setO (by decide) h.c7, setO (by decide) h.c8, fun o => (ef _).trans (h.cf o), fun o ho => (h.zc o ho).imp fun _ e => (ec _ o nZ).trans e, fun o => (ef _).trans (h.zf o), by rw [es]; exact h.LC, by rw [es]; exact h.LZ, by rw [es]; exact h.LR, ownsRow_setCell_other h.own (fun e => h.nr C e rfl) _, h.nr, hs, hk⟩
theorem DE.put7 (h : DE g n cap C R0 a w T x0 x1 x2 x3 x4 x5 x6 x7 a9 cp L X) (hg : g < w.heap.size) (hC : w.heap.size < C) (y : Int) : DE g n cap C R0 a w T x0 x1 x2 x3 x4 x5 x6 y a9 cp L (X.setCell ⟨C, 7, none⟩ (.int .i64 y)) := by
  obtain ⟨ec, ef, es, hs, hk⟩ := h.setC hg hC 7 (.int .i64 y)
  have nZ : w.heap.size ≠ C := by omega
  exact ⟨setO (by decide) h.c0, setO (by decide) h.c1, setO (by decide) h.c2, setO (by decide) h.c3, setO (by decide) h.c4, setO (by decide) h.c5, setO (by decide) h.c6, setS (isS h.c7), setO (by decide) h.c8, fun o => (ef _).trans (h.cf o), fun o ho => (h.zc o ho).imp fun _ e => (ec _ o nZ).trans e, fun o => (ef _).trans (h.zf o), by rw [es]; exact h.LC, by rw [es]; exact h.LZ, by rw [es]; exact h.LR, ownsRow_setCell_other h.own (fun e => h.nr C e rfl) _, h.nr, hs, hk⟩
theorem DE.setRow {r j : Nat} {v : Value} {L' : List Mk} (h : DE g n cap C R0 a w T x0 x1 x2 x3 x4 x5 x6 x7 (some ⟨r, 0, none⟩) cp L X) (hg : g < w.heap.size) (hC : w.heap.size < C) (hR : w.heap.size < R0) (hl : L'.length = L.length) (hf : (mflat L).set j v = mflat L') : DE g n cap C R0 a w T x0 x1 x2 x3 x4 x5 x6 x7 (some ⟨r, 0, none⟩) cp L' (X.setCell ⟨r, j, none⟩ v) := by
  have hr : R0 ≤ r := (h.own.lt r rfl).1
  have ec : ∀ b o, b ≠ r → (X.setCell ⟨r, j, none⟩ v).cell? ⟨b, o, none⟩ = X.cell? ⟨b, o, none⟩ := fun b o hb => World.cell?_of_block (w := X) (heap_setCell_other X ⟨r, j, none⟩ b _ hb)
  have ef : ∀ p, (X.setCell ⟨r, j, none⟩ v).frozen? p = X.frozen? p := fun p => World.frozen?_setCell ..
  have es : (X.setCell ⟨r, j, none⟩ v).heap.size = X.heap.size := by simp [World.setCell]
  have nZ : w.heap.size ≠ r := by omega
  have nC : C ≠ r := fun e => h.nr r rfl e.symm
  have ho := (h.own.stored j v).1
  rw [hf] at ho
  exact ⟨(ec _ 0 nC).trans h.c0, (ec _ 1 nC).trans h.c1, (ec _ 2 nC).trans h.c2, (ec _ 3 nC).trans h.c3, (ec _ 4 nC).trans h.c4, (ec _ 5 nC).trans h.c5, (ec _ 6 nC).trans h.c6, (ec _ 7 nC).trans h.c7, by rw [hl]; exact (ec _ 8 nC).trans h.c8, fun o => (ef _).trans (h.cf o), fun o ho => (h.zc o ho).imp fun _ e => (ec _ o nZ).trans e, fun o => (ef _).trans (h.zf o), by rw [es]; exact h.LC, by rw [es]; exact h.LZ, by rw [es]; exact h.LR, by rw [hl]; exact ho, by rw [hl]; exact h.nr, h.src.setCell (p := ⟨r, j, none⟩) (show g < r by omega) _, h.kept.setCell (p := ⟨r, j, none⟩) (.inr (show w.heap.size ≤ r by omega)) _⟩
end
theorem own_has5 {w : World} {base r n cap : Nat} {e : TypeId} {l : List Mk} (h : w.ownsRow base e 5 (.slice (some ⟨r, 0, none⟩) n cap) n (mflat l)) (hn : n = l.length) (k j : Nat) (hk : k < n) (hj : j < 5) : ∃ v, w.cell? ⟨r, k * 5 + j, none⟩ = some v := by
  have h1 := h.cellAt (k * 5 + j) (by omega)
  have h2 : k * 5 + j < (mflat l).length := by rw [mflat_length]; omega
  exact ⟨_, h1.trans (List.getElem?_eq_getElem h2)⟩
theorem wpNamed {P : Program} {c : Code} {Q : Exit → Act → World → Prop} {ac : Act} {w : World} (h : ∀ Y, Y = w → Code.wp P c Q ac Y) : Code.wp P c Q ac w := h w rfl
def nm4 : Nat → ByteArray
  | 0 => { data := #[] }
  | 1 => { data := #[77] }
  | 2 => { data := #[109, 117, 99, 104, 116, 111, 111, 108, 111, 110, 103] }
  | _ => { data := #[109, 49] }
theorem nm4_size (q : Nat) : (nm4 q).size ≤ 64 := by
  unfold nm4
  split <;> decide
theorem nm4_get {q : Nat} (h : q < 4) : (#[.string { data := #[] }, .string { data := #[77] }, .string { data := #[109, 117, 99, 104, 116, 111, 111, 108, 111, 110, 103] }, .string { data := #[109, 49] }] : Array Value)[q]? = some (.string (nm4 q)) := by
  match q, h with
  | 0, _ => rfl
  | 1, _ => rfl
  | 2, _ => rfl
  | 3, _ => rfl
theorem nm4_cell {q : Nat} (h : q < 4) (Y : World) (T : TypeId) : (Y.alloc (.cells #[.string { data := #[] }, .string { data := #[77] }, .string { data := #[109, 117, 99, 104, 116, 111, 111, 108, 111, 110, 103] }, .string { data := #[109, 49] }] T)).cell? ⟨Y.heap.size, q, none⟩ = some (.string (nm4 q)) := by
  match q, h with
  | 0, _ => simp [go_sem]; rfl
  | 1, _ => simp [go_sem]; rfl
  | 2, _ => simp [go_sem]; rfl
  | 3, _ => simp [go_sem]; rfl
def zn3 : Nat → Int
  | 0 => 0
  | 1 => 5000
  | _ => 5001
theorem zn3_get {q : Nat} (h : q < 3) : (#[.int .i64 0, .int .i64 5000, .int .i64 5001] : Array Value)[q]? = some (.int .i64 (zn3 q)) := by
  match q, h with
  | 0, _ => rfl
  | 1, _ => rfl
  | 2, _ => rfl
theorem zn3_cell {q : Nat} (h : q < 3) (Y : World) (T : TypeId) : (Y.alloc (.cells #[.int .i64 0, .int .i64 5000, .int .i64 5001] T)).cell? ⟨Y.heap.size, q, none⟩ = some (.int .i64 (zn3 q)) := by
  match q, h with
  | 0, _ => simp [go_sem]; rfl
  | 1, _ => simp [go_sem]; rfl
  | 2, _ => simp [go_sem]; rfl
set_option maxRecDepth 100000 in
set_option maxHeartbeats 1000000 in
theorem l01NumS_c (n : Nat) (w : World) (h : n < 10) : Calls Tryz.prog 49 #[.int .i64 (n : Int)] w fun e w' => (∃ s : ByteArray, e = .returned (.string s) ∧ s.size = 1) ∧ Below w.heap.size w w' := by
  have h' : (n : Int) < 10 := by omega
  have t4 : IntKind.i64.wrap (48 + (n : Int)) = 48 + (n : Int) := by rw [IntKind.wrap_i64]; omega
  have t5 : IntKind.u8.wrap (48 + (n : Int)) = 48 + (n : Int) := by simp [IntKind.wrap, IntKind.bits, IntKind.signed]; omega
  have hcv : (convert 34 9 (.slice (some ⟨w.heap.size, 0, none⟩) 1 1)).run Tryz.prog (w.alloc (.cells #[.int .u8 (48 + (n : Int))] 5)) = .ok (.string (strOfNums [48 + (n : Int)])) (w.alloc (.cells #[.int .u8 (48 + (n : Int))] 5)) :=
    run_convert_bytes_arg _ _ _ Tryz.underlying34 Tryz.underlying5 _ 0 1 1 [48 + (n : Int)] rfl (fun i hi => by (have e0 : i = 0 := by omega); subst e0; simp [go_sem]) _ Tryz.underlying9
  have hz : (strOfNums [48 + (n : Int)]).size = 1 := rfl
  generalize strOfNums [48 + (n : Int)] = sd at *
  go_enter Tryz.func49, Tryz.ntmps49
  go_wp2_with fail
  go_ret
  exact ⟨⟨sd, rfl, hz⟩, (by repeat (first | with_reducible exact Below.refl _ _ | with_reducible assumption | with_reducible refine Below.drew ?_ | with_reducible refine Below.alloc ?_ (by first | exact Nat.le_refl _ | (simp; done) | (simp; omega) | omega) _ | with_reducible refine Below.setCell ?_ (by first | exact Nat.le_refl _ | (simp; done) | (simp; omega) | omega) _ | with_reducible refine Below.trans ?_ (Below.mono (by with_reducible assumption) (by first | exact Nat.le_refl _ | (simp; done) | (simp; omega) | omega))))⟩
section
variable {B : Nat} {v0 v1 v2 v3 v4 : Value} {X Y : World}
theorem f5_alloc (h : X.cell? ⟨B, 0, none⟩ = some v0 ∧ X.cell? ⟨B, 1, none⟩ = some v1 ∧ X.cell? ⟨B, 2, none⟩ = some v2 ∧ X.cell? ⟨B, 3, none⟩ = some v3 ∧ X.cell? ⟨B, 4, none⟩ = some v4) (o : Obj) : (X.alloc o).cell? ⟨B, 0, none⟩ = some v0 ∧ (X.alloc o).cell? ⟨B, 1, none⟩ = some v1 ∧ (X.alloc o).cell? ⟨B, 2, none⟩ = some v2 ∧ (X.alloc o).cell? ⟨B, 3, none⟩ = some v3 ∧ (X.alloc o).cell? ⟨B, 4, none⟩ = some v4 := by
  obtain ⟨h0, h1, h2, h3, h4⟩ := h
  exact ⟨cell_allocD h0 o, cell_allocD h1 o, cell_allocD h2 o, cell_allocD h3 o, cell_allocD h4 o⟩
theorem f5_drew (h : X.cell? ⟨B, 0, none⟩ = some v0 ∧ X.cell? ⟨B, 1, none⟩ = some v1 ∧ X.cell? ⟨B, 2, none⟩ = some v2 ∧ X.cell? ⟨B, 3, none⟩ = some v3 ∧ X.cell? ⟨B, 4, none⟩ = some v4) : X.drew.cell? ⟨B, 0, none⟩ = some v0 ∧ X.drew.cell? ⟨B, 1, none⟩ = some v1 ∧ X.drew.cell? ⟨B, 2, none⟩ = some v2 ∧ X.drew.cell? ⟨B, 3, none⟩ = some v3 ∧ X.drew.cell? ⟨B, 4, none⟩ = some v4 := h
theorem f5_grow {row : Option Nat} (h : X.cell? ⟨B, 0, none⟩ = some v0 ∧ X.cell? ⟨B, 1, none⟩ = some v1 ∧ X.cell? ⟨B, 2, none⟩ = some v2 ∧ X.cell? ⟨B, 3, none⟩ = some v3 ∧ X.cell? ⟨B, 4, none⟩ = some v4) (hg : X.grownBy Y row) (hr : some B ≠ row) : Y.cell? ⟨B, 0, none⟩ = some v0 ∧ Y.cell? ⟨B, 1, none⟩ = some v1 ∧ Y.cell? ⟨B, 2, none⟩ = some v2 ∧ Y.cell? ⟨B, 3, none⟩ = some v3 ∧ Y.cell? ⟨B, 4, none⟩ = some v4 := by
  obtain ⟨h0, h1, h2, h3, h4⟩ := h
  exact ⟨hg.cell (a := ⟨B, 0, none⟩) h0 hr, hg.cell (a := ⟨B, 1, none⟩) h1 hr, hg.cell (a := ⟨B, 2, none⟩) h2 hr, hg.cell (a := ⟨B, 3, none⟩) h3 hr, hg.cell (a := ⟨B, 4, none⟩) h4 hr⟩
theorem f5_set {C j : Nat} (h : X.cell? ⟨B, 0, none⟩ = some v0 ∧ X.cell? ⟨B, 1, none⟩ = some v1 ∧ X.cell? ⟨B, 2, none⟩ = some v2 ∧ X.cell? ⟨B, 3, none⟩ = some v3 ∧ X.cell? ⟨B, 4, none⟩ = some v4) (hC : B ≠ C) (u : Value) : (X.setCell ⟨C, j, none⟩ u).cell? ⟨B, 0, none⟩ = some v0 ∧ (X.setCell ⟨C, j, none⟩ u).cell? ⟨B, 1, none⟩ = some v1 ∧ (X.setCell ⟨C, j, none⟩ u).cell? ⟨B, 2, none⟩ = some v2 ∧ (X.setCell ⟨C, j, none⟩ u).cell? ⟨B, 3, none⟩ = some v3 ∧ (X.setCell ⟨C, j, none⟩ u).cell? ⟨B, 4, none⟩ = some v4 := by
  have e : ∀ o, (X.setCell ⟨C, j, none⟩ u).cell? ⟨B, o, none⟩ = X.cell? ⟨B, o, none⟩ := fun o => World.cell?_of_block (w := X) (heap_setCell_other X ⟨C, j, none⟩ B _ hC)
  obtain ⟨h0, h1, h2, h3, h4⟩ := h
  exact ⟨(e 0).trans h0, (e 1).trans h1, (e 2).trans h2, (e 3).trans h3, (e 4).trans h4⟩
end

set_option maxRecDepth 100000 in
set_option maxHeartbeats 4000000 in
theorem l04DrawAny_c (g : Nat) (a : Option Addr) (n cap : Nat) (w : World) (hn : n ≤ 9223372036854775807) (hs : Src g a n cap w) : Calls Tryz.prog 29 #[.pointer (some ⟨g, 0, none⟩)] w fun e w' => (∃ (x0 x1 x2 x3 x4 x5 x6 x7 : Int) (a9 : Option Addr) (cp : Nat) (l : List Mk), e = .returned (.agg #[.int .i64 x0, .int .i64 x1, .int .i64 x2, .int .i64 x3, .int .i64 x4, .int .i64 x5, .int .i64 x6, .int .i64 x7, .slice a9 l.length cp]) ∧ l.length ≤ 9 ∧ NSm l ∧ w'.ownsRow w.heap.size 47 5 (.slice a9 l.length cp) l.length (mflat l)) ∧ Src g a n cap w' ∧ Kept g w w' := by
  obtain ⟨i0, hi, ti0, ti1, ti2⟩ := info_parts infoMk
  have hgl := hs.lt
  have HS := Lib.hid hs
  clear hs
  go_enter Tryz.func29, Tryz.ntmps29
  go_wp2_with fail
  obtain ⟨W, hW⟩ : ∃ W, W = w.alloc (.cells #[.int .i64 0, .int .i64 0, .int .i64 0, .int .i64 0, .int .i64 0, .int .i64 0, .int .i64 0, .int .i64 0, .slice none 0 0] 28) := ⟨_, rfl⟩
  have hk : Kept g w W := by subst hW; exact (Kept.refl _ _).alloc _
  have hsW : Src g a n cap W := by subst hW; exact HS.out.alloc _
  have zc : ∀ o, o < 9 → ∃ v, W.cell? ⟨w.heap.size, o, none⟩ = some v := by subst hW; intro o ho; exact zcell ho
  have zf : ∀ o, W.frozen? ⟨w.heap.size, o, none⟩ = false := by subst hW; intro o; simp [go_sem]
  have L4 : w.heap.size < W.heap.size := by subst hW; simp
  rw [← hW]
  clear hW
  have hng : w.heap.size ≠ g := by omega
  refine (l04Draw_c g a n cap W hn hsW).mono ?_
  rintro e V1 ⟨⟨x0, x1, x2, x3, x4, x5, x6, x7, r, cp, l, rfl, hl1, hl8, hns, hO⟩, hs1, hk1⟩
  obtain ⟨kc, kf⟩ := kcell hk1
  replace zc := fun o ho => (zc o ho).imp fun _ e => (kc _ o L4 hng).trans e
  replace zf := fun o => (kf _ o L4 hng).trans (zf o)
  have hWZ : w.heap.size < W.heap.size := L4
  replace L4 := Nat.lt_of_lt_of_le L4 hk1.size
  replace hk := hk.trans hk1
  have hWV := hk1.size
  clear kc kf hsW hk1
  go_wp2_with fail
  obtain ⟨V, hV⟩ : ∃ x, x = V1.alloc (.cells #[.int .i64 x0, .int .i64 x1, .int .i64 x2, .int .i64 x3, .int .i64 x4, .int .i64 x5, .int .i64 x6, .int .i64 x7, .slice (some ⟨r, 0, none⟩) l.length cp] 28) := ⟨_, rfl⟩
  have hb : Below V1.heap.size V1 V := by subst hV; exact (Below.refl _ _).alloc (Nat.le_refl _) _
  have c0 : V.cell? ⟨V1.heap.size, 0, none⟩ = some (.int .i64 x0) := by subst hV; simp [go_sem]
  have c1 : V.cell? ⟨V1.heap.size, 1, none⟩ = some (.int .i64 x1) := by subst hV; simp [go_sem]
  have c2 : V.cell? ⟨V1.heap.size, 2, none⟩ = some (.int .i64 x2) := by subst hV; simp [go_sem]
  have c3 : V.cell? ⟨V1.heap.size, 3, none⟩ = some (.int .i64 x3) := by subst hV; simp [go_sem]
  have c4 : V.cell? ⟨V1.heap.size, 4, none⟩ = some (.int .i64 x4) := by subst hV; simp [go_sem]
  have c5 : V.cell? ⟨V1.heap.size, 5, none⟩ = some (.int .i64 x5) := by subst hV; simp [go_sem]
  have c6 : V.cell? ⟨V1.heap.size, 6, none⟩ = some (.int .i64 x6) := by subst hV; simp [go_sem]
  have c7 : V.cell? ⟨V1.heap.size, 7, none⟩ = some (.int .i64 x7) := by subst hV; simp [go_sem]
  have c8 : V.cell? ⟨V1.heap.size, 8, none⟩ = some (.slice (some ⟨r, 0, none⟩) l.length cp) := by subst hV; simp [go_sem]
  have cf : ∀ o, V.frozen? ⟨V1.heap.size, o, none⟩ = false := by subst hV; intro o; simp [go_sem]
  have LC : V1.heap.size < V.heap.size := by subst hV; simp
  rw [← hV]
  clear hV
  have hrl := hO.lt r rfl
  have nwC : w.heap.size < V1.heap.size := by omega
  have hR : ∃ R0, R0 = W.heap.size := ⟨_, rfl⟩
  obtain ⟨R0, hR0⟩ := hR
  rw [← hR0] at hO hrl
  have hwR : w.heap.size < R0 := by omega
  have hgC : g < V1.heap.size := hs1.lt
  have HDE : DE g n cap V1.heap.size R0 a w 47 x0 x1 x2 x3 x4 x5 x6 x7 (some ⟨r, 0, none⟩) cp l V := ⟨c0, c1, c2, c3, c4, c5, c6, c7, c8, cf, fun o ho => (zc o ho).imp fun _ e => (hb.cell (p := ⟨w.heap.size, o, none⟩) L4).trans e, fun o => (hb.frozen (p := ⟨w.heap.size, o, none⟩) L4).trans (zf o), LC, by omega, by omega, pown_below hO hb, by intro j e; simp [Value.ownBlock] at e; omega, hs1.below hb, hk.trans (Kept.of hb)⟩
  have nRC : R0 ≤ V1.heap.size := by omega
  clear zc zf cf hb hk hs1 hO hWV hWZ L4 hR0 c0 c1 c2 c3 c4 c5 c6 c7 c8
  generalize V1.heap.size = C at *
  obtain ⟨hr0, hrC⟩ := hrl
  have hrg : r ≠ g := by omega
  have nCg : C ≠ g := by omega
  have HL := Lib.hid (show 1 ≤ l.length ∧ l.length ≤ 8 from ⟨hl1, hl8⟩)
  have k8 := HDE.c8
  have KC := HDE.LC
  go_wp2_with fail
  refine (l01NextN_c g a n cap _ V hn HDE.src).mono ?_
  rintro e V2 ⟨⟨k, rfl, hr1, hr2⟩, hs2, hk2⟩
  have hkl : k < l.length := by rcases Nat.lt_or_ge 1 l.length with h | h <;> first | (have := (hr1 (by omega)).1; omega) | (have := hr2 (by omega); omega)
  have H2 := HDE.keep hs2 hk2 hgl nwC hwR
  clear HDE hr1 hr2 hs2 hk2 k8 KC LC
  go_wp2_with fail
  refine (l01NextN_c g a n cap _ V2 hn H2.src).mono ?_
  rintro e V3 ⟨⟨c, rfl, hr1, hr2⟩, hs3, hk3⟩
  have H := H2.keep hs3 hk3 hgl nwC hwR
  obtain ⟨hc1, hc2⟩ := hr1 (by omega)
  clear H2 hr1 hr2 hs3 hk3 hc1
  have KK := Lib.hid hkl
  have hki : (k : Int) < (l.length : Int) := by omega
  have hki0 : (0 : Int) ≤ (k : Int) := by omega
  clear hl1 hl8
  by_cases c0 : c = 0
  · subst c0
    obtain ⟨u, hu⟩ := own_has5 H.own rfl k 0 KK.out (by omega)
    rw [Nat.add_zero] at hu
    have hfz := fun o => H.own.frozenAt (j := o)
    have L7 : r < V3.heap.size := (H.own.lt r rfl).2
    have k8 := H.c8
    have KC := H.LC
    have hs3 := H.src
    have hVg : V3.heap.size ≠ g := by have := hs3.lt; omega
    have hli0 : ∀ x : Obj, V3.heap.size < (V3.alloc x).heap.size := fun x => by simp
    have hli1 : ∀ x : Obj, V3.heap.size < (V3.alloc x).drew.heap.size := fun x => by simp
    have HH := Lib.hid H
    clear H
    go_wp2_with fail
    go_region_with (go_at_call 47; refine (l01NextN_c g a n cap _ _ hn (by first | exact hs3 | exact hs3.drew | exact hs3.alloc _ | exact (hs3.alloc _).drew | exact (hs3.drew).alloc _)).mono ?_; rintro e w1 ⟨⟨q, rfl, hq1, hq2⟩, hs4, HK⟩; simp at hq1; clear hq2; obtain ⟨hq1, hq3⟩ := hq1; have hK3 : Kept g V3 w1 := (by first | exact HK | exact (Kept.refl g V3).drew.trans HK | exact ((Kept.refl g V3).alloc _).trans HK | exact ((Kept.refl g V3).alloc _).drew.trans HK | exact ((Kept.refl g V3).drew.alloc _).trans HK); have hm0 := ((kcell hK3).1 r _ L7 hrg).trans hu; have hm1 := fun o => ((kcell hK3).2 r o L7 hrg).trans (hfz o); have hm2 := ((kcell hK3).1 C 8 KC nCg).trans k8; have hsz := hK3.size; have hlr := Nat.lt_of_lt_of_le L7 hsz; have hlC := Nat.lt_of_lt_of_le KC hsz; have hDE1 := HH.out.keep hs4 hK3 hgl nwC hwR; have hm7 := nm4_get hq3; have hm6 := nm4_cell hq3 w1 9; (try (have hm5 := ((kcell HK).1 V3.heap.size q (hli1 _) hVg).trans (nm4_cell hq3 V3 9))); (try (have hm5 := ((kcell HK).1 V3.heap.size q (hli0 _) hVg).trans (nm4_cell hq3 V3 9))))
    all_goals go_upto_region 20 with fail
    all_goals
      refine wpNamed ?_
      intro V9 hV9
      obtain ⟨L9, g1, g2, g3⟩ := mset_str l k (nm4 q) KK.out (nm4_size q) hns
      have H9 : DE g n cap C R0 a w 47 x0 x1 x2 x3 x4 x5 x6 x7 (some ⟨r, 0, none⟩) cp L9 V9 := by rw [hV9]; first | exact DE.setRow (by repeat (first | exact hDE1 | with_reducible refine DE.drew ?_ | with_reducible refine DE.alloc ?_ _ hgl nwC hwR)) hgl nwC hwR g1 g3 | exact (DE.setRow (by repeat (first | exact hDE1 | with_reducible refine DE.drew ?_ | with_reducible refine DE.alloc ?_ _ hgl nwC hwR)) hgl nwC hwR g1 g3).alloc _ hgl nwC hwR
      have hle : L9.length ≤ 9 := by have := HL.out; omega
      clear hV9 hm0 hm1 hm2 g3 g1 hu hfz k8
      have HE := Lib.hid H9
      have hle9 := Lib.hid (show L9.length ≤ 9 from hle)
      have k0 := HE.out.c0
      have k1 := HE.out.c1
      have k2 := HE.out.c2
      have k3 := HE.out.c3
      have k4 := HE.out.c4
      have k5 := HE.out.c5
      have k6 := HE.out.c6
      have k7 := HE.out.c7
      have k8 := HE.out.c8
      obtain ⟨v0, z0⟩ := HE.out.zc 0 (by decide)
      obtain ⟨v1, z1⟩ := HE.out.zc 1 (by decide)
      obtain ⟨v2, z2⟩ := HE.out.zc 2 (by decide)
      obtain ⟨v3, z3⟩ := HE.out.zc 3 (by decide)
      obtain ⟨v4, z4⟩ := HE.out.zc 4 (by decide)
      obtain ⟨v5, z5⟩ := HE.out.zc 5 (by decide)
      obtain ⟨v6, z6⟩ := HE.out.zc 6 (by decide)
      obtain ⟨v7, z7⟩ := HE.out.zc 7 (by decide)
      obtain ⟨v8, z8⟩ := HE.out.zc 8 (by decide)
      have zf := HE.out.zf
      have KC := HE.out.LC
      have hLZ := HE.out.LZ
      go_wp2
      refine set9_post HE.out.zc (v0 := .int .i64 x0) (v1 := .int .i64 x1) (v2 := .int .i64 x2) (v3 := .int .i64 x3) (v4 := .int .i64 x4) (v5 := .int .i64 x5) (v6 := .int .i64 x6) (v7 := .int .i64 x7) (v8 := .slice (some ⟨r, 0, none⟩) L9.length cp) ?_
      intro Y hY ⟨e0, e1, e2, e3, e4, e5, e6, e7, e8⟩
      exact bodyPost_ret (v := .agg #[.int .i64 x0, .int .i64 x1, .int .i64 x2, .int .i64 x3, .int .i64 x4, .int .i64 x5, .int .i64 x6, .int .i64 x7, .slice (some ⟨r, 0, none⟩) L9.length cp]) (by simp [results, Tryz.results29, go_sem, e0, e1, e2, e3, e4, e5, e6, e7, e8]) rfl ⟨⟨x0, x1, x2, x3, x4, x5, x6, x7, (some ⟨r, 0, none⟩), cp, L9, rfl, hle9.out, g2, by rw [hY]; exact pown_mono (set9_own HE.out.own hwR ..) (Nat.le_of_lt hwR)⟩, by rw [hY]; exact set9_src HE.out.src hgl .., by rw [hY]; exact set9_kept HE.out.kept (Nat.le_refl _) ..⟩
  by_cases c1 : c = 1
  · subst c1
    obtain ⟨u, hu⟩ := own_has5 H.own rfl k 3 KK.out (by omega)
    have hfz := fun o => H.own.frozenAt (j := o)
    have L7 : r < V3.heap.size := (H.own.lt r rfl).2
    have k8 := H.c8
    have KC := H.LC
    have hs3 := H.src
    have hVg : V3.heap.size ≠ g := by have := hs3.lt; omega
    have hli0 : ∀ x : Obj, V3.heap.size < (V3.alloc x).heap.size := fun x => by simp
    have hli1 : ∀ x : Obj, V3.heap.size < (V3.alloc x).drew.heap.size := fun x => by simp
    have HH := Lib.hid H
    clear H
    go_wp2_with fail
    go_region_with (go_at_call 47; refine (l01NextN_c g a n cap _ _ hn (by first | exact hs3 | exact hs3.drew | exact hs3.alloc _ | exact (hs3.alloc _).drew | exact (hs3.drew).alloc _)).mono ?_; rintro e w1 ⟨⟨q, rfl, hq1, hq2⟩, hs4, HK⟩; simp at hq1; clear hq2; obtain ⟨hq1, hq3⟩ := hq1; have hK3 : Kept g V3 w1 := (by first | exact HK | exact (Kept.refl g V3).drew.trans HK | exact ((Kept.refl g V3).alloc _).trans HK | exact ((Kept.refl g V3).alloc _).drew.trans HK | exact ((Kept.refl g V3).drew.alloc _).trans HK); have hm0 := ((kcell hK3).1 r _ L7 hrg).trans hu; have hm1 := fun o => ((kcell hK3).2 r o L7 hrg).trans (hfz o); have hm2 := ((kcell hK3).1 C 8 KC nCg).trans k8; have hsz := hK3.size; have hlr := Nat.lt_of_lt_of_le L7 hsz; have hlC := Nat.lt_of_lt_of_le KC hsz; have hDE1 := HH.out.keep hs4 hK3 hgl nwC hwR)
    all_goals go_upto_region 20 with fail
    all_goals
      refine wpNamed ?_
      intro V9 hV9
      obtain ⟨L9, g1, g2, g3⟩ := mset_int l k 3 (IntKind.i64.wrap (3 * (q : Int))) KK.out (by omega) (by omega) hns
      have H9 : DE g n cap C R0 a w 47 x0 x1 x2 x3 x4 x5 x6 x7 (some ⟨r, 0, none⟩) cp L9 V9 := by rw [hV9]; first | exact DE.setRow (by repeat (first | exact hDE1 | with_reducible refine DE.drew ?_ | with_reducible refine DE.alloc ?_ _ hgl nwC hwR)) hgl nwC hwR g1 g3 | exact (DE.setRow (by repeat (first | exact hDE1 | with_reducible refine DE.drew ?_ | with_reducible refine DE.alloc ?_ _ hgl nwC hwR)) hgl nwC hwR g1 g3).alloc _ hgl nwC hwR
      have hle : L9.length ≤ 9 := by have := HL.out; omega
      clear hV9 hm0 hm1 hm2 g3 g1 hu hfz k8
      have HE := Lib.hid H9
      have hle9 := Lib.hid (show L9.length ≤ 9 from hle)
      have k0 := HE.out.c0
      have k1 := HE.out.c1
      have k2 := HE.out.c2
      have k3 := HE.out.c3
      have k4 := HE.out.c4
      have k5 := HE.out.c5
      have k6 := HE.out.c6
      have k7 := HE.out.c7
      have k8 := HE.out.c8
      obtain ⟨v0, z0⟩ := HE.out.zc 0 (by decide)
      obtain ⟨v1, z1⟩ := HE.out.zc 1 (by decide)
      obtain ⟨v2, z2⟩ := HE.out.zc 2 (by decide)
      obtain ⟨v3, z3⟩ := HE.out.zc 3 (by decide)
      obtain ⟨v4, z4⟩ := HE.out.zc 4 (by decide)
      obtain ⟨v5, z5⟩ := HE.out.zc 5 (by decide)
      obtain ⟨v6, z6⟩ := HE.out.zc 6 (by decide)
      obtain ⟨v7, z7⟩ := HE.out.zc 7 (by decide)
      obtain ⟨v8, z8⟩ := HE.out.zc 8 (by decide)
      have zf := HE.out.zf
      have KC := HE.out.LC
      have hLZ := HE.out.LZ
      go_wp2
      refine set9_post HE.out.zc (v0 := .int .i64 x0) (v1 := .int .i64 x1) (v2 := .int .i64 x2) (v3 := .int .i64 x3) (v4 := .int .i64 x4) (v5 := .int .i64 x5) (v6 := .int .i64 x6) (v7 := .int .i64 x7) (v8 := .slice (some ⟨r, 0, none⟩) L9.length cp) ?_
      intro Y hY ⟨e0, e1, e2, e3, e4, e5, e6, e7, e8⟩
      exact bodyPost_ret (v := .agg #[.int .i64 x0, .int .i64 x1, .int .i64 x2, .int .i64 x3, .int .i64 x4, .int .i64 x5, .int .i64 x6, .int .i64 x7, .slice (some ⟨r, 0, none⟩) L9.length cp]) (by simp [results, Tryz.results29, go_sem, e0, e1, e2, e3, e4, e5, e6, e7, e8]) rfl ⟨⟨x0, x1, x2, x3, x4, x5, x6, x7, (some ⟨r, 0, none⟩), cp, L9, rfl, hle9.out, g2, by rw [hY]; exact pown_mono (set9_own HE.out.own hwR ..) (Nat.le_of_lt hwR)⟩, by rw [hY]; exact set9_src HE.out.src hgl .., by rw [hY]; exact set9_kept HE.out.kept (Nat.le_refl _) ..⟩
  by_cases c2 : c = 2
  · subst c2
    obtain ⟨u, hu⟩ := own_has5 H.own rfl k 4 KK.out (by omega)
    have hfz := fun o => H.own.frozenAt (j := o)
    have L7 : r < V3.heap.size := (H.own.lt r rfl).2
    have k8 := H.c8
    have KC := H.LC
    have hs3 := H.src
    have hVg : V3.heap.size ≠ g := by have := hs3.lt; omega
    have hli0 : ∀ x : Obj, V3.heap.size < (V3.alloc x).heap.size := fun x => by simp
    have hli1 : ∀ x : Obj, V3.heap.size < (V3.alloc x).drew.heap.size := fun x => by simp
    have HH := Lib.hid H
    clear H
    go_wp2_with fail
    go_region_with (go_at_call 47; refine (l01NextN_c g a n cap _ _ hn (by first | exact hs3 | exact hs3.drew | exact hs3.alloc _ | exact (hs3.alloc _).drew | exact (hs3.drew).alloc _)).mono ?_; rintro e w1 ⟨⟨q, rfl, hq1, hq2⟩, hs4, HK⟩; simp at hq1; clear hq2; obtain ⟨hq1, hq3⟩ := hq1; have hK3 : Kept g V3 w1 := (by first | exact HK | exact (Kept.refl g V3).drew.trans HK | exact ((Kept.refl g V3).alloc _).trans HK | exact ((Kept.refl g V3).alloc _).drew.trans HK | exact ((Kept.refl g V3).drew.alloc _).trans HK); have hm0 := ((kcell hK3).1 r _ L7 hrg).trans hu; have hm1 := fun o => ((kcell hK3).2 r o L7 hrg).trans (hfz o); have hm2 := ((kcell hK3).1 C 8 KC nCg).trans k8; have hsz := hK3.size; have hlr := Nat.lt_of_lt_of_le L7 hsz; have hlC := Nat.lt_of_lt_of_le KC hsz; have hDE1 := HH.out.keep hs4 hK3 hgl nwC hwR; have hm7 := zn3_get hq3; have hm6 := zn3_cell hq3 w1 2; (try (have hm5 := ((kcell HK).1 V3.heap.size q (hli1 _) hVg).trans (zn3_cell hq3 V3 2))); (try (have hm5 := ((kcell HK).1 V3.heap.size q (hli0 _) hVg).trans (zn3_cell hq3 V3 2))))
    all_goals go_upto_region 20 with fail
    all_goals
      refine wpNamed ?_
      intro V9 hV9
      obtain ⟨L9, g1, g2, g3⟩ := mset_int l k 4 (zn3 q) KK.out (by omega) (by omega) hns
      have H9 : DE g n cap C R0 a w 47 x0 x1 x2 x3 x4 x5 x6 x7 (some ⟨r, 0, none⟩) cp L9 V9 := by rw [hV9]; first | exact DE.setRow (by repeat (first | exact hDE1 | with_reducible refine DE.drew ?_ | with_reducible refine DE.alloc ?_ _ hgl nwC hwR)) hgl nwC hwR g1 g3 | exact (DE.setRow (by repeat (first | exact hDE1 | with_reducible refine DE.drew ?_ | with_reducible refine DE.alloc ?_ _ hgl nwC hwR)) hgl nwC hwR g1 g3).alloc _ hgl nwC hwR
      have hle : L9.length ≤ 9 := by have := HL.out; omega
      clear hV9 hm0 hm1 hm2 g3 g1 hu hfz k8
      have HE := Lib.hid H9
      have hle9 := Lib.hid (show L9.length ≤ 9 from hle)
      have k0 := HE.out.c0
      have k1 := HE.out.c1
      have k2 := HE.out.c2
      have k3 := HE.out.c3
      have k4 := HE.out.c4
      have k5 := HE.out.c5
      have k6 := HE.out.c6
      have k7 := HE.out.c7
      have k8 := HE.out.c8
      obtain ⟨v0, z0⟩ := HE.out.zc 0 (by decide)
      obtain ⟨v1, z1⟩ := HE.out.zc 1 (by decide)
      obtain ⟨v2, z2⟩ := HE.out.zc 2 (by decide)
      obtain ⟨v3, z3⟩ := HE.out.zc 3 (by decide)
      obtain ⟨v4, z4⟩ := HE.out.zc 4 (by decide)
      obtain ⟨v5, z5⟩ := HE.out.zc 5 (by decide)
      obtain ⟨v6, z6⟩ := HE.out.zc 6 (by decide)
      obtain ⟨v7, z7⟩ := HE.out.zc 7 (by decide)
      obtain ⟨v8, z8⟩ := HE.out.zc 8 (by decide)
      have zf := HE.out.zf
      have KC := HE.out.LC
      have hLZ := HE.out.LZ
      go_wp2
      refine set9_post HE.out.zc (v0 := .int .i64 x0) (v1 := .int .i64 x1) (v2 := .int .i64 x2) (v3 := .int .i64 x3) (v4 := .int .i64 x4) (v5 := .int .i64 x5) (v6 := .int .i64 x6) (v7 := .int .i64 x7) (v8 := .slice (some ⟨r, 0, none⟩) L9.length cp) ?_
      intro Y hY ⟨e0, e1, e2, e3, e4, e5, e6, e7, e8⟩
      exact bodyPost_ret (v := .agg #[.int .i64 x0, .int .i64 x1, .int .i64 x2, .int .i64 x3, .int .i64 x4, .int .i64 x5, .int .i64 x6, .int .i64 x7, .slice (some ⟨r, 0, none⟩) L9.length cp]) (by simp [results, Tryz.results29, go_sem, e0, e1, e2, e3, e4, e5, e6, e7, e8]) rfl ⟨⟨x0, x1, x2, x3, x4, x5, x6, x7, (some ⟨r, 0, none⟩), cp, L9, rfl, hle9.out, g2, by rw [hY]; exact pown_mono (set9_own HE.out.own hwR ..) (Nat.le_of_lt hwR)⟩, by rw [hY]; exact set9_src HE.out.src hgl .., by rw [hY]; exact set9_kept HE.out.kept (Nat.le_refl _) ..⟩
  by_cases c3 : c = 3
  · subst c3
    have k0 := H.c0
    have k1 := H.c1
    have k2 := H.c2
    have k3 := H.c3
    have k4 := H.c4
    have k5 := H.c5
    have k6 := H.c6
    have k7 := H.c7
    have k8 := H.c8
    have KC := H.LC
    have kf := H.cf
    have HH := Lib.hid H
    clear H
    have H6 := Lib.hid ((HH.out.put6 hgl nwC x4).put7 hgl nwC x5)
    go_upto_region 20 with fail
    clear k0 k1 k2 k3 k4 k5 k6 k7 k8 KC kf
    have hEQ := H6.out
    revert hEQ
    generalize (V3.setCell ⟨C, 6, none⟩ (.int .i64 x4)).setCell ⟨C, 7, none⟩ (.int .i64 x5) = V9
    intro H9
    clear H6 HH
    have HE := Lib.hid H9
    have hle9 := Lib.hid (show l.length ≤ 9 from (by have := HL.out; omega))
    have k0 := HE.out.c0
    have k1 := HE.out.c1
    have k2 := HE.out.c2
    have k3 := HE.out.c3
    have k4 := HE.out.c4
    have k5 := HE.out.c5
    have k6 := HE.out.c6
    have k7 := HE.out.c7
    have k8 := HE.out.c8
    obtain ⟨v0, z0⟩ := HE.out.zc 0 (by decide)
    obtain ⟨v1, z1⟩ := HE.out.zc 1 (by decide)
    obtain ⟨v2, z2⟩ := HE.out.zc 2 (by decide)
    obtain ⟨v3, z3⟩ := HE.out.zc 3 (by decide)
    obtain ⟨v4, z4⟩ := HE.out.zc 4 (by decide)
    obtain ⟨v5, z5⟩ := HE.out.zc 5 (by decide)
    obtain ⟨v6, z6⟩ := HE.out.zc 6 (by decide)
    obtain ⟨v7, z7⟩ := HE.out.zc 7 (by decide)
    obtain ⟨v8, z8⟩ := HE.out.zc 8 (by decide)
    have zf := HE.out.zf
    have KC := HE.out.LC
    have hLZ := HE.out.LZ
    go_wp2
    refine set9_post HE.out.zc (v0 := .int .i64 x0) (v1 := .int .i64 x1) (v2 := .int .i64 x2) (v3 := .int .i64 x3) (v4 := .int .i64 x4) (v5 := .int .i64 x5) (v6 := .int .i64 x4) (v7 := .int .i64 x5) (v8 := .slice (some ⟨r, 0, none⟩) l.length cp) ?_
    intro Y hY ⟨e0, e1, e2, e3, e4, e5, e6, e7, e8⟩
    exact bodyPost_ret (v := .agg #[.int .i64 x0, .int .i64 x1, .int .i64 x2, .int .i64 x3, .int .i64 x4, .int .i64 x5, .int .i64 x4, .int .i64 x5, .slice (some ⟨r, 0, none⟩) l.length cp]) (by simp [results, Tryz.results29, go_sem, e0, e1, e2, e3, e4, e5, e6, e7, e8]) rfl ⟨⟨x0, x1, x2, x3, x4, x5, x4, x5, (some ⟨r, 0, none⟩), cp, l, rfl, hle9.out, hns, by rw [hY]; exact pown_mono (set9_own HE.out.own hwR ..) (Nat.le_of_lt hwR)⟩, by rw [hY]; exact set9_src HE.out.src hgl .., by rw [hY]; exact set9_kept HE.out.kept (Nat.le_refl _) ..⟩
  by_cases c4 : c = 4
  · subst c4
    have k0 := H.c0
    have k1 := H.c1
    have k2 := H.c2
    have k3 := H.c3
    have k4 := H.c4
    have k5 := H.c5
    have k6 := H.c6
    have k7 := H.c7
    have k8 := H.c8
    have KC := H.LC
    have kf := H.cf
    have HH := Lib.hid H
    clear H
    have H6 := Lib.hid (HH.out.put8 hgl nwC none 0 [] (World.ownsRow_nil _ _ _ _) (by intro j e; simp [Value.ownBlock] at e))
    go_upto_region 20 with fail
    clear k0 k1 k2 k3 k4 k5 k6 k7 k8 KC kf
    have hEQ := H6.out
    revert hEQ
    simp only [List.length_nil]
    generalize V3.setCell ⟨C, 8, none⟩ (.slice none 0 0) = V9
    intro H9
    clear H6 HH
    have H9 := (H9 : DE g n cap C R0 a w 47 x0 x1 x2 x3 x4 x5 x6 x7 none 0 [] V9)
    have HE := Lib.hid H9
    have hle9 := Lib.hid (show ([] : List Mk).length ≤ 9 from (by simp))
    have k0 := HE.out.c0
    have k1 := HE.out.c1
    have k2 := HE.out.c2
    have k3 := HE.out.c3
    have k4 := HE.out.c4
    have k5 := HE.out.c5
    have k6 := HE.out.c6
    have k7 := HE.out.c7
    have k8 := HE.out.c8
    obtain ⟨v0, z0⟩ := HE.out.zc 0 (by decide)
    obtain ⟨v1, z1⟩ := HE.out.zc 1 (by decide)
    obtain ⟨v2, z2⟩ := HE.out.zc 2 (by decide)
    obtain ⟨v3, z3⟩ := HE.out.zc 3 (by decide)
    obtain ⟨v4, z4⟩ := HE.out.zc 4 (by decide)
    obtain ⟨v5, z5⟩ := HE.out.zc 5 (by decide)
    obtain ⟨v6, z6⟩ := HE.out.zc 6 (by decide)
    obtain ⟨v7, z7⟩ := HE.out.zc 7 (by decide)
    obtain ⟨v8, z8⟩ := HE.out.zc 8 (by decide)
    have zf := HE.out.zf
    have KC := HE.out.LC
    have hLZ := HE.out.LZ
    go_wp2
    refine set9_post HE.out.zc (v0 := .int .i64 x0) (v1 := .int .i64 x1) (v2 := .int .i64 x2) (v3 := .int .i64 x3) (v4 := .int .i64 x4) (v5 := .int .i64 x5) (v6 := .int .i64 x6) (v7 := .int .i64 x7) (v8 := .slice none ([] : List Mk).length 0) ?_
    intro Y hY ⟨e0, e1, e2, e3, e4, e5, e6, e7, e8⟩
    exact bodyPost_ret (v := .agg #[.int .i64 x0, .int .i64 x1, .int .i64 x2, .int .i64 x3, .int .i64 x4, .int .i64 x5, .int .i64 x6, .int .i64 x7, .slice none ([] : List Mk).length 0]) (by simp [results, Tryz.results29, go_sem, e0, e1, e2, e3, e4, e5, e6, e7, e8]) rfl ⟨⟨x0, x1, x2, x3, x4, x5, x6, x7, none, 0, ([] : List Mk), rfl, hle9.out, NSm.nil, by rw [hY]; exact pown_mono (set9_own HE.out.own hwR ..) (Nat.le_of_lt hwR)⟩, by rw [hY]; exact set9_src HE.out.src hgl .., by rw [hY]; exact set9_kept HE.out.kept (Nat.le_refl _) ..⟩
  by_cases c5 : c = 5
  · subst c5
    obtain ⟨u1, hu1⟩ := own_has5 H.own rfl k 1 KK.out (by omega)
    obtain ⟨u2, hu2⟩ := own_has5 H.own rfl k 2 KK.out (by omega)
    have hfz := fun o => H.own.frozenAt (j := o)
    have L7 : r < V3.heap.size := (H.own.lt r rfl).2
    have k0 := H.c0
    have k1 := H.c1
    have k2 := H.c2
    have k3 := H.c3
    have k4 := H.c4
    have k5 := H.c5
    have k6 := H.c6
    have k7 := H.c7
    have k8 := H.c8
    have KC := H.LC
    have kf := H.cf
    have HH := Lib.hid H
    clear H kf
    have CM := Lib.hid (fun w => l04MiddleE_c x0 x1 x2 x3 w)
    generalize fl2 (x0 + x2) = p at CM
    generalize fl2 (x1 + x3) = q at CM
    go_wp2_with fail
    go_region_with (go_at_call 48; refine (CM.out _).mono ?_; rintro e w1 ⟨rfl, hb⟩; have hb3 : Below V3.heap.size V3 w1 := (by first | exact hb | exact Below.trans (Below.refl V3.heap.size V3).drew (by simpa using hb)); have hDE1 := HH.out.below hb3 hgl nwC hwR; have hm0 := (hb3.cell (p := ⟨r, _, none⟩) L7).trans hu1; have hm9 := (hb3.cell (p := ⟨r, _, none⟩) L7).trans hu2; have hm1 := fun o => (hb3.frozen (p := ⟨r, o, none⟩) L7).trans (hfz o); have hm2 := (hb3.cell (p := ⟨C, 8, none⟩) KC).trans k8; have hsz := hb3.size; have hlr := Nat.lt_of_lt_of_le L7 hsz; have hlC := Nat.lt_of_lt_of_le KC hsz)
    all_goals go_upto_region 20 with fail
    all_goals
      refine wpNamed ?_
      intro V9 hV9
      obtain ⟨L8, f1, f2, f3⟩ := mset_int l k 1 p KK.out (by omega) (by omega) hns
      obtain ⟨L9, g1, g2, g3⟩ := mset_int L8 k 2 q (by rw [f1]; exact KK.out) (by omega) (by omega) f2
      have H9 : DE g n cap C R0 a w 47 x0 x1 x2 x3 x4 x5 x6 x7 (some ⟨r, 0, none⟩) cp L9 V9 := by rw [hV9]; exact DE.setRow (DE.setRow (by repeat (first | exact hDE1 | with_reducible refine DE.drew ?_)) hgl nwC hwR f1 f3) hgl nwC hwR g1 g3
      have hle : L9.length ≤ 9 := by have := HL.out; omega
      clear hV9 hm0 hm1 hm2 hm9 g3 f3 g1 f1 hu1 hu2 hfz k0 k1 k2 k3 k4 k5 k6 k7 k8 KC
      have HE := Lib.hid H9
      have hle9 := Lib.hid (show L9.length ≤ 9 from hle)
      have k0 := HE.out.c0
      have k1 := HE.out.c1
      have k2 := HE.out.c2
      have k3 := HE.out.c3
      have k4 := HE.out.c4
      have k5 := HE.out.c5
      have k6 := HE.out.c6
      have k7 := HE.out.c7
      have k8 := HE.out.c8
      obtain ⟨v0, z0⟩ := HE.out.zc 0 (by decide)
      obtain ⟨v1, z1⟩ := HE.out.zc 1 (by decide)
      obtain ⟨v2, z2⟩ := HE.out.zc 2 (by decide)
      obtain ⟨v3, z3⟩ := HE.out.zc 3 (by decide)
      obtain ⟨v4, z4⟩ := HE.out.zc 4 (by decide)
      obtain ⟨v5, z5⟩ := HE.out.zc 5 (by decide)
      obtain ⟨v6, z6⟩ := HE.out.zc 6 (by decide)
      obtain ⟨v7, z7⟩ := HE.out.zc 7 (by decide)
      obtain ⟨v8, z8⟩ := HE.out.zc 8 (by decide)
      have zf := HE.out.zf
      have KC := HE.out.LC
      have hLZ := HE.out.LZ
      go_wp2
      refine set9_post HE.out.zc (v0 := .int .i64 x0) (v1 := .int .i64 x1) (v2 := .int .i64 x2) (v3 := .int .i64 x3) (v4 := .int .i64 x4) (v5 := .int .i64 x5) (v6 := .int .i64 x6) (v7 := .int .i64 x7) (v8 := .slice (some ⟨r, 0, none⟩) L9.length cp) ?_
      intro Y hY ⟨e0, e1, e2, e3, e4, e5, e6, e7, e8⟩
      exact bodyPost_ret (v := .agg #[.int .i64 x0, .int .i64 x1, .int .i64 x2, .int .i64 x3, .int .i64 x4, .int .i64 x5, .int .i64 x6, .int .i64 x7, .slice (some ⟨r, 0, none⟩) L9.length cp]) (by simp [results, Tryz.results29, go_sem, e0, e1, e2, e3, e4, e5, e6, e7, e8]) rfl ⟨⟨x0, x1, x2, x3, x4, x5, x6, x7, (some ⟨r, 0, none⟩), cp, L9, rfl, hle9.out, g2, by rw [hY]; exact pown_mono (set9_own HE.out.own hwR ..) (Nat.le_of_lt hwR)⟩, by rw [hY]; exact set9_src HE.out.src hgl .., by rw [hY]; exact set9_kept HE.out.kept (Nat.le_refl _) ..⟩
  by_cases c6 : c = 6
  · subst c6
    have HH := Lib.hid H
    have hl18 := HL.out
    clear H HL KK hki hki0
    go_wp2_with fail
    go_loopg [] (10 - l.length) (fun mm wr => ∃ (R cpR : Nat) (L : List Mk), L.length + mm = 10 ∧ 1 ≤ mm ∧ 1 ≤ L.length ∧ NSm L ∧ Hid (DE g n cap C R0 a w 47 x0 x1 x2 x3 x4 x5 x6 x7 (some ⟨R, 0, none⟩) cpR L wr))
    case atStart => exact ⟨r, cp, l, by omega, by omega, by omega, hns, HH⟩
    case round =>
      clear HH hns hl18 hrC hr0 hrg
      obtain ⟨R, cpR, L, hLm, hm1, hL1, hns, H⟩ := hrel
      have k8 := H.out.c8
      have KC := H.out.LC
      have hs3 := H.out.src
      go_wp2_with fail
      go_cut [77] (fun b wx => ∃ q : Nat, q < 2 ∧ b = .bool (decide ((L.length : Int) < 8 + q)) ∧ Src g a n cap wx ∧ Kept g wr wx)
      case first =>
        go_region_with (go_at_call 47; refine (l01NextN_c g a n cap _ _ hn (by first | exact hs3 | exact hs3.drew)).mono ?_; rintro e w1 ⟨⟨q, rfl, hq1, hq2⟩, hs4, HK⟩; simp at hq1; clear hq2; obtain ⟨hq1, hq3⟩ := hq1; have hK3 : Kept g wr w1 := (by first | exact HK | exact (Kept.refl g wr).drew.trans HK); have hm0 := ((kcell hK3).1 C 8 KC nCg).trans k8; have hw40 : IntKind.i64.wrap (8 + (q : Int)) = 8 + q := (by rw [IntKind.wrap_i64]; omega))
        all_goals go_wp2_with fail
        all_goals (go_meet; exact ⟨q, hq3, by simp, by first | exact hs4 | exact hs4.drew, by first | exact hK3 | exact hK3.drew⟩)
      case rest =>
        obtain ⟨q, hq, rfl, hs4, HK⟩ := hcut
        obtain ⟨Y, rfl⟩ : ∃ x : World, x = wc := ⟨_, rfl⟩
        have HY := Lib.hid (H.out.keep hs4 HK hgl nwC hwR)
        clear H k8 KC hs3 hs4 HK
        by_cases hlt : (L.length : Int) < 8 + q
        case pos =>
          have k8 := HY.out.c8
          have KC := HY.out.LC
          have hL9 : L.length < 10 := by omega
          go_wp2_with fail
          go_cut [5] (fun s5 wx => ∃ (B : Nat) (s : ByteArray), s5 = .pointer (some ⟨B, 0, none⟩) ∧ s.size ≤ 64 ∧ wx.cell? ⟨B, 0, none⟩ = some (.string s) ∧ (∃ z : Int, wx.cell? ⟨B, 1, none⟩ = some (.int .i64 z)) ∧ (∃ z : Int, wx.cell? ⟨B, 2, none⟩ = some (.int .i64 z)) ∧ (∃ z : Int, wx.cell? ⟨B, 3, none⟩ = some (.int .i64 z)) ∧ (∃ z : Int, wx.cell? ⟨B, 4, none⟩ = some (.int .i64 z)) ∧ B < wx.heap.size ∧ Y.heap.size ≤ B ∧ Below Y.heap.size Y wx)
          case first =>
            have hw9 : IntKind.i64.wrap (L.length : Int) = (L.length : Int) := by rw [IntKind.wrap_i64]; omega
            have z110 : (ByteArray.mk #[110]).size = 1 := rfl
            go_region_held3 (fun wx => Below Y.heap.size Y wx ∧ ∀ b o, b < Y.heap.size → wx.cell? ⟨b, o, none⟩ = Y.cell? ⟨b, o, none⟩)
              (repeat (first | with_reducible assumption | with_reducible refine held_set5 ?_ (by first | with_reducible exact Nat.le_refl _ | with_reducible exact Nat.le_add_right _ _ | with_reducible assumption | omega | (simp; omega)) _ _ _ _ _ | with_reducible exact held_back (by with_reducible assumption) (by first | with_reducible exact Nat.le_refl _ | with_reducible exact Nat.le_add_right _ _ | with_reducible assumption | omega | (simp; omega)) | with_reducible exact held_back (held_back (by with_reducible assumption) (by first | with_reducible exact Nat.le_refl _ | with_reducible exact Nat.le_add_right _ _ | with_reducible assumption | omega | (simp; omega))) (by first | with_reducible exact Nat.le_refl _ | with_reducible exact Nat.le_add_right _ _ | with_reducible assumption | omega | (simp; omega)) | with_reducible refine held_set4 ?_ (by first | with_reducible exact Nat.le_refl _ | with_reducible exact Nat.le_add_right _ _ | with_reducible assumption | omega | (simp; omega)) _ _ _ _ | with_reducible refine held_set2 ?_ (by first | with_reducible exact Nat.le_refl _ | with_reducible exact Nat.le_add_right _ _ | with_reducible assumption | omega | (simp; omega)) _ _ | with_reducible refine held_alloc ?_ _ | with_reducible exact held_step (by assumption) hb | with_reducible refine held_drew ?_ | with_reducible exact held_refl _ | with_reducible exact held_start _ _ | with_reducible exact held_begin _))
              (first | (go_at_call 49; refine (l01NumS_c L.length _ hL9).mono ?_; rintro e w1 ⟨⟨s1, rfl, hs1⟩, hb⟩; have ho1 : ¬ (9223372036854775807 < (ByteArray.mk #[110]).size + s1.size) := (by rw [z110, hs1]; decide); have ho2 : ¬ (9223372036854775807 < 1 + s1.size) := (by rw [hs1]; decide); have ho3 : ¬ (9223372036854775806 < s1.size) := (by rw [hs1]; decide); have hs1 := Lib.hid hs1; have hz := held_size (by with_reducible assumption) hb; (try simp at hz); have hs := hb.size; (try simp at hs); obtain ⟨hc, hf⟩ := bcell hb; (try have hl := below_lt hb); (try simp at hl)))
            all_goals (go_wp2_with fail; go_meet; exact ⟨_, ByteArray.mk #[110] ++ s1, rfl, (by rw [ByteArray.size_append, z110, hs1.out]; decide), (by first | (go_light; go_simp; done) | (simp (maxDischargeDepth := 7) [go_sem, *]; done)), (by first | (go_light; go_simp; done) | (simp (maxDischargeDepth := 7) [go_sem, *]; done)), (by first | (go_light; go_simp; done) | (simp (maxDischargeDepth := 7) [go_sem, *]; done)), (by first | (go_light; go_simp; done) | (simp (maxDischargeDepth := 7) [go_sem, *]; done)), (by first | (go_light; go_simp; done) | (simp (maxDischargeDepth := 7) [go_sem, *]; done)), (by go_light; first | (simp; done) | (simp; omega) | omega), (by go_light; first | exact Nat.le_refl _ | (simp; done) | (simp; omega) | omega), (held_of (by with_reducible exact And.left (by with_reducible assumption))).1⟩)
          case rest =>
            obtain ⟨B, s, rfl, hs64, b0, ⟨y0, b1⟩, ⟨y1, b2⟩, ⟨y2, b3⟩, ⟨y3, b4⟩, hB1, hB2, hb⟩ := hcut
            obtain ⟨V6, rfl⟩ : ∃ x : World, x = wc := ⟨_, rfl⟩
            have H6 := Lib.hid (HY.out.below hb hgl nwC hwR)
            have hBC : B ≠ C := by omega
            clear k8 KC HY hb hB2 hlt hL9
            have k8 := H6.out.c8
            have KC := H6.out.LC
            have kf := H6.out.cf
            have O6 := Lib.hid H6.out.own
            have hLR := H6.out.LR
            have hRl := (O6.out.lt R rfl).2
            have hnr := H6.out.nr R rfl
            have hL1 := Lib.hid (World.ownsRow_lit (base := V6.heap.size) (e := 47) (size := 5) V6 #[] 0 (Nat.le_refl _) (by unfold maxLen; omega) rfl)
            have hL2 := Lib.hid (fun o : Obj => own_lit5 V6 o 47 (Nat.le_refl V6.heap.size))
            have hNW := Lib.hid (newsAt_own O6.out)
            have F5 := And.intro b0 (And.intro b1 (And.intro b2 (And.intro b3 b4)))
            clear b0 b1 b2 b3 b4
            have hL9 : L.length ≤ 9 := by omega
            go_upto_region 19 with fail
            rw [show Op.load 26 (Operand.tmp 90) = id (Op.load 26 (Operand.tmp 90)) from rfl]
            go_region_held3 (fun wx => wx.cell? ⟨B, 0, none⟩ = some (.string s) ∧ wx.cell? ⟨B, 1, none⟩ = some (.int .i64 y0) ∧ wx.cell? ⟨B, 2, none⟩ = some (.int .i64 y1) ∧ wx.cell? ⟨B, 3, none⟩ = some (.int .i64 y2) ∧ wx.cell? ⟨B, 4, none⟩ = some (.int .i64 y3))
              (repeat (first | with_reducible assumption | with_reducible exact F5 | with_reducible exact f5_set (by with_reducible assumption) hBC _ | with_reducible refine f5_alloc ?_ _ | with_reducible refine f5_drew ?_ | with_reducible exact f5_grow (by with_reducible assumption) hgrow2 (by simp; omega) | with_reducible exact f5_grow (by with_reducible assumption) hgrow1 (by simp; omega) | exact f5_grow (f5_alloc (by with_reducible assumption) _) hgrow2 (by simp; omega)))
              (first | (refine step_app0 (by rfl) (.tmp 89) (.tmp 91) 26 (by rfl) V6.heap.size 47 i0 _ 5 48 Tryz.underlying26 hi ti0 ti1 ti2 rfl (by decide) (V6.heap.size) 0 0 [] (by rfl) (by first | ((repeat (first | with_reducible exact hL1.out | with_reducible exact hL2.out _ | with_reducible refine World.ownsRow.drew ?_ | with_reducible refine World.ownsRow.alloc ?_ _)); done) | fail) (some ⟨R, 0, none⟩) L.length cpR (mflat L) (by rfl) (mflat_length L) (newsAt_own (pown_below O6.out (by first | exact Below.refl _ _ | (repeat (first | with_reducible exact Below.refl _ _ | with_reducible refine Below.drew ?_ | with_reducible refine Below.alloc ?_ (by first | exact Nat.le_refl _ | (simp; done) | (simp; omega)) _))))) (mflat_one L) (by unfold maxLen; omega) (by omega) (by first | exact Nat.le_refl _ | (simp; done) | (simp; omega)) ?_; intro R1 cp1 U1 hown1 hgrow1 hat1 hlt1; rw [Nat.zero_add, List.nil_append] at hown1; have hBA := Below.trans (show Below V6.heap.size V6 _ from (by first | exact Below.refl _ _ | (repeat (first | with_reducible exact Below.refl _ _ | with_reducible refine Below.drew ?_ | with_reducible refine Below.alloc ?_ (by first | exact Nat.le_refl _ | (simp; done) | (simp; omega)) _)))) (pgrown_below (base := V6.heap.size) hgrow1 (by first | (simp; done) | (simp; omega) | omega) (by intro j e; simp at e; omega)); have hs1 := hBA.size; have hs2 := hgrow1.size; (try simp at hs2); (try simp at hat1); have hog1 := (hown1.lt R1 rfl).1) | (refine step_app0 (by rfl) (.tmp 89) (.tmp 91) 26 (by rfl) V6.heap.size 47 i0 _ 5 48 Tryz.underlying26 hi ti0 ti1 ti2 rfl (by decide) (V6.heap.size + 1) 0 0 [] (by rfl) (by first | ((repeat (first | with_reducible exact hL1.out | with_reducible exact hL2.out _ | with_reducible refine World.ownsRow.drew ?_ | with_reducible refine World.ownsRow.alloc ?_ _)); done) | fail) (some ⟨R, 0, none⟩) L.length cpR (mflat L) (by rfl) (mflat_length L) (newsAt_own (pown_below O6.out (by first | exact Below.refl _ _ | (repeat (first | with_reducible exact Below.refl _ _ | with_reducible refine Below.drew ?_ | with_reducible refine Below.alloc ?_ (by first | exact Nat.le_refl _ | (simp; done) | (simp; omega)) _))))) (mflat_one L) (by unfold maxLen; omega) (by omega) (by first | exact Nat.le_refl _ | (simp; done) | (simp; omega)) ?_; intro R1 cp1 U1 hown1 hgrow1 hat1 hlt1; rw [Nat.zero_add, List.nil_append] at hown1; have hBA := Below.trans (show Below V6.heap.size V6 _ from (by first | exact Below.refl _ _ | (repeat (first | with_reducible exact Below.refl _ _ | with_reducible refine Below.drew ?_ | with_reducible refine Below.alloc ?_ (by first | exact Nat.le_refl _ | (simp; done) | (simp; omega)) _)))) (pgrown_below (base := V6.heap.size) hgrow1 (by first | (simp; done) | (simp; omega) | omega) (by intro j e; simp at e; omega)); have hs1 := hBA.size; have hs2 := hgrow1.size; (try simp at hs2); (try simp at hat1); have hog1 := (hown1.lt R1 rfl).1) | (refine step_app0 (by rfl) (.tmp 92) (.tmp 94) 26 (by rfl) V6.heap.size 47 i0 _ 5 48 Tryz.underlying26 hi ti0 ti1 ti2 rfl (by decide) R1 L.length cp1 (mflat L) (by first | rfl | exact congrArg (fun n => Value.slice (some ⟨R1, 0, none⟩) n cp1) (Nat.zero_add L.length)) (by first | ((repeat (first | with_reducible exact hown1 | with_reducible refine World.ownsRow.drew ?_ | with_reducible refine World.ownsRow.alloc ?_ _)); done) | fail) (some ⟨V6.heap.size, 0, none⟩) 1 1 [.string s, .int .i64 y0, .int .i64 y1, .int .i64 y2, .int .i64 y3] (by rfl) rfl (.inr ⟨_, rfl, World.news_of_block (by first | ((repeat (first | with_reducible exact pheap_new (by first | rfl | (simp; done) | (simp; omega)) | with_reducible refine heap_drewD ?_ | rw [Below.heap_alloc _ _ _ (by first | (simp; done) | (simp; omega) | omega)] | rw [hgrow1.block _ (by first | (simp; done) | (simp; omega) | omega) (by first | (simp; done) | (simp; omega) | omega)])); done) | fail)⟩) (one5 _ _ _ _ _) (by unfold maxLen; omega) (by omega) (by first | exact hs1 | (simp; omega)) ?_; intro R2 cp2 U2 hown2 hgrow2 hat2 hlt2; have hBA2 := Below.trans (show Below V6.heap.size V6 _ from (by repeat (first | with_reducible exact hBA | with_reducible refine Below.drew ?_ | with_reducible refine Below.alloc ?_ (by first | exact hs1 | (simp; omega)) _))) (pgrown_below (base := V6.heap.size) hgrow2 (by first | (simp; done) | (simp; omega) | omega) (by intro j e; simp at e; omega)); have hs3 := hBA2.size; have hog2 := (hown2.lt R2 rfl).1; have hD2 := Lib.hid (H6.out.below hBA2 hgl nwC hwR); have kk8 := hD2.out.c8; have kkf := hD2.out.cf; have kkC := hD2.out.LC) | (refine step_app0 (by rfl) (.tmp 92) (.tmp 94) 26 (by rfl) V6.heap.size 47 i0 _ 5 48 Tryz.underlying26 hi ti0 ti1 ti2 rfl (by decide) R1 L.length cp1 (mflat L) (by first | rfl | exact congrArg (fun n => Value.slice (some ⟨R1, 0, none⟩) n cp1) (Nat.zero_add L.length)) (by first | ((repeat (first | with_reducible exact hown1 | with_reducible refine World.ownsRow.drew ?_ | with_reducible refine World.ownsRow.alloc ?_ _)); done) | fail) (some ⟨V6.heap.size + 1, 0, none⟩) 1 1 [.string s, .int .i64 y0, .int .i64 y1, .int .i64 y2, .int .i64 y3] (by rfl) rfl (.inr ⟨_, rfl, World.news_of_block (by first | ((repeat (first | with_reducible exact pheap_new (by first | rfl | (simp; done) | (simp; omega)) | with_reducible refine heap_drewD ?_ | rw [Below.heap_alloc _ _ _ (by first | (simp; done) | (simp; omega) | omega)] | rw [hgrow1.block _ (by first | (simp; done) | (simp; omega) | omega) (by first | (simp; done) | (simp; omega) | omega)])); done) | fail)⟩) (one5 _ _ _ _ _) (by unfold maxLen; omega) (by omega) (by first | exact hs1 | (simp; omega)) ?_; intro R2 cp2 U2 hown2 hgrow2 hat2 hlt2; have hBA2 := Below.trans (show Below V6.heap.size V6 _ from (by repeat (first | with_reducible exact hBA | with_reducible refine Below.drew ?_ | with_reducible refine Below.alloc ?_ (by first | exact hs1 | (simp; omega)) _))) (pgrown_below (base := V6.heap.size) hgrow2 (by first | (simp; done) | (simp; omega) | omega) (by intro j e; simp at e; omega)); have hs3 := hBA2.size; have hog2 := (hown2.lt R2 rfl).1; have hD2 := Lib.hid (H6.out.below hBA2 hgl nwC hwR); have kk8 := hD2.out.c8; have kkf := hD2.out.cf; have kkC := hD2.out.LC) | (refine step_app0 (by rfl) (.tmp 92) (.tmp 94) 26 (by rfl) V6.heap.size 47 i0 _ 5 48 Tryz.underlying26 hi ti0 ti1 ti2 rfl (by decide) R1 L.length cp1 (mflat L) (by first | rfl | exact congrArg (fun n => Value.slice (some ⟨R1, 0, none⟩) n cp1) (Nat.zero_add L.length)) (by first | ((repeat (first | with_reducible exact hown1 | with_reducible refine World.ownsRow.drew ?_ | with_reducible refine World.ownsRow.alloc ?_ _)); done) | fail) (some ⟨U1.heap.size, 0, none⟩) 1 1 [.string s, .int .i64 y0, .int .i64 y1, .int .i64 y2, .int .i64 y3] (by rfl) rfl (.inr ⟨_, rfl, World.news_of_block (by first | ((repeat (first | with_reducible exact pheap_new (by first | rfl | (simp; done) | (simp; omega)) | with_reducible refine heap_drewD ?_ | rw [Below.heap_alloc _ _ _ (by first | (simp; done) | (simp; omega) | omega)] | rw [hgrow1.block _ (by first | (simp; done) | (simp; omega) | omega) (by first | (simp; done) | (simp; omega) | omega)])); done) | fail)⟩) (one5 _ _ _ _ _) (by unfold maxLen; omega) (by omega) (by first | exact hs1 | (simp; omega)) ?_; intro R2 cp2 U2 hown2 hgrow2 hat2 hlt2; have hBA2 := Below.trans (show Below V6.heap.size V6 _ from (by repeat (first | with_reducible exact hBA | with_reducible refine Below.drew ?_ | with_reducible refine Below.alloc ?_ (by first | exact hs1 | (simp; omega)) _))) (pgrown_below (base := V6.heap.size) hgrow2 (by first | (simp; done) | (simp; omega) | omega) (by intro j e; simp at e; omega)); have hs3 := hBA2.size; have hog2 := (hown2.lt R2 rfl).1; have hD2 := Lib.hid (H6.out.below hBA2 hgl nwC hwR); have kk8 := hD2.out.c8; have kkf := hD2.out.cf; have kkC := hD2.out.LC))
            all_goals go_wp2_with fail
            all_goals
              have hl' : (L ++ [(⟨s, y0, y1, y2, y3⟩ : Mk)]).length = L.length + 1 := by simp
              have hf' : mflat (L ++ [(⟨s, y0, y1, y2, y3⟩ : Mk)]) = mflat L ++ [.string s, .int .i64 y0, .int .i64 y1, .int .i64 y2, .int .i64 y3] := by rw [mflat_append]; rfl
              rw [← hf', ← hl'] at hown2
              have hns2 := hns.app (m := ⟨s, y0, y1, y2, y3⟩) hs64
              have HF := hD2.out.put8 hgl nwC (some ⟨R2, 0, none⟩) cp2 (L ++ [(⟨s, y0, y1, y2, y3⟩ : Mk)]) (pown_mono hown2 hLR) (by intro j e; simp [Value.ownBlock] at e; omega)
              have HF := Lib.hid HF
              skip
              rw [← hl']
              generalize L ++ [(⟨s, y0, y1, y2, y3⟩ : Mk)] = L9 at *
              go_roundg (gk - 1)
              case measure => omega
              case rel => exact ⟨R2, cp2, L9, by omega, by omega, by omega, hns2, HF⟩
        case neg =>
          have k8 := HY.out.c8
          have KC := HY.out.LC
          have HE := Lib.hid HY.out
          have hle9 := Lib.hid (show L.length ≤ 9 from (by omega))
          have k0 := HE.out.c0
          have k1 := HE.out.c1
          have k2 := HE.out.c2
          have k3 := HE.out.c3
          have k4 := HE.out.c4
          have k5 := HE.out.c5
          have k6 := HE.out.c6
          have k7 := HE.out.c7
          have k8 := HE.out.c8
          obtain ⟨v0, z0⟩ := HE.out.zc 0 (by decide)
          obtain ⟨v1, z1⟩ := HE.out.zc 1 (by decide)
          obtain ⟨v2, z2⟩ := HE.out.zc 2 (by decide)
          obtain ⟨v3, z3⟩ := HE.out.zc 3 (by decide)
          obtain ⟨v4, z4⟩ := HE.out.zc 4 (by decide)
          obtain ⟨v5, z5⟩ := HE.out.zc 5 (by decide)
          obtain ⟨v6, z6⟩ := HE.out.zc 6 (by decide)
          obtain ⟨v7, z7⟩ := HE.out.zc 7 (by decide)
          obtain ⟨v8, z8⟩ := HE.out.zc 8 (by decide)
          have zf := HE.out.zf
          have KC := HE.out.LC
          have hLZ := HE.out.LZ
          go_wp2
          refine set9_post HE.out.zc (v0 := .int .i64 x0) (v1 := .int .i64 x1) (v2 := .int .i64 x2) (v3 := .int .i64 x3) (v4 := .int .i64 x4) (v5 := .int .i64 x5) (v6 := .int .i64 x6) (v7 := .int .i64 x7) (v8 := .slice (some ⟨R, 0, none⟩) L.length cpR) ?_
          intro Y hY ⟨e0, e1, e2, e3, e4, e5, e6, e7, e8⟩
          exact bodyPost_ret (v := .agg #[.int .i64 x0, .int .i64 x1, .int .i64 x2, .int .i64 x3, .int .i64 x4, .int .i64 x5, .int .i64 x6, .int .i64 x7, .slice (some ⟨R, 0, none⟩) L.length cpR]) (by simp [results, Tryz.results29, go_sem, e0, e1, e2, e3, e4, e5, e6, e7, e8]) rfl ⟨⟨x0, x1, x2, x3, x4, x5, x6, x7, (some ⟨R, 0, none⟩), cpR, L, rfl, hle9.out, hns, by rw [hY]; exact pown_mono (set9_own HE.out.own hwR ..) (Nat.le_of_lt hwR)⟩, by rw [hY]; exact set9_src HE.out.src hgl .., by rw [hY]; exact set9_kept HE.out.kept (Nat.le_refl _) ..⟩
  have HH := Lib.hid H
  clear H
  have HE := Lib.hid HH.out
  have hle9 := Lib.hid (show l.length ≤ 9 from (by have := HL.out; omega))
  have k0 := HE.out.c0
  have k1 := HE.out.c1
  have k2 := HE.out.c2
  have k3 := HE.out.c3
  have k4 := HE.out.c4
  have k5 := HE.out.c5
  have k6 := HE.out.c6
  have k7 := HE.out.c7
  have k8 := HE.out.c8
  obtain ⟨v0, z0⟩ := HE.out.zc 0 (by decide)
  obtain ⟨v1, z1⟩ := HE.out.zc 1 (by decide)
  obtain ⟨v2, z2⟩ := HE.out.zc 2 (by decide)
  obtain ⟨v3, z3⟩ := HE.out.zc 3 (by decide)
  obtain ⟨v4, z4⟩ := HE.out.zc 4 (by decide)
  obtain ⟨v5, z5⟩ := HE.out.zc 5 (by decide)
  obtain ⟨v6, z6⟩ := HE.out.zc 6 (by decide)
  obtain ⟨v7, z7⟩ := HE.out.zc 7 (by decide)
  obtain ⟨v8, z8⟩ := HE.out.zc 8 (by decide)
  have zf := HE.out.zf
  have KC := HE.out.LC
  have hLZ := HE.out.LZ
  go_wp2
  refine set9_post HE.out.zc (v0 := .int .i64 x0) (v1 := .int .i64 x1) (v2 := .int .i64 x2) (v3 := .int .i64 x3) (v4 := .int .i64 x4) (v5 := .int .i64 x5) (v6 := .int .i64 x6) (v7 := .int .i64 x7) (v8 := .slice (some ⟨r, 0, none⟩) l.length cp) ?_
  intro Y hY ⟨e0, e1, e2, e3, e4, e5, e6, e7, e8⟩
  exact bodyPost_ret (v := .agg #[.int .i64 x0, .int .i64 x1, .int .i64 x2, .int .i64 x3, .int .i64 x4, .int .i64 x5, .int .i64 x6, .int .i64 x7, .slice (some ⟨r, 0, none⟩) l.length cp]) (by simp [results, Tryz.results29, go_sem, e0, e1, e2, e3, e4, e5, e6, e7, e8]) rfl ⟨⟨x0, x1, x2, x3, x4, x5, x6, x7, (some ⟨r, 0, none⟩), cp, l, rfl, hle9.out, hns, by rw [hY]; exact pown_mono (set9_own HE.out.own hwR ..) (Nat.le_of_lt hwR)⟩, by rw [hY]; exact set9_src HE.out.src hgl .., by rw [hY]; exact set9_kept HE.out.kept (Nat.le_refl _) ..⟩
end Go.Proofs.YtjgndfphbmkhaaaGreatDoor
