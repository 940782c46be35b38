/-
  Drawn tracks, continued: l03DrawAny and l03DrawTime. Conditions: the code's bytes lie in the world.
-/
import Derived.Test.YtdepdkpehbkcjaaTdraw
import Derived.Deep.LoopGhost
import Derived.Deep.RegionHeld3
namespace Go.Proofs.Ytdepdkpehbkcjaa
set_option linter.unusedVariables false
open Go.RowKit Go.Deep

theorem flat_set : ∀ (l : List Fx) (k j : Nat) (v : Int), k < l.length → j < 3 → ∃ l' : List Fx, l'.length = l.length ∧ (flat l).set (k * 3 + j) (.int .i64 v) = flat l'
  | [], k, j, v, h, _ => by simp at h
  | f :: l, 0, j, v, _, hj => by
    match j, hj with
    | 0, _ => exact ⟨⟨v, f.x, f.y⟩ :: l, rfl, rfl⟩
    | 1, _ => exact ⟨⟨f.t, v, f.y⟩ :: l, rfl, rfl⟩
    | 2, _ => exact ⟨⟨f.t, f.x, v⟩ :: l, rfl, rfl⟩
  | f :: l, k + 1, j, v, h, hj => by
    obtain ⟨l', h1, h2⟩ := flat_set l k j v (by simpa using h) hj
    refine ⟨f :: l', by simp [h1], ?_⟩
    rw [show (k + 1) * 3 + j = (k * 3 + j) + 1 + 1 + 1 by omega]
    simp only [flat, List.set_cons_succ, h2]
theorem own_store {w : World} {base r n cap : Nat} {e : TypeId} {l : List Fx} (h : w.ownsRow base e 3 (.slice (some ⟨r, 0, none⟩) n cap) n (flat l)) (hn : n = l.length) (k j : Nat) (v : Int) (hk : k < n) (hj : j < 3) : ∃ l' : List Fx, l'.length = l.length ∧ (w.setCell ⟨r, k * 3 + j, none⟩ (.int .i64 v)).ownsRow base e 3 (.slice (some ⟨r, 0, none⟩) l'.length cap) l'.length (flat l') := by
  obtain ⟨l', h1, h2⟩ := flat_set l k j v (by omega) hj
  refine ⟨l', h1, ?_⟩
  have := (h.stored (k * 3 + j) (.int .i64 v)).1
  rw [h2] at this
  rw [h1, ← hn]; exact this
theorem own_take {w : World} {base r n cap : Nat} {e : TypeId} {l : List Fx} (h : w.ownsRow base e 3 (.slice (some ⟨r, 0, none⟩) n cap) n (flat l)) (hn : 1 ≤ n) (hl : n = l.length) : ∃ f : Fx, w.ownsRow base e 3 (.slice (some ⟨r, 0, none⟩) [f].length cap) [f].length (flat [f]) := by
  match l, hl with
  | [], hl => simp at hl; omega
  | f :: l, hl =>
    refine ⟨f, by rfl, ?_⟩
    rcases h.2 with ⟨h', _⟩ | ⟨g', cap', cur, h', hb, hh, hc, hm, hs, ht⟩
    · simp at h'
    · simp at h'
      obtain ⟨rfl, rfl⟩ := h'
      refine .inr ⟨r, cap, cur, rfl, hb, hh, by simp; omega, hm, hs, ?_⟩
      have : (cur.toList.take (n * 3)).take 3 = (flat (f :: l)).take 3 := by rw [ht]
      rw [List.take_take, Nat.min_eq_left (by omega)] at this
      simpa [flat] using this
theorem own_has {w : World} {base r n cap : Nat} {e : TypeId} {l : List Fx} (h : w.ownsRow base e 3 (.slice (some ⟨r, 0, none⟩) n cap) n (flat l)) (hn : n = l.length) (k j : Nat) (hk : k < n) (hj : j < 3) : ∃ v, w.cell? ⟨r, k * 3 + j, none⟩ = some v := by
  have h1 := h.cellAt (k * 3 + j) (by omega)
  have h2 : k * 3 + j < (flat l).length := by rw [flat_length]; omega
  exact ⟨_, h1.trans (List.getElem?_eq_getElem h2)⟩
theorem own_fx {w : World} {base r n cap : Nat} {e : TypeId} {l : List Fx} (h : w.ownsRow base e 3 (.slice (some ⟨r, 0, none⟩) n cap) n (flat l)) (hn : n = l.length) (k : Nat) (hk : k < n) : ∃ f : Fx, w.cell? ⟨r, k * 3, none⟩ = some (.int .i64 f.t) ∧ w.cell? ⟨r, k * 3 + 1, none⟩ = some (.int .i64 f.x) ∧ w.cell? ⟨r, k * 3 + 2, none⟩ = some (.int .i64 f.y) := by
  obtain ⟨f0, f1, f2⟩ := flat_get l k _ (fx_of (show k < l.length by omega))
  exact ⟨_, (h.cellAt (k * 3) (by omega)).trans f0, (h.cellAt (k * 3 + 1) (by omega)).trans f1, (h.cellAt (k * 3 + 2) (by omega)).trans f2⟩
theorem own_cap {w : World} {base r n cap : Nat} {e : TypeId} {l : List Value} (h : w.ownsRow base e 3 (.slice (some ⟨r, 0, none⟩) n cap) n l) : n ≤ cap := by
  rcases h.2 with ⟨h', _⟩ | ⟨g', cap', cur, h', hb, hh, hc, hm, hs, ht⟩
  · simp at h'
  · simp at h'; omega
theorem own_fin {V : World} {B base r n cap : Nat} {e : TypeId} {xs : List Value} (h : V.ownsRow base e 3 (.slice (some ⟨r, 0, none⟩) n cap) n xs) (hB : B < base) (u : Value) : (V.setCell ⟨B, 0, none⟩ u).ownsRow B e 3 (.slice (some ⟨r, 0, none⟩) n cap) n xs := own_mono (ownsRow_setCell_below h hB u) (Nat.le_of_lt hB)
theorem kept_store {g r j : Nat} {w w' : World} (h : Kept g w w') (hr : w.heap.size ≤ r) (v : Value) : Kept g w (w'.setCell ⟨r, j, none⟩ v) := h.setCell (.inr hr) _
theorem fin_store {g n cap r cp base o k j : Nat} {a : Option Addr} {T : TypeId} {w Z : World} {l : List Fx} {v : Int} {u : Value} (hgl : g < w.heap.size) (hgr : g < r) (hwr : w.heap.size ≤ r) (hwb : w.heap.size < base) (h1 : 1 ≤ l.length) (h2 : l.length ≤ 41) (hO : Z.ownsRow base T 3 (.slice (some ⟨r, 0, none⟩) l.length cp) l.length (flat l)) (hs : Src g a n cap Z) (hk : Kept g w Z) (hk' : k < l.length) (hj : j < 3) (ho : o = k * 3 + j) :
    (∃ (r' cp' : Nat) (l' : List Fx), (Ending.returned (.agg #[.slice (some ⟨r, 0, none⟩) l.length cp]) : Ending) = .returned (.agg #[.slice (some ⟨r', 0, none⟩) l'.length cp']) ∧ 1 ≤ l'.length ∧ l'.length ≤ 41 ∧ ((Z.setCell ⟨r, o, none⟩ (.int .i64 v)).setCell ⟨w.heap.size, 0, none⟩ u).ownsRow w.heap.size T 3 (.slice (some ⟨r', 0, none⟩) l'.length cp') l'.length (flat l')) ∧ Src g a n cap ((Z.setCell ⟨r, o, none⟩ (.int .i64 v)).setCell ⟨w.heap.size, 0, none⟩ u) ∧ Kept g w ((Z.setCell ⟨r, o, none⟩ (.int .i64 v)).setCell ⟨w.heap.size, 0, none⟩ u) := by
  subst ho
  obtain ⟨l', hl, h⟩ := own_store hO rfl k j v hk' hj
  exact ⟨⟨r, cp, l', by rw [hl], by omega, by omega, own_fin h hwb u⟩, (hs.setCell (p := ⟨r, k * 3 + j, none⟩) hgr _).setCell (p := ⟨w.heap.size, 0, none⟩) hgl _, (hk.setCell (.inr hwr) _).setCell (.inr (Nat.le_refl _)) _⟩
theorem fin_alloc {g n cap base : Nat} {a : Option Addr} {T : TypeId} {w Z : World} {E : Ending} (h : (∃ (r' cp' : Nat) (l' : List Fx), E = .returned (.agg #[.slice (some ⟨r', 0, none⟩) l'.length cp']) ∧ 1 ≤ l'.length ∧ l'.length ≤ 41 ∧ Z.ownsRow base T 3 (.slice (some ⟨r', 0, none⟩) l'.length cp') l'.length (flat l')) ∧ Src g a n cap Z ∧ Kept g w Z) (x : Obj) : (∃ (r' cp' : Nat) (l' : List Fx), E = .returned (.agg #[.slice (some ⟨r', 0, none⟩) l'.length cp']) ∧ 1 ≤ l'.length ∧ l'.length ≤ 41 ∧ (Z.alloc x).ownsRow base T 3 (.slice (some ⟨r', 0, none⟩) l'.length cp') l'.length (flat l')) ∧ Src g a n cap (Z.alloc x) ∧ Kept g w (Z.alloc x) := by
  obtain ⟨⟨r, cp, l, h1, h2, h3, h4⟩, hs, hk⟩ := h
  exact ⟨⟨r, cp, l, h1, h2, h3, h4.alloc x⟩, hs.alloc x, hk.alloc x⟩
theorem heap_two {w : World} {o u : Obj} : ((w.alloc o).alloc u).heap[w.heap.size]? = some o := by
  rw [Below.heap_alloc _ _ _ (by simp)]; exact heap_new rfl
theorem flat_oneD : ∀ (l : List Fx), ∀ u ∈ flat l, u.oneCell' = true
  | [], u, hu => by simp [flat] at hu
  | f :: l, u, hu => by
    simp only [flat, List.mem_cons] at hu
    rcases hu with rfl | rfl | rfl | hu
    · rfl
    · rfl
    · rfl
    · exact flat_oneD l u hu
theorem add_noneD (b o j : Nat) : (⟨b, o, none⟩ : Addr).add j = ⟨b, o + j, none⟩ := by unfold Addr.add; split <;> simp_all
theorem own_news {w : World} {base r n cap : Nat} {e : TypeId} {xs : List Value} (h : w.ownsRow base e 3 (.slice (some ⟨r, 0, none⟩) n cap) n xs) : ∀ j u, xs[j]? = some u → w.cell? ((⟨r, 0, none⟩ : Addr).add j) = some u := fun j u hu => by
  have hl : xs.length = n * 3 := h.1
  have hj : j < n * 3 := by rw [← hl]; exact (List.getElem?_eq_some_iff.1 hu).1
  rw [add_noneD, Nat.zero_add]
  exact (h.cellAt j hj).trans hu
/-- what a loop that makes rows keeps of the source, of the variable T and of the result B -/
structure HoldD (g n cap T : Nat) (a : Option Addr) (w X : World) : Prop where
  t1 : ∀ o, X.frozen? ⟨T, o, none⟩ = false
  t0 : ∃ v, X.cell? ⟨T, 0, none⟩ = some v
  z0 : X.cell? ⟨w.heap.size, 0, none⟩ = some (.slice none 0 0)
  z1 : X.frozen? ⟨w.heap.size, 0, none⟩ = false
  lT : T < X.heap.size
  lB : w.heap.size < X.heap.size
  src : Src g a n cap X
  kept : Kept g w X
theorem HoldD.alloc {g n cap T : Nat} {a : Option Addr} {w X : World} (h : HoldD g n cap T a w X) (o : Obj) : HoldD g n cap T a w (X.alloc o) := by
  have hb : Below X.heap.size X (X.alloc o) := (Below.refl _ _).alloc (Nat.le_refl _) o
  exact ⟨fun k => (hb.frozen (p := ⟨T, k, none⟩) h.lT).trans (h.t1 k), h.t0.imp fun _ e => (hb.cell (p := ⟨T, 0, none⟩) h.lT).trans e, (hb.cell (p := ⟨w.heap.size, 0, none⟩) h.lB).trans h.z0, (hb.frozen (p := ⟨w.heap.size, 0, none⟩) h.lB).trans h.z1, Nat.lt_of_lt_of_le h.lT hb.size, Nat.lt_of_lt_of_le h.lB hb.size, h.src.alloc o, h.kept.alloc o⟩
theorem HoldD.drew {g n cap T : Nat} {a : Option Addr} {w X : World} (h : HoldD g n cap T a w X) : HoldD g n cap T a w X.drew := ⟨h.t1, h.t0, h.z0, h.z1, h.lT, h.lB, h.src.drew, h.kept.drew⟩
theorem HoldD.grow {g n cap T : Nat} {a : Option Addr} {w X Y : World} {row : Option Nat} (h : HoldD g n cap T a w X) (hg : X.grownBy Y row) (hT : w.heap.size ≤ T) (hgT : g < T) (hr : ∀ k, row = some k → T < k) : HoldD g n cap T a w Y := by
  have hb : Below (T + 1) X Y := ⟨hg.os, hg.tape, hg.output, hg.size, fun k hk => hg.block k (by have := h.lT; omega) (fun e => by have := hr k e.symm; omega)⟩
  exact ⟨fun k => (hb.frozen (p := ⟨T, k, none⟩) (Nat.lt_succ_self T)).trans (h.t1 k), h.t0.imp fun _ e => (hb.cell (p := ⟨T, 0, none⟩) (Nat.lt_succ_self T)).trans e, (hb.cell (p := ⟨w.heap.size, 0, none⟩) (show w.heap.size < T + 1 by omega)).trans h.z0, (hb.frozen (p := ⟨w.heap.size, 0, none⟩) (show w.heap.size < T + 1 by omega)).trans h.z1, Nat.lt_of_lt_of_le h.lT hb.size, Nat.lt_of_lt_of_le h.lB hb.size, h.src.belowN hb (by omega), kept_belowN h.kept hb (by omega)⟩
theorem HoldD.setT {g n cap T : Nat} {a : Option Addr} {w X : World} (h : HoldD g n cap T a w X) (hT : w.heap.size < T) (hgT : g < T) (u : Value) : HoldD g n cap T a w (X.setCell ⟨T, 0, none⟩ u) :=
  ⟨fun k => (World.frozen?_setCell ..).trans (h.t1 k), ⟨u, by obtain ⟨v, hv⟩ := h.t0; exact World.cell?_setCell_same _ _ _ hv⟩, (World.cell?_setCell_other _ _ _ _ (by simp only [ne_eq, Addr.mk.injEq, not_and]; omega)).trans h.z0, (World.frozen?_setCell ..).trans h.z1, by simpa [World.setCell] using h.lT, by simpa [World.setCell] using h.lB, h.src.setCell (p := ⟨T, 0, none⟩) hgT u, h.kept.setCell (.inr (Nat.le_of_lt hT)) u⟩
theorem f3_alloc {w : World} {C : Nat} {t x y : Value} (h : w.cell? ⟨C, 0, none⟩ = some t ∧ w.cell? ⟨C, 1, none⟩ = some x ∧ w.cell? ⟨C, 2, none⟩ = some y) (o : Obj) : (w.alloc o).cell? ⟨C, 0, none⟩ = some t ∧ (w.alloc o).cell? ⟨C, 1, none⟩ = some x ∧ (w.alloc o).cell? ⟨C, 2, none⟩ = some y := by
  have hC : C < w.heap.size := World.block_lt_of_cell? w ⟨C, 0, none⟩ h.1
  have hb : Below w.heap.size w (w.alloc o) := (Below.refl _ _).alloc (Nat.le_refl _) o
  exact ⟨(hb.cell (p := ⟨C, 0, none⟩) hC).trans h.1, (hb.cell (p := ⟨C, 1, none⟩) hC).trans h.2.1, (hb.cell (p := ⟨C, 2, none⟩) hC).trans h.2.2⟩
theorem f3_grow {w w' : World} {C : Nat} {t x y : Value} {row : Option Nat} (h : w.cell? ⟨C, 0, none⟩ = some t ∧ w.cell? ⟨C, 1, none⟩ = some x ∧ w.cell? ⟨C, 2, none⟩ = some y) (hg : w.grownBy w' row) (hr : ∀ k, row = some k → C < k) : w'.cell? ⟨C, 0, none⟩ = some t ∧ w'.cell? ⟨C, 1, none⟩ = some x ∧ w'.cell? ⟨C, 2, none⟩ = some y := by
  have hne : some C ≠ row := fun e => by have := hr C e.symm; omega
  exact ⟨hg.cell (a := ⟨C, 0, none⟩) h.1 hne, hg.cell (a := ⟨C, 1, none⟩) h.2.1 hne, hg.cell (a := ⟨C, 2, none⟩) h.2.2 hne⟩
theorem f3_set {w : World} {C T : Nat} {t x y : Value} (h : w.cell? ⟨C, 0, none⟩ = some t ∧ w.cell? ⟨C, 1, none⟩ = some x ∧ w.cell? ⟨C, 2, none⟩ = some y) (hne : C ≠ T) (u : Value) : (w.setCell ⟨T, 0, none⟩ u).cell? ⟨C, 0, none⟩ = some t ∧ (w.setCell ⟨T, 0, none⟩ u).cell? ⟨C, 1, none⟩ = some x ∧ (w.setCell ⟨T, 0, none⟩ u).cell? ⟨C, 2, none⟩ = some y := by
  have e : ∀ o, (w.setCell ⟨T, 0, none⟩ u).cell? ⟨C, o, none⟩ = w.cell? ⟨C, o, none⟩ := fun o => World.cell?_setCell_other _ _ _ _ (by simp only [ne_eq, Addr.mk.injEq, not_and]; omega)
  exact ⟨(e 0).trans h.1, (e 1).trans h.2.1, (e 2).trans h.2.2⟩
set_option maxRecDepth 100000 in
set_option maxHeartbeats 4000000 in
theorem l03DrawAny_c (g : Nat) (a : Option Addr) (n cap : Nat) (w : World) (hn : n ≤ 9223372036854775807) (hs : Src g a n cap w) : Calls Try.prog 53 #[.pointer (some ⟨g, 0, none⟩)] w fun e w' => (∃ (r cp : Nat) (l : List Fx), e = .returned (.agg #[.slice (some ⟨r, 0, none⟩) l.length cp]) ∧ 1 ≤ l.length ∧ l.length ≤ 41 ∧ w'.ownsRow w.heap.size 32 3 (.slice (some ⟨r, 0, none⟩) l.length cp) l.length (flat l)) ∧ Src g a n cap w' ∧ Kept g w w' := by
  obtain ⟨i0, hi, ti0, ti1, ti2⟩ := info_parts infoFixD
  have hgl := hs.lt
  have HS := Lib.hid hs
  clear hs
  go_enter Try.func53, Try.ntmps53
  go_wp2_with fail
  obtain ⟨W, hW⟩ : ∃ W, W = w.alloc (.cells #[.slice none 0 0] 26) := ⟨_, rfl⟩
  have hk : Kept g w W := by subst hW; exact (Kept.refl _ _).alloc _
  have hsW : Src g a n cap W := by subst hW; exact HS.out.alloc _
  have z0 : W.cell? ⟨w.heap.size, 0, none⟩ = some (.slice none 0 0) := by subst hW; simp [go_sem]
  have z1 : W.frozen? ⟨w.heap.size, 0, none⟩ = false := by subst hW; simp [go_sem]
  have L4 : w.heap.size < W.heap.size := by subst hW; simp
  rw [← hW]
  clear hW
  have hng : w.heap.size ≠ g := by omega
  have hWW := L4
  refine (l03Draw_c g a n cap W hn hsW).mono ?_
  rintro e V1 ⟨⟨r, cp, l, rfl, hl0, hl1, ho⟩, hs1, hk1⟩
  replace z0 := ((kcell hk1).1 _ 0 L4 hng).trans z0
  replace z1 := ((kcell hk1).2 _ 0 L4 hng).trans z1
  replace L4 := Nat.lt_of_lt_of_le L4 hk1.size
  replace hk := hk.trans hk1
  have hO := Lib.hid ho
  have hrr := ho.lt r rfl
  clear ho hk1 hsW
  have hrw : W.heap.size ≤ r := hrr.1
  go_wp2_with fail
  obtain ⟨V, hV⟩ : ∃ V, V = V1.alloc (.cells #[.slice (some ⟨r, 0, none⟩) l.length cp] 26) := ⟨_, rfl⟩
  have hb : Below V1.heap.size V1 V := by subst hV; exact (Below.refl _ _).alloc (Nat.le_refl _) _
  have hkV : Kept g V1 V := by subst hV; exact (Kept.refl _ _).alloc _
  have t0 : V.cell? ⟨V1.heap.size, 0, none⟩ = some (.slice (some ⟨r, 0, none⟩) l.length cp) := by subst hV; simp [go_sem]
  have t1 : ∀ o, V.frozen? ⟨V1.heap.size, o, none⟩ = false := by subst hV; intro o; simp [go_sem]
  have L5 : V1.heap.size < V.heap.size := by subst hV; simp
  rw [← hV]
  clear hV
  have hgV : V1.heap.size ≠ g := by have := hs1.lt; omega
  have nWT : w.heap.size ≠ V1.heap.size := by omega
  have hrT : r ≠ V1.heap.size := by omega
  have hrg : r ≠ g := by omega
  have hwr : w.heap.size < r := by omega
  have hwT : w.heap.size ≤ V1.heap.size := by omega
  replace z0 := (hb.cell (p := ⟨w.heap.size, 0, none⟩) L4).trans z0
  replace z1 := (hb.frozen (p := ⟨w.heap.size, 0, none⟩) L4).trans z1
  replace hO := Lib.hid (own_keptk hO.out hkV hrg)
  replace hk := kept_belowN hk hb hwT
  have hsV := hs1.belowN hb (by have := hs1.lt; omega)
  replace L4 := Nat.lt_of_lt_of_le L4 hb.size
  clear hb hrr hs1 hkV
  have L6 : V1.heap.size < V.heap.size := L5
  generalize V1.heap.size = T at *
  refine (l01Next_c g a n cap _ V hn hsV).mono ?_
  rintro e V2 ⟨⟨k, rfl, hr1, hr2⟩, hs2, HK⟩
  obtain ⟨hk0, hk9⟩ := hr1 (by omega)
  clear hr1 hr2
  obtain ⟨ki, rfl⟩ := Int.eq_ofNat_of_zero_le hk0
  obtain ⟨kc, kf⟩ := kcell HK
  replace z0 := (kc _ 0 L4 hng).trans z0
  replace z1 := (kf _ 0 L4 hng).trans z1
  replace t0 := (kc _ 0 L5 hgV).trans t0
  replace t1 := fun o => (kf _ o L5 hgV).trans (t1 o)
  replace hO := Lib.hid (own_keptk hO.out HK hrg)
  replace L4 := Nat.lt_of_lt_of_le L4 HK.size
  replace L5 := Nat.lt_of_lt_of_le L5 HK.size
  replace hk := hk.trans HK
  clear kc kf HK hsV L6
  go_wp2_with fail
  refine (l01Next_c g a n cap _ V2 hn hs2).mono ?_
  rintro e V3 ⟨⟨c, rfl, hr1, hr2⟩, hs3, HK⟩
  obtain ⟨hc0, hc9⟩ := hr1 (by omega)
  clear hr1 hr2
  obtain ⟨kc, kf⟩ := kcell HK
  replace z0 := (kc _ 0 L4 hng).trans z0
  replace z1 := (kf _ 0 L4 hng).trans z1
  replace t0 := (kc _ 0 L5 hgV).trans t0
  replace t1 := fun o => (kf _ o L5 hgV).trans (t1 o)
  replace hO := Lib.hid (own_keptk hO.out HK hrg)
  replace L4 := Nat.lt_of_lt_of_le L4 HK.size
  replace L5 := Nat.lt_of_lt_of_le L5 HK.size
  replace hk := hk.trans HK
  clear kc kf HK hs2
  have KI := Lib.hid (show ki < l.length by omega)
  have hgw3 : g < V3.heap.size := hs3.lt
  have hfz := fun o => hO.out.frozenAt (j := o)
  have KL := Lib.hid (own_cap hO.out)
  have hgr : g < r := by omega
  have hgT : g < T := by omega
  have hwr' : w.heap.size ≤ r := by omega
  have nrB : r ≠ w.heap.size := by omega
  by_cases c0 : c = 0
  · subst c0
    obtain ⟨f, hO1⟩ := own_take hO.out (by omega) rfl
    have h1cp : (1 : Int) ≤ cp := by have := KL.out; omega
    have KX1 := (KX.of (Kept.refl g V3)).set (C := T) (o := 0) (.slice (some ⟨r, 0, none⟩) 1 cp)
    have hO2 := Lib.hid (own_fin (KX1.own hO1 hrg hrT) hWW (.slice (some ⟨r, 0, none⟩) 1 cp))
    have hs4 := (hs3.setCell (p := ⟨T, 0, none⟩) hgT (.slice (some ⟨r, 0, none⟩) 1 cp)).setCell (p := ⟨w.heap.size, 0, none⟩) hgl (.slice (some ⟨r, 0, none⟩) 1 cp)
    clear hO1 KX1 hO
    go_wp2_with fail
    exact bodyPost_ret (v := .agg #[.slice (some ⟨r, 0, none⟩) 1 cp]) (by simp [results, Try.results53, go_sem, z0, World.cell?_setCell_other]) rfl ⟨⟨r, cp, [f], rfl, by simp, by simp, hO2.out⟩, hs4, (hk.setCell (.inr hwT) _).setCell (.inr (Nat.le_refl _)) _⟩
  by_cases c1 : c = 1
  · subst c1
    obtain ⟨u, hu⟩ := own_has hO.out rfl ki 0 KI.out (by omega)
    rw [Nat.add_zero] at hu
    have L7 : r < V3.heap.size := (hO.out.lt r rfl).2
    have hli0 : ∀ x : Obj, V3.heap.size < (V3.alloc x).heap.size := fun x => by simp
    have hli1 : ∀ x : Obj, V3.heap.size < (V3.alloc x).drew.heap.size := fun x => by simp
    have hVg : V3.heap.size ≠ g := by omega
    go_wp2_with fail
    go_region_with (go_at_call 54; refine (l01NextN_c g a n cap _ _ hn (by first | exact hs3 | exact hs3.drew | exact hs3.alloc _ | exact (hs3.alloc _).drew | exact (hs3.drew).alloc _)).mono ?_; rintro e w1 ⟨⟨q, rfl, hq1, hq2⟩, hs4, HK⟩; simp at hq1; clear hq2; obtain ⟨hq1, hq3⟩ := hq1; have hK3 : Kept g V3 w1 := (by first | exact HK | exact (Kept.refl g V3).drew.trans HK | exact ((Kept.refl g V3).alloc _).trans HK | exact ((Kept.refl g V3).alloc _).drew.trans HK | exact ((Kept.refl g V3).drew.alloc _).trans HK); have hm0 := ((kcell hK3).1 r (ki * 3) L7 hrg).trans hu; have hm1 := fun o => ((kcell hK3).2 r o L7 hrg).trans (hfz o); have hm2 := ((kcell hK3).1 T 0 L5 hgV).trans t0; have hm3 := ((kcell hK3).1 w.heap.size 0 L4 hng).trans z0; have hm4 := ((kcell hK3).2 w.heap.size 0 L4 hng).trans z1; (try (have hm5 := fun o => (kcell HK).1 V3.heap.size o (hli1 _) hVg)); (try (have hm5 := fun o => (kcell HK).1 V3.heap.size o (hli0 _) hVg)); have hsz := hK3.size; have hlr := Nat.lt_of_lt_of_le L7 hsz; have hlT := Nat.lt_of_lt_of_le L5 hsz; have hlB := Nat.lt_of_lt_of_le L4 hsz)
    all_goals go_wp2_with fail
    all_goals exact bodyPost_ret (v := .agg #[.slice (some ⟨r, 0, none⟩) l.length cp]) (by simp [results, Try.results53, go_sem, hm3, World.cell?_setCell_other, hlB]) rfl (by (try refine fin_alloc ?_ _); with_reducible exact fin_store hgl hgr hwr' hWW (by omega) (by omega) (own_keptk hO.out hK3 hrg) hs4 (hk.trans hK3) KI.out (show 0 < 3 by omega) (Nat.add_zero _).symm)
  by_cases c2 : c = 2
  · subst c2
    obtain ⟨u, hu⟩ := own_has hO.out rfl ki 1 KI.out (by omega)
    obtain ⟨l', hl', hO1⟩ := own_store hO.out rfl ki 1 1000001 KI.out (by omega)
    have hO2 := Lib.hid (own_fin hO1 hWW (.slice (some ⟨r, 0, none⟩) l.length cp))
    have hs4 := (hs3.setCell (p := ⟨r, ki * 3 + 1, none⟩) hgr (.int .i64 1000001)).setCell (p := ⟨w.heap.size, 0, none⟩) hgl (.slice (some ⟨r, 0, none⟩) l.length cp)
    clear hO1 hO
    have HL := Lib.hid hl'
    clear hl'
    go_wp2_with fail
    exact bodyPost_ret (v := .agg #[.slice (some ⟨r, 0, none⟩) l.length cp]) (by simp [results, Try.results53, go_sem, z0, World.cell?_setCell_other]) rfl ⟨⟨r, cp, l', by rw [HL.out], by rw [HL.out]; omega, by rw [HL.out]; omega, hO2.out⟩, hs4, (hk.setCell (.inr hwr') _).setCell (.inr (Nat.le_refl _)) _⟩
  by_cases c4 : c = 4
  · subst c4
    obtain ⟨u, hu⟩ := own_has hO.out rfl (l.length - 1) 0 (by omega) (by omega)
    obtain ⟨l', hl', hO1⟩ := own_store hO.out rfl (l.length - 1) 0 1000000000 (by omega) (by omega)
    rw [Nat.add_zero] at hu hO1
    have hO2 := Lib.hid (own_fin hO1 hWW (.slice (some ⟨r, 0, none⟩) l.length cp))
    have hs4 := (hs3.setCell (p := ⟨r, (l.length - 1) * 3, none⟩) hgr (.int .i64 1000000000)).setCell (p := ⟨w.heap.size, 0, none⟩) hgl (.slice (some ⟨r, 0, none⟩) l.length cp)
    clear hO1 hO
    have HL := Lib.hid hl'
    clear hl'
    go_wp2_with fail
    exact bodyPost_ret (v := .agg #[.slice (some ⟨r, 0, none⟩) l.length cp]) (by simp [results, Try.results53, go_sem, z0, World.cell?_setCell_other]) rfl ⟨⟨r, cp, l', by rw [HL.out], by rw [HL.out]; omega, by rw [HL.out]; omega, hO2.out⟩, hs4, (hk.setCell (.inr hwr') _).setCell (.inr (Nat.le_refl _)) _⟩
  by_cases c3 : c = 3
  · subst c3
    go_wp2_with fail
    go_loopg [] (42 - l.length) (fun mm wr => ∃ (R cpR : Nat) (L : List Fx), 1 ≤ L.length ∧ L.length + mm = 42 ∧ 1 ≤ mm ∧ R ≠ g ∧ R ≠ T ∧ w.heap.size ≤ R ∧ wr.cell? ⟨T, 0, none⟩ = some (.slice (some ⟨R, 0, none⟩) L.length cpR) ∧ (∀ o, wr.frozen? ⟨T, o, none⟩ = false) ∧ wr.cell? ⟨w.heap.size, 0, none⟩ = some (.slice none 0 0) ∧ wr.frozen? ⟨w.heap.size, 0, none⟩ = false ∧ T < wr.heap.size ∧ w.heap.size < wr.heap.size ∧ Hid (wr.ownsRow W.heap.size 32 3 (.slice (some ⟨R, 0, none⟩) L.length cpR) L.length (flat L)) ∧ Hid (Src g a n cap wr) ∧ Kept g w wr)
    case atStart => exact ⟨r, cp, l, by omega, by omega, by omega, hrg, hrT, hwr', t0, t1, z0, z1, L5, L4, hO, Lib.hid hs3, hk⟩
    case round =>
      clear t0 t1 z0 z1 L5 L4 hO hs3 hk hfz KL KI hrg hrT hwr hwr' nrB hgr hgw3 hrw
      obtain ⟨R, cpR, L, hl2, hl3, hm, hRg, hRT, hwR, t0, t1, z0, z1, L5, L4, hO, HS3, hk⟩ := hrel
      go_wp2_with fail
      go_cut [48] (fun b wx => ∃ q : Nat, q < 2 ∧ b = .bool (decide ((L.length : Int) < 40 + q)) ∧ Src g a n cap wx ∧ Kept g wr wx)
      case first =>
        go_region_with (go_at_call 54; refine (l01NextN_c g a n cap _ _ hn (by first | exact HS3.out | exact HS3.out.drew)).mono ?_; rintro e w1 ⟨⟨q, rfl, hq1, hq2⟩, hs4, HK⟩; simp at hq1; clear hq2; obtain ⟨hq1, hq3⟩ := hq1; have hK3 : Kept g wr w1 := (by first | exact HK | exact (Kept.refl g wr).drew.trans HK); have hm0 := ((kcell hK3).1 T 0 L5 hgV).trans t0; have hw40 : IntKind.i64.wrap (40 + (q : Int)) = 40 + q := (by rw [IntKind.wrap_i64]; omega))
        all_goals go_wp2_with fail
        all_goals (go_meet; exact ⟨q, hq3, by simp, by first | exact hs4 | exact hs4.drew, by first | exact hK3 | exact hK3.drew⟩)
      case rest =>
        obtain ⟨q, hq, rfl, hs4, HK⟩ := hcut
        obtain ⟨Y, rfl⟩ : ∃ x : World, x = wc := ⟨_, rfl⟩
        obtain ⟨kc, kf⟩ := kcell HK
        replace z0 := (kc _ 0 L4 hng).trans z0
        replace z1 := (kf _ 0 L4 hng).trans z1
        replace t0 := (kc _ 0 L5 hgV).trans t0
        replace t1 := fun o => (kf _ o L5 hgV).trans (t1 o)
        replace hO := Lib.hid (own_keptk hO.out HK hRg)
        replace L4 := Nat.lt_of_lt_of_le L4 HK.size
        replace L5 := Nat.lt_of_lt_of_le L5 HK.size
        replace hk := hk.trans HK
        clear kc kf HK HS3
        by_cases hlt : (L.length : Int) < 40 + q
        · obtain ⟨f, f0, f1, f2⟩ := own_fx hO.out rfl (L.length - 1) (by omega)
          go_upto_region 13 with fail
          obtain ⟨Z, hZ⟩ : ∃ Z, Z = Y.alloc (.cells #[.int .i64 f.t, .int .i64 f.x, .int .i64 f.y] 32) := ⟨_, rfl⟩
          have HDZ : HoldD g n cap T a w Z := by subst hZ; exact HoldD.alloc ⟨t1, ⟨_, t0⟩, z0, z1, L5, L4, hs4, hk⟩ _
          have F3 : Z.cell? ⟨Y.heap.size, 0, none⟩ = some (.int .i64 f.t) ∧ Z.cell? ⟨Y.heap.size, 1, none⟩ = some (.int .i64 f.x) ∧ Z.cell? ⟨Y.heap.size, 2, none⟩ = some (.int .i64 f.y) := by subst hZ; refine ⟨?_, ?_, ?_⟩ <;> simp [go_sem]
          have tZ : Z.cell? ⟨T, 0, none⟩ = some (.slice (some ⟨R, 0, none⟩) L.length cpR) := by subst hZ; simp [go_sem, L5, t0]
          have hOZ : Z.ownsRow W.heap.size 32 3 (.slice (some ⟨R, 0, none⟩) L.length cpR) L.length (flat L) := by subst hZ; exact hO.out.alloc _
          have LZ : Y.heap.size < Z.heap.size := by subst hZ; simp
          have LR := (hOZ.lt R rfl)
          have HDZ' := Lib.hid HDZ
          have hOZ' := Lib.hid hOZ
          have hTZ := HDZ.lT
          rw [← hZ]
          have hCT : Y.heap.size ≠ T := by omega
          have hTC : T < Y.heap.size := by omega
          clear hZ hO t0 t1 z0 z1 L4 L5 hs4 hk f0 f1 f2 HDZ hOZ
          generalize Y.heap.size = C at *
          have own0 : ∀ (X : World) (B : Nat), X.heap.size = B → Z.heap.size ≤ B → (X.alloc (.cells #[] 32)).ownsRow Z.heap.size 32 3 (.slice (some ⟨B, 0, none⟩) 0 0) 0 [] := fun X B hX hB => by subst hX; exact World.ownsRow_lit X #[] 0 hB (by unfold maxLen; omega) rfl
          have own0' := Lib.hid own0
          clear own0
          rw [show Op.load 24 (Operand.tmp 58) = id (Op.load 24 (Operand.tmp 58)) from rfl]
          go_region_held3 (fun wx => wx.cell? ⟨C, 0, none⟩ = some (.int .i64 f.t) ∧ wx.cell? ⟨C, 1, none⟩ = some (.int .i64 f.x) ∧ wx.cell? ⟨C, 2, none⟩ = some (.int .i64 f.y))
            (first | with_reducible assumption | exact F3 | exact f3_alloc (by assumption) _ | exact f3_alloc F3 _ | exact f3_alloc (f3_alloc F3 _) _ | exact f3_grow (by assumption) hgrow2 (by intro k e; simp [Value.ownBlock] at e; omega) | exact f3_grow (by assumption) hgrow1 (by intro k e; simp [Value.ownBlock] at e; omega) | exact f3_set (by assumption) hCT _)
            (first
             | (refine step_append_lies _ (by rfl) (.tmp 57) (.tmp 59) 24 (by rfl) Z.heap.size 32 i0 _ 3 24 Try.underlying24 hi ti0 ti1 ti2 rfl (by decide) (.slice (some ⟨Z.heap.size, 0, none⟩) 0 0) 0 [] (by rfl) (by first | exact own0'.out Z Z.heap.size rfl (Nat.le_refl _) | exact (own0'.out Z Z.heap.size rfl (Nat.le_refl _)).alloc _) ⟨R, 0, none⟩ L.length cpR (flat L) (by rfl) (flat_length L) (own_news (by first | exact hOZ'.out.alloc _ | exact (hOZ'.out.alloc _).alloc _)) (flat_oneD L) (by omega) (by unfold maxLen; omega) (by omega) (by first | exact hs1 | (simp; done) | (simp; omega)) _ rfl ?_; intro R1 cp1 U1 hown1 hgrow1 hat1 hlt1; rw [Nat.zero_add, List.nil_append] at hown1; have hR1 := hown1.lt R1 rfl; have hs1 : Z.heap.size ≤ U1.heap.size := (by omega); have HD1 : HoldD g n cap T a w U1 := HoldD.grow (by first | exact HDZ'.out.drew.alloc _ | exact (HDZ'.out.drew.alloc _).alloc _) hgrow1 hwT hgT (fun k e => by have e2 := (show Z.heap.size = k from Option.some.inj e); omega))
             | (refine step_append_lies _ (by rfl) (.tmp 57) (.tmp 59) 24 (by rfl) Z.heap.size 32 i0 _ 3 24 Try.underlying24 hi ti0 ti1 ti2 rfl (by decide) (.slice (some ⟨Z.heap.size + 1, 0, none⟩) 0 0) 0 [] (by rfl) (own0'.out (Z.alloc (.cells #[.int .i64 (IntKind.i64.wrap (f.t + 10)), .int .i64 f.x, .int .i64 f.y] 32)) (Z.heap.size + 1) (by simp; done) (by omega)) ⟨R, 0, none⟩ L.length cpR (flat L) (by rfl) (flat_length L) (own_news (by first | exact hOZ'.out.alloc _ | exact (hOZ'.out.alloc _).alloc _)) (flat_oneD L) (by omega) (by unfold maxLen; omega) (by omega) (by first | exact hs1 | (simp; done) | (simp; omega)) _ rfl ?_; intro R1 cp1 U1 hown1 hgrow1 hat1 hlt1; rw [Nat.zero_add, List.nil_append] at hown1; have hR1 := hown1.lt R1 rfl; have hs1 : Z.heap.size ≤ U1.heap.size := (by omega); have HD1 : HoldD g n cap T a w U1 := HoldD.grow (by first | exact HDZ'.out.drew.alloc _ | exact (HDZ'.out.drew.alloc _).alloc _) hgrow1 hwT hgT (fun k e => by have e2 := (show Z.heap.size + 1 = k from Option.some.inj e); omega))
             | (refine step_append_lies _ (by rfl) (.tmp 60) (.tmp 69) 24 (by rfl) Z.heap.size 32 i0 _ 3 24 Try.underlying24 hi ti0 ti1 ti2 rfl (by decide) (.slice (some ⟨R1, 0, none⟩) L.length cp1) L.length (flat L) (by first | rfl | exact congrArg (fun n => Value.slice (some ⟨R1, 0, none⟩) n cp1) (Nat.zero_add L.length)) (hown1.alloc _) ⟨U1.heap.size, 0, none⟩ 1 1 [.int .i64 (IntKind.i64.wrap (f.t + 10)), .int .i64 f.x, .int .i64 f.y] (by rfl) rfl (World.news_of_block (heap_new (by rfl))) (one3 _ _ _) (by decide) (by unfold maxLen; omega) (by omega) (by first | exact hs1 | (simp; done) | (simp; omega)) _ rfl ?_; intro R2 cp2 U2 hown2 hgrow2 hat2 hlt2; have hR2 := hown2.lt R2 rfl; have HD2 : HoldD g n cap T a w U2 := HoldD.grow (by first | exact HD1 | exact HD1.alloc _) hgrow2 hwT hgT (fun k e => by have e2 := (show R1 = k from Option.some.inj e); omega); obtain ⟨tv, htv⟩ := HD2.t0; have hft := HD2.t1; have hlT2 := HD2.lT)
             | (refine step_append_lies _ (by rfl) (.tmp 60) (.tmp 69) 24 (by rfl) Z.heap.size 32 i0 _ 3 24 Try.underlying24 hi ti0 ti1 ti2 rfl (by decide) (.slice (some ⟨R1, 0, none⟩) L.length cp1) L.length (flat L) (by first | rfl | exact congrArg (fun n => Value.slice (some ⟨R1, 0, none⟩) n cp1) (Nat.zero_add L.length)) (hown1) ⟨Z.heap.size + 1, 0, none⟩ 1 1 [.int .i64 (IntKind.i64.wrap (f.t + 10)), .int .i64 f.x, .int .i64 f.y] (by rfl) rfl (World.news_of_block ((hgrow1.block (Z.heap.size + 1) (by simp; done) (by simp [Value.ownBlock]; done)).trans (heap_new (by simp; done)))) (one3 _ _ _) (by decide) (by unfold maxLen; omega) (by omega) (by first | exact hs1 | (simp; done) | (simp; omega)) _ rfl ?_; intro R2 cp2 U2 hown2 hgrow2 hat2 hlt2; have hR2 := hown2.lt R2 rfl; have HD2 : HoldD g n cap T a w U2 := HoldD.grow (by first | exact HD1 | exact HD1.alloc _) hgrow2 hwT hgT (fun k e => by have e2 := (show R1 = k from Option.some.inj e); omega); obtain ⟨tv, htv⟩ := HD2.t0; have hft := HD2.t1; have hlT2 := HD2.lT)
             | (refine step_append_lies _ (by rfl) (.tmp 60) (.tmp 69) 24 (by rfl) Z.heap.size 32 i0 _ 3 24 Try.underlying24 hi ti0 ti1 ti2 rfl (by decide) (.slice (some ⟨R1, 0, none⟩) L.length cp1) L.length (flat L) (by first | rfl | exact congrArg (fun n => Value.slice (some ⟨R1, 0, none⟩) n cp1) (Nat.zero_add L.length)) (hown1) ⟨Z.heap.size, 0, none⟩ 1 1 [.int .i64 (IntKind.i64.wrap (f.t + 10)), .int .i64 f.x, .int .i64 f.y] (by rfl) rfl (World.news_of_block ((hgrow1.block Z.heap.size (by simp; omega) (by simp [Value.ownBlock]; done)).trans heap_two)) (one3 _ _ _) (by decide) (by unfold maxLen; omega) (by omega) (by first | exact hs1 | (simp; done) | (simp; omega)) _ rfl ?_; intro R2 cp2 U2 hown2 hgrow2 hat2 hlt2; have hR2 := hown2.lt R2 rfl; have HD2 : HoldD g n cap T a w U2 := HoldD.grow (by first | exact HD1 | exact HD1.alloc _) hgrow2 hwT hgT (fun k e => by have e2 := (show R1 = k from Option.some.inj e); omega); obtain ⟨tv, htv⟩ := HD2.t0; have hft := HD2.t1; have hlT2 := HD2.lT))
          all_goals go_wp2_with fail
          all_goals
            have hl' : (L ++ [(⟨IntKind.i64.wrap (f.t + 10), f.x, f.y⟩ : Fx)]).length = L.length + 1 := by simp
            have hf' : flat (L ++ [(⟨IntKind.i64.wrap (f.t + 10), f.x, f.y⟩ : Fx)]) = flat L ++ [.int .i64 (IntKind.i64.wrap (f.t + 10)), .int .i64 f.x, .int .i64 f.y] := by rw [flat_append]; rfl
            have HD3 := HD2.setT (Nat.lt_of_le_of_ne hwT nWT) hgT (.slice (some ⟨R2, 0, none⟩) (L.length + 1) cp2)
            have hO3 := own_mono (ownsRow_setCell_below hown2 (a := ⟨T, 0, none⟩) hTZ (.slice (some ⟨R2, 0, none⟩) (L.length + 1) cp2)) (show W.heap.size ≤ Z.heap.size by omega)
            have ht3 := World.cell?_setCell_same _ _ (.slice (some ⟨R2, 0, none⟩) (L.length + 1) cp2) htv
            rw [← hf'] at hO3
            rw [← hl'] at hO3 HD3 ht3 ⊢
            generalize L ++ [(⟨IntKind.i64.wrap (f.t + 10), f.x, f.y⟩ : Fx)] = L' at *
            go_roundg (gk - 1)
            case measure => omega
            case rel => exact ⟨R2, cp2, L', by omega, by omega, by omega, by omega, by omega, by omega, ht3, HD3.t1, HD3.z0, HD3.z1, HD3.lT, HD3.lB, Lib.hid hO3, Lib.hid HD3.src, HD3.kept⟩
        · have hO2 := Lib.hid (own_fin hO.out hWW (.slice (some ⟨R, 0, none⟩) L.length cpR))
          go_wp2_with fail
          exact bodyPost_ret (v := .agg #[.slice (some ⟨R, 0, none⟩) L.length cpR]) (by simp [results, Try.results53, go_sem, z0]) rfl ⟨⟨R, cpR, L, rfl, by omega, by omega, hO2.out⟩, hs4.setCell hgl _, hk.setCell (.inr (Nat.le_refl _)) _⟩
  have hO2 := Lib.hid (own_fin hO.out hWW (.slice (some ⟨r, 0, none⟩) l.length cp))
  go_wp2_with fail
  exact bodyPost_ret (v := .agg #[.slice (some ⟨r, 0, none⟩) l.length cp]) (by simp [results, Try.results53, go_sem, z0]) rfl ⟨⟨r, cp, l, rfl, by omega, by omega, hO2.out⟩, hs3.setCell hgl _, hk.setCell (.inr (Nat.le_refl _)) _⟩
end Go.Proofs.Ytdepdkpehbkcjaa
