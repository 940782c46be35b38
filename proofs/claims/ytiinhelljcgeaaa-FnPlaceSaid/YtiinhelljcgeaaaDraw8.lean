/-
  The draw of the law on places. Conditions: the code's bytes lie in the world.
-/
import Derived.Test.YtiinhelljcgeaaaDraw4
import Derived.Test.YtiinhelljcgeaaaDrawN
namespace Go.Proofs.Ytiinhelljcgeaaa
set_option linter.unusedVariables false
open Go.RowKit Go.Deep

theorem bfromP {w W V1 V : World} {g : Nat} (h : Below w.heap.size w W) (hb : Below W.heap.size W V1) (hg : W.heap.size ≤ g) (hk : Kept g V1 V) : Below w.heap.size w V :=
  (h.trans (hb.mono h.size)).trans (hk.below (Nat.le_trans h.size hg) (Nat.le_trans h.size hb.size))
/-- what stands while the place is drawn: the source, the two results as they were made -/
structure HP (g n cap B C : Nat) (a : Option Addr) (V X : World) : Prop where
  src : Src g a n cap X
  kept : Kept g V X
  cx : ∀ o, o < 4 → X.cell? ⟨B, o, none⟩ = some (.int .i64 0)
  cr : ∀ o, o < 2 → X.cell? ⟨C, o, none⟩ = some (.int .i64 0)
  fx : ∀ o, X.frozen? ⟨B, o, none⟩ = false
  fr : ∀ o, X.frozen? ⟨C, o, none⟩ = false
  lx : B < X.heap.size
  lr : C < X.heap.size
theorem HP.step {g n cap B C : Nat} {a : Option Addr} {V X Y : World} (h : HP g n cap B C a V X) (hB : B ≠ g) (hC : C ≠ g) (hs : Src g a n cap Y) (hk : Kept g X Y) : HP g n cap B C a V Y :=
  ⟨hs, h.kept.trans hk, fun o ho => ((kcell hk).1 B o h.lx hB).trans (h.cx o ho), fun o ho => ((kcell hk).1 C o h.lr hC).trans (h.cr o ho), fun o => ((kcell hk).2 B o h.lx hB).trans (h.fx o), fun o => ((kcell hk).2 C o h.lr hC).trans (h.fr o), Nat.lt_of_lt_of_le h.lx hk.size, Nat.lt_of_lt_of_le h.lr hk.size⟩
theorem HP.alloc {g n cap B C : Nat} {a : Option Addr} {V X : World} (h : HP g n cap B C a V X) (hB : B ≠ g) (hC : C ≠ g) (o : Obj) : HP g n cap B C a V (X.alloc o) := h.step hB hC (h.src.alloc o) ((Kept.refl g X).alloc o)
theorem keep6 {X : World} {E F D o : Nat} {a0 a1 a2 a3 b0 b1 : Value} (h : X.cell? ⟨E, 0, none⟩ = some a0 ∧ X.cell? ⟨E, 1, none⟩ = some a1 ∧ X.cell? ⟨E, 2, none⟩ = some a2 ∧ X.cell? ⟨E, 3, none⟩ = some a3 ∧ X.cell? ⟨F, 0, none⟩ = some b0 ∧ X.cell? ⟨F, 1, none⟩ = some b1) (hE : D ≠ E) (hF : D ≠ F) (u : Value) : (X.setCell ⟨D, o, none⟩ u).cell? ⟨E, 0, none⟩ = some a0 ∧ (X.setCell ⟨D, o, none⟩ u).cell? ⟨E, 1, none⟩ = some a1 ∧ (X.setCell ⟨D, o, none⟩ u).cell? ⟨E, 2, none⟩ = some a2 ∧ (X.setCell ⟨D, o, none⟩ u).cell? ⟨E, 3, none⟩ = some a3 ∧ (X.setCell ⟨D, o, none⟩ u).cell? ⟨F, 0, none⟩ = some b0 ∧ (X.setCell ⟨D, o, none⟩ u).cell? ⟨F, 1, none⟩ = some b1 := by
  have e : ∀ B i, D ≠ B → (X.setCell ⟨D, o, none⟩ u).cell? ⟨B, i, none⟩ = X.cell? ⟨B, i, none⟩ := fun B i hB => World.cell?_setCell_other _ _ _ _ (by simp only [ne_eq, Addr.mk.injEq, not_and]; omega)
  rw [e E 0 hE, e E 1 hE, e E 2 hE, e E 3 hE, e F 0 hF, e F 1 hF]
  exact h
theorem keepd6 {X : World} {E F : Nat} {a0 a1 a2 a3 b0 b1 : Value} (h : X.cell? ⟨E, 0, none⟩ = some a0 ∧ X.cell? ⟨E, 1, none⟩ = some a1 ∧ X.cell? ⟨E, 2, none⟩ = some a2 ∧ X.cell? ⟨E, 3, none⟩ = some a3 ∧ X.cell? ⟨F, 0, none⟩ = some b0 ∧ X.cell? ⟨F, 1, none⟩ = some b1) : X.drew.cell? ⟨E, 0, none⟩ = some a0 ∧ X.drew.cell? ⟨E, 1, none⟩ = some a1 ∧ X.drew.cell? ⟨E, 2, none⟩ = some a2 ∧ X.drew.cell? ⟨E, 3, none⟩ = some a3 ∧ X.drew.cell? ⟨F, 0, none⟩ = some b0 ∧ X.drew.cell? ⟨F, 1, none⟩ = some b1 := h
theorem HP.setF {g n cap B C F o : Nat} {a : Option Addr} {V X : World} (h : HP g n cap B C a V X) (hg : g < F) (hV : V.heap.size ≤ F) (hB : B ≠ F) (hC : C ≠ F) (u : Value) : HP g n cap B C a V (X.setCell ⟨F, o, none⟩ u) :=
  ⟨h.src.setCell (p := ⟨F, o, none⟩) hg u, h.kept.setCell (.inr hV) u, fun i hi => (World.cell?_setCell_other _ _ _ _ (by simp only [ne_eq, Addr.mk.injEq, not_and]; omega)).trans (h.cx i hi), fun i hi => (World.cell?_setCell_other _ _ _ _ (by simp only [ne_eq, Addr.mk.injEq, not_and]; omega)).trans (h.cr i hi), fun i => (World.frozen?_setCell ..).trans (h.fx i), fun i => (World.frozen?_setCell ..).trans (h.fr i), by simpa [World.setCell] using h.lx, by simpa [World.setCell] using h.lr⟩
set_option maxRecDepth 100000 in
set_option maxHeartbeats 2000000 in
theorem DrawPointAt_c (a : Option Addr) (n cap : Nat) (w : World) (hn : n ≤ 9223372036854775807) (hb : BytesB w.heap.size w a n) : Calls Try.prog 41 #[.slice a n cap] w fun e w' => (∃ ax ay bx cy n1 d1 : Int, e = .returned (.tuple #[.agg #[.int .i64 ax, .int .i64 ay, .int .i64 bx, .int .i64 cy], .agg #[.int .i64 n1, .int .i64 d1]])) ∧ Below w.heap.size w w' := by
  have HB := Lib.hid hb
  clear hb
  go_enter Try.func41, Try.ntmps41
  go_wp2_with fail
  obtain ⟨W, hW⟩ : ∃ W, W = ((w.alloc (.cells #[.int .i64 0, .int .i64 0, .int .i64 0, .int .i64 0] 46)).alloc (.cells #[.int .i64 0, .int .i64 0] 34)) := ⟨_, rfl⟩
  have HD : Below w.heap.size w W := by subst hW; exact (by repeat (first | with_reducible exact Below.refl _ _ | with_reducible assumption | with_reducible refine Below.drew ?_ | with_reducible refine Below.alloc ?_ (by first | exact Nat.le_refl _ | (simp; done) | (simp; omega) | omega) _ | with_reducible refine Below.setCell ?_ (by first | exact Nat.le_refl _ | (simp; done) | (simp; omega) | omega) _ | with_reducible refine Below.trans ?_ (Below.mono (by with_reducible assumption) (by first | exact Nat.le_refl _ | (simp; done) | (simp; omega) | omega))))
  have cx : ∀ o, o < 4 → W.cell? ⟨w.heap.size, o, none⟩ = some (.int .i64 0) := fun o ho => by subst hW; (obtain rfl | rfl | rfl | rfl : o = 0 ∨ o = 1 ∨ o = 2 ∨ o = 3 := by omega) <;> simp [go_sem]
  have cr : ∀ o, o < 2 → W.cell? ⟨w.heap.size + 1, o, none⟩ = some (.int .i64 0) := fun o ho => by subst hW; (obtain rfl | rfl : o = 0 ∨ o = 1 := by omega) <;> simp [go_sem]
  have fx : ∀ o, W.frozen? ⟨w.heap.size, o, none⟩ = false := by subst hW; intro o; simp [go_sem]
  have fr : ∀ o, W.frozen? ⟨w.heap.size + 1, o, none⟩ = false := by subst hW; intro o; simp [go_sem]
  have lr : w.heap.size + 1 < W.heap.size := by subst hW; simp
  have lx : w.heap.size < W.heap.size := by omega
  rw [← hW]
  clear hW
  refine (l01From_c a n cap W hn (bytes_at HB.out HD)).mono ?_
  rintro e V1 ⟨⟨g, rfl, hg, hs1⟩, hb1⟩
  have hBg : w.heap.size ≠ g := by omega
  have hCg : w.heap.size + 1 ≠ g := by omega
  obtain ⟨hc, hf⟩ := bcell hb1
  have H : HP g n cap w.heap.size (w.heap.size + 1) a V1 V1 := ⟨hs1, Kept.refl _ _, fun o ho => (hc _ o lx).trans (cx o ho), fun o ho => (hc _ o lr).trans (cr o ho), fun o => (hf _ o lx).trans (fx o), fun o => (hf _ o lr).trans (fr o), Nat.lt_of_lt_of_le lx hb1.size, Nat.lt_of_lt_of_le lr hb1.size⟩
  have FIN := Lib.hid (fun Y (hk : Kept g V1 Y) => bfromP HD hb1 hg hk)
  have hgw : w.heap.size < g := by omega
  clear hc hf cx cr fx fr lx lr hs1 HD hb1 HB
  go_wp2_with fail
  refine (l02DrawAny_c g a n cap _ hn H.src).mono ?_
  rintro e V2 ⟨⟨x0, x1, x2, x3, rfl⟩, hs, hk⟩
  have H2 := hk.size
  have hgw2 := H.src.lt
  replace H := H.step hBg hCg hs hk
  clear hs hk
  go_wp2_with fail
  obtain ⟨V3, hV⟩ : ∃ V, V = V2.alloc (.cells #[.int .i64 x0, .int .i64 x1, .int .i64 x2, .int .i64 x3] 46) := ⟨_, rfl⟩
  replace H : HP g n cap w.heap.size (w.heap.size + 1) a V1 V3 := by subst hV; exact H.alloc hBg hCg _
  have x0c : V3.cell? ⟨V2.heap.size, 0, none⟩ = some (.int .i64 x0) := by subst hV; simp [go_sem]
  have x1c : V3.cell? ⟨V2.heap.size, 1, none⟩ = some (.int .i64 x1) := by subst hV; simp [go_sem]
  have x2c : V3.cell? ⟨V2.heap.size, 2, none⟩ = some (.int .i64 x2) := by subst hV; simp [go_sem]
  have x3c : V3.cell? ⟨V2.heap.size, 3, none⟩ = some (.int .i64 x3) := by subst hV; simp [go_sem]
  have lE : V2.heap.size < V3.heap.size := by subst hV; simp
  have hEg : V2.heap.size ≠ g := by have := Nat.lt_of_lt_of_le hgw2 H2; omega
  rw [← hV]
  clear hV
  generalize V2.heap.size = E at *
  refine (l01Next_c g a n cap _ _ hn H.src).mono ?_
  rintro e V4 ⟨⟨q, rfl, hq1, hq2⟩, hs, hk⟩
  have hq := hq1 (by omega)
  clear hq1 hq2
  replace H := H.step hBg hCg hs hk
  replace x0c := ((kcell hk).1 E 0 lE hEg).trans x0c
  replace x1c := ((kcell hk).1 E 1 lE hEg).trans x1c
  replace x2c := ((kcell hk).1 E 2 lE hEg).trans x2c
  replace x3c := ((kcell hk).1 E 3 lE hEg).trans x3c
  replace lE := Nat.lt_of_lt_of_le lE hk.size
  clear hs hk
  have i1 : IntKind.i64.wrap (1 + q) = 1 + q := by rw [IntKind.wrap_i64]; omega
  have i2 : IntKind.i64.wrap (1 + q + 1) = 1 + q + 1 := by rw [IntKind.wrap_i64]; omega
  go_wp2_with fail
  refine (l01Next_c g a n cap _ _ hn H.src).mono ?_
  rintro e V5 ⟨⟨m, rfl, hq1, hq2⟩, hs, hk⟩
  clear hq1 hq2
  replace H := H.step hBg hCg hs hk
  replace x0c := ((kcell hk).1 E 0 lE hEg).trans x0c
  replace x1c := ((kcell hk).1 E 1 lE hEg).trans x1c
  replace x2c := ((kcell hk).1 E 2 lE hEg).trans x2c
  replace x3c := ((kcell hk).1 E 3 lE hEg).trans x3c
  replace lE := Nat.lt_of_lt_of_le lE hk.size
  clear hs hk
  go_wp2_with fail
  obtain ⟨V6, hV⟩ : ∃ V, V = V5.alloc (.cells #[.int .i64 m, .int .i64 (1 + q)] 34) := ⟨_, rfl⟩
  have hk : Kept g V5 V6 := by subst hV; exact (Kept.refl g V5).alloc _
  have hF0 := H.src.lt
  have HK5 := H.kept.size
  replace H : HP g n cap w.heap.size (w.heap.size + 1) a V1 V6 := by subst hV; exact H.alloc hBg hCg _
  replace x0c := ((kcell hk).1 E 0 lE hEg).trans x0c
  replace x1c := ((kcell hk).1 E 1 lE hEg).trans x1c
  replace x2c := ((kcell hk).1 E 2 lE hEg).trans x2c
  replace x3c := ((kcell hk).1 E 3 lE hEg).trans x3c
  have r0c : V6.cell? ⟨V5.heap.size, 0, none⟩ = some (.int .i64 m) := by subst hV; simp [go_sem]
  have r1c : V6.cell? ⟨V5.heap.size, 1, none⟩ = some (.int .i64 (1 + q)) := by subst hV; simp [go_sem]
  have rf : ∀ o, V6.frozen? ⟨V5.heap.size, o, none⟩ = false := by subst hV; intro o; simp [go_sem]
  have lF : V5.heap.size < V6.heap.size := by subst hV; simp
  have hFg : V5.heap.size ≠ g := by omega
  have hFE : V5.heap.size ≠ E := by omega
  have hF1 : V1.heap.size ≤ V5.heap.size := HK5
  replace lE := Nat.lt_of_lt_of_le lE hk.size
  rw [← hV]
  clear hV hk
  generalize V5.heap.size = F at *
  refine (l01Next_c g a n cap _ _ hn H.src).mono ?_
  rintro e V7 ⟨⟨c, rfl, hq1, hq2⟩, hs, hk⟩
  clear hq1 hq2
  replace H := H.step hBg hCg hs hk
  replace x0c := ((kcell hk).1 E 0 lE hEg).trans x0c
  replace x1c := ((kcell hk).1 E 1 lE hEg).trans x1c
  replace x2c := ((kcell hk).1 E 2 lE hEg).trans x2c
  replace x3c := ((kcell hk).1 E 3 lE hEg).trans x3c
  replace r0c := ((kcell hk).1 F 0 lF hFg).trans r0c
  replace r1c := ((kcell hk).1 F 1 lF hFg).trans r1c
  replace rf := fun o => ((kcell hk).2 F o lF hFg).trans (rf o)
  replace lE := Nat.lt_of_lt_of_le lE hk.size
  replace lF := Nat.lt_of_lt_of_le lF hk.size
  clear hs hk hF0
  have hEB : w.heap.size ≠ E := by omega
  have hEC : w.heap.size + 1 ≠ E := by omega
  have hFB : w.heap.size ≠ F := by omega
  have hFC : w.heap.size + 1 ≠ F := by omega
  have hgF : g < F := by omega
  by_cases c0 : c = 0
  · subst c0
    go_wp2_with fail
    have lV : V7.heap.size ≠ g := by have := H.src.lt; omega
    refine (l01NextN_c g a n cap _ _ hn (H.src.alloc _)).mono ?_
    rintro e V8 ⟨⟨k, rfl, hk1, hk2⟩, hs, hk0⟩
    simp at hk1
    clear hk2
    obtain ⟨hk1, hk3⟩ := hk1
    have hm5 := fun o => (kcell hk0).1 V7.heap.size o (by simp) lV
    have hl5 := Nat.lt_of_lt_of_le (show V7.heap.size < (V7.alloc _).heap.size by simp) hk0.size
    have hk := ((Kept.refl g V7).alloc _).trans hk0
    replace H := H.step hBg hCg hs hk
    replace x0c := ((kcell hk).1 E 0 lE hEg).trans x0c
    replace x1c := ((kcell hk).1 E 1 lE hEg).trans x1c
    replace x2c := ((kcell hk).1 E 2 lE hEg).trans x2c
    replace x3c := ((kcell hk).1 E 3 lE hEg).trans x3c
    replace r0c := ((kcell hk).1 F 0 lF hFg).trans r0c
    replace r1c := ((kcell hk).1 F 1 lF hFg).trans r1c
    replace rf := fun o => ((kcell hk).2 F o lF hFg).trans (rf o)
    replace lE := Nat.lt_of_lt_of_le lE hk.size
    replace lF := Nat.lt_of_lt_of_le lF hk.size
    clear hs hk hk0
    go_wp2_with fail
    clear hm5 hl5
    obtain ⟨Y, hY⟩ : ∃ Y, Y = V8.setCell ⟨F, 1, none⟩ (.int .i64 (pk [0, -1, 100000000000000, 100000000000001] k)) := ⟨_, rfl⟩
    rw [← hY]
    replace H : HP g n cap w.heap.size (w.heap.size + 1) a V1 Y := by subst hY; exact H.setF hgF hF1 hFB hFC _
    replace x0c : Y.cell? ⟨E, 0, none⟩ = some (.int .i64 x0) := by subst hY; exact (World.cell?_setCell_other _ _ _ _ (by simp only [ne_eq, Addr.mk.injEq, not_and]; omega)).trans x0c
    replace x1c : Y.cell? ⟨E, 1, none⟩ = some (.int .i64 x1) := by subst hY; exact (World.cell?_setCell_other _ _ _ _ (by simp only [ne_eq, Addr.mk.injEq, not_and]; omega)).trans x1c
    replace x2c : Y.cell? ⟨E, 2, none⟩ = some (.int .i64 x2) := by subst hY; exact (World.cell?_setCell_other _ _ _ _ (by simp only [ne_eq, Addr.mk.injEq, not_and]; omega)).trans x2c
    replace x3c : Y.cell? ⟨E, 3, none⟩ = some (.int .i64 x3) := by subst hY; exact (World.cell?_setCell_other _ _ _ _ (by simp only [ne_eq, Addr.mk.injEq, not_and]; omega)).trans x3c
    replace r0c : Y.cell? ⟨F, 0, none⟩ = some (.int .i64 m) := by subst hY; exact (World.cell?_setCell_other _ _ _ _ (by simp)).trans r0c
    replace r1c : Y.cell? ⟨F, 1, none⟩ = some (.int .i64 (pk [0, -1, 100000000000000, 100000000000001] k)) := by subst hY; exact World.cell?_setCell_same _ _ _ r1c
    replace lE : E < Y.heap.size := by subst hY; simpa [World.setCell] using lE
    replace lF : F < Y.heap.size := by subst hY; simpa [World.setCell] using lF
    clear hY rf
    generalize (pk [0, -1, 100000000000000, 100000000000001] k) = pv at *
    have b0 := H.cx 0 (by omega)
    have b1 := H.cx 1 (by omega)
    have b2 := H.cx 2 (by omega)
    have b3 := H.cx 3 (by omega)
    have d0 := H.cr 0 (by omega)
    have d1 := H.cr 1 (by omega)
    have bf := H.fx
    have df := H.fr
    have lB := H.lx
    have lC := H.lr
    have hFIN := FIN.out _ H.kept
    clear FIN H
    go_region_held3 (fun wx => wx.cell? ⟨E, 0, none⟩ = some (.int .i64 x0) ∧ wx.cell? ⟨E, 1, none⟩ = some (.int .i64 x1) ∧ wx.cell? ⟨E, 2, none⟩ = some (.int .i64 x2) ∧ wx.cell? ⟨E, 3, none⟩ = some (.int .i64 x3) ∧ wx.cell? ⟨F, 0, none⟩ = some (.int .i64 m) ∧ wx.cell? ⟨F, 1, none⟩ = some (.int .i64 pv)) (first | with_reducible exact keepd6 ⟨x0c, x1c, x2c, x3c, r0c, r1c⟩ | with_reducible exact ⟨x0c, x1c, x2c, x3c, r0c, r1c⟩ | with_reducible exact keepd6 (keep6 (keep6 (keep6 (keep6 ⟨x0c, x1c, x2c, x3c, r0c, r1c⟩ hEB hFB _) hEB hFB _) hEB hFB _) hEB hFB _) | with_reducible exact keepd6 (keep6 (keep6 ⟨x0c, x1c, x2c, x3c, r0c, r1c⟩ hEC hFC _) hEC hFC _) | with_reducible exact keepd6 (keep6 (keep6 (keep6 (keep6 (keep6 (keep6 ⟨x0c, x1c, x2c, x3c, r0c, r1c⟩ hEB hFB _) hEB hFB _) hEB hFB _) hEB hFB _) hEC hFC _) hEC hFC _) | with_reducible exact keepd6 (keep6 (keep6 (keep6 (keep6 (keep6 (keep6 ⟨x0c, x1c, x2c, x3c, r0c, r1c⟩ hEC hFC _) hEC hFC _) hEB hFB _) hEB hFB _) hEB hFB _) hEB hFB _)) (fail)
    all_goals go_wp2_with fail
    all_goals exact bodyPost_ret (v := .tuple #[.agg #[.int .i64 x0, .int .i64 x1, .int .i64 x2, .int .i64 x3], .agg #[.int .i64 m, .int .i64 pv]]) (by simp [results, Try.results41, go_sem, b0, b1, b2, b3, d0, d1]) rfl ⟨⟨x0, x1, x2, x3, m, pv, rfl⟩, (by repeat (first | with_reducible exact Below.refl _ _ | with_reducible assumption | with_reducible refine Below.drew ?_ | with_reducible refine Below.alloc ?_ (by first | exact Nat.le_refl _ | (simp; done) | (simp; omega) | omega) _ | with_reducible refine Below.setCell ?_ (by first | exact Nat.le_refl _ | (simp; done) | (simp; omega) | omega) _ | with_reducible refine Below.trans ?_ (Below.mono (by with_reducible assumption) (by first | exact Nat.le_refl _ | (simp; done) | (simp; omega) | omega))))⟩
  by_cases c1 : c = 1
  · subst c1
    go_wp2_with fail
    have lV : V7.heap.size ≠ g := by have := H.src.lt; omega
    refine (l01NextN_c g a n cap _ _ hn (H.src.alloc _)).mono ?_
    rintro e V8 ⟨⟨k, rfl, hk1, hk2⟩, hs, hk0⟩
    simp at hk1
    clear hk2
    obtain ⟨hk1, hk3⟩ := hk1
    have hm5 := fun o => (kcell hk0).1 V7.heap.size o (by simp) lV
    have hl5 := Nat.lt_of_lt_of_le (show V7.heap.size < (V7.alloc _).heap.size by simp) hk0.size
    have hk := ((Kept.refl g V7).alloc _).trans hk0
    replace H := H.step hBg hCg hs hk
    replace x0c := ((kcell hk).1 E 0 lE hEg).trans x0c
    replace x1c := ((kcell hk).1 E 1 lE hEg).trans x1c
    replace x2c := ((kcell hk).1 E 2 lE hEg).trans x2c
    replace x3c := ((kcell hk).1 E 3 lE hEg).trans x3c
    replace r0c := ((kcell hk).1 F 0 lF hFg).trans r0c
    replace r1c := ((kcell hk).1 F 1 lF hFg).trans r1c
    replace rf := fun o => ((kcell hk).2 F o lF hFg).trans (rf o)
    replace lE := Nat.lt_of_lt_of_le lE hk.size
    replace lF := Nat.lt_of_lt_of_le lF hk.size
    clear hs hk hk0
    go_wp2_with fail
    clear hm5 hl5
    obtain ⟨Y, hY⟩ : ∃ Y, Y = V8.setCell ⟨F, 0, none⟩ (.int .i64 (pk [-1, 41, 999999999999] k)) := ⟨_, rfl⟩
    rw [← hY]
    replace H : HP g n cap w.heap.size (w.heap.size + 1) a V1 Y := by subst hY; exact H.setF hgF hF1 hFB hFC _
    replace x0c : Y.cell? ⟨E, 0, none⟩ = some (.int .i64 x0) := by subst hY; exact (World.cell?_setCell_other _ _ _ _ (by simp only [ne_eq, Addr.mk.injEq, not_and]; omega)).trans x0c
    replace x1c : Y.cell? ⟨E, 1, none⟩ = some (.int .i64 x1) := by subst hY; exact (World.cell?_setCell_other _ _ _ _ (by simp only [ne_eq, Addr.mk.injEq, not_and]; omega)).trans x1c
    replace x2c : Y.cell? ⟨E, 2, none⟩ = some (.int .i64 x2) := by subst hY; exact (World.cell?_setCell_other _ _ _ _ (by simp only [ne_eq, Addr.mk.injEq, not_and]; omega)).trans x2c
    replace x3c : Y.cell? ⟨E, 3, none⟩ = some (.int .i64 x3) := by subst hY; exact (World.cell?_setCell_other _ _ _ _ (by simp only [ne_eq, Addr.mk.injEq, not_and]; omega)).trans x3c
    replace r0c : Y.cell? ⟨F, 0, none⟩ = some (.int .i64 (pk [-1, 41, 999999999999] k)) := by subst hY; exact World.cell?_setCell_same _ _ _ r0c
    replace r1c : Y.cell? ⟨F, 1, none⟩ = some (.int .i64 (1 + q)) := by subst hY; exact (World.cell?_setCell_other _ _ _ _ (by simp)).trans r1c
    replace lE : E < Y.heap.size := by subst hY; simpa [World.setCell] using lE
    replace lF : F < Y.heap.size := by subst hY; simpa [World.setCell] using lF
    clear hY rf
    generalize (pk [-1, 41, 999999999999] k) = pv at *
    have b0 := H.cx 0 (by omega)
    have b1 := H.cx 1 (by omega)
    have b2 := H.cx 2 (by omega)
    have b3 := H.cx 3 (by omega)
    have d0 := H.cr 0 (by omega)
    have d1 := H.cr 1 (by omega)
    have bf := H.fx
    have df := H.fr
    have lB := H.lx
    have lC := H.lr
    have hFIN := FIN.out _ H.kept
    clear FIN H
    go_region_held3 (fun wx => wx.cell? ⟨E, 0, none⟩ = some (.int .i64 x0) ∧ wx.cell? ⟨E, 1, none⟩ = some (.int .i64 x1) ∧ wx.cell? ⟨E, 2, none⟩ = some (.int .i64 x2) ∧ wx.cell? ⟨E, 3, none⟩ = some (.int .i64 x3) ∧ wx.cell? ⟨F, 0, none⟩ = some (.int .i64 pv) ∧ wx.cell? ⟨F, 1, none⟩ = some (.int .i64 (1 + q))) (first | with_reducible exact keepd6 ⟨x0c, x1c, x2c, x3c, r0c, r1c⟩ | with_reducible exact ⟨x0c, x1c, x2c, x3c, r0c, r1c⟩ | with_reducible exact keepd6 (keep6 (keep6 (keep6 (keep6 ⟨x0c, x1c, x2c, x3c, r0c, r1c⟩ hEB hFB _) hEB hFB _) hEB hFB _) hEB hFB _) | with_reducible exact keepd6 (keep6 (keep6 ⟨x0c, x1c, x2c, x3c, r0c, r1c⟩ hEC hFC _) hEC hFC _) | with_reducible exact keepd6 (keep6 (keep6 (keep6 (keep6 (keep6 (keep6 ⟨x0c, x1c, x2c, x3c, r0c, r1c⟩ hEB hFB _) hEB hFB _) hEB hFB _) hEB hFB _) hEC hFC _) hEC hFC _) | with_reducible exact keepd6 (keep6 (keep6 (keep6 (keep6 (keep6 (keep6 ⟨x0c, x1c, x2c, x3c, r0c, r1c⟩ hEC hFC _) hEC hFC _) hEB hFB _) hEB hFB _) hEB hFB _) hEB hFB _)) (fail)
    all_goals go_wp2_with fail
    all_goals exact bodyPost_ret (v := .tuple #[.agg #[.int .i64 x0, .int .i64 x1, .int .i64 x2, .int .i64 x3], .agg #[.int .i64 pv, .int .i64 (1 + q)]]) (by simp [results, Try.results41, go_sem, b0, b1, b2, b3, d0, d1]) rfl ⟨⟨x0, x1, x2, x3, pv, (1 + q), rfl⟩, (by repeat (first | with_reducible exact Below.refl _ _ | with_reducible assumption | with_reducible refine Below.drew ?_ | with_reducible refine Below.alloc ?_ (by first | exact Nat.le_refl _ | (simp; done) | (simp; omega) | omega) _ | with_reducible refine Below.setCell ?_ (by first | exact Nat.le_refl _ | (simp; done) | (simp; omega) | omega) _ | with_reducible refine Below.trans ?_ (Below.mono (by with_reducible assumption) (by first | exact Nat.le_refl _ | (simp; done) | (simp; omega) | omega))))⟩
  go_upto_region 10 with fail
  have b0 := H.cx 0 (by omega)
  have b1 := H.cx 1 (by omega)
  have b2 := H.cx 2 (by omega)
  have b3 := H.cx 3 (by omega)
  have d0 := H.cr 0 (by omega)
  have d1 := H.cr 1 (by omega)
  have bf := H.fx
  have df := H.fr
  have lB := H.lx
  have lC := H.lr
  have hFIN := FIN.out _ H.kept
  clear FIN H
  go_region_held3 (fun wx => wx.cell? ⟨E, 0, none⟩ = some (.int .i64 x0) ∧ wx.cell? ⟨E, 1, none⟩ = some (.int .i64 x1) ∧ wx.cell? ⟨E, 2, none⟩ = some (.int .i64 x2) ∧ wx.cell? ⟨E, 3, none⟩ = some (.int .i64 x3) ∧ wx.cell? ⟨F, 0, none⟩ = some (.int .i64 m) ∧ wx.cell? ⟨F, 1, none⟩ = some (.int .i64 (1 + q))) (first | with_reducible exact keepd6 ⟨x0c, x1c, x2c, x3c, r0c, r1c⟩ | with_reducible exact ⟨x0c, x1c, x2c, x3c, r0c, r1c⟩ | with_reducible exact keepd6 (keep6 (keep6 (keep6 (keep6 ⟨x0c, x1c, x2c, x3c, r0c, r1c⟩ hEB hFB _) hEB hFB _) hEB hFB _) hEB hFB _) | with_reducible exact keepd6 (keep6 (keep6 ⟨x0c, x1c, x2c, x3c, r0c, r1c⟩ hEC hFC _) hEC hFC _) | with_reducible exact keepd6 (keep6 (keep6 (keep6 (keep6 (keep6 (keep6 ⟨x0c, x1c, x2c, x3c, r0c, r1c⟩ hEB hFB _) hEB hFB _) hEB hFB _) hEB hFB _) hEC hFC _) hEC hFC _) | with_reducible exact keepd6 (keep6 (keep6 (keep6 (keep6 (keep6 (keep6 ⟨x0c, x1c, x2c, x3c, r0c, r1c⟩ hEC hFC _) hEC hFC _) hEB hFB _) hEB hFB _) hEB hFB _) hEB hFB _)) (fail)
  all_goals go_wp2_with fail
  all_goals exact bodyPost_ret (v := .tuple #[.agg #[.int .i64 x0, .int .i64 x1, .int .i64 x2, .int .i64 x3], .agg #[.int .i64 m, .int .i64 (1 + q)]]) (by simp [results, Try.results41, go_sem, b0, b1, b2, b3, d0, d1]) rfl ⟨⟨x0, x1, x2, x3, m, (1 + q), rfl⟩, (by repeat (first | with_reducible exact Below.refl _ _ | with_reducible assumption | with_reducible refine Below.drew ?_ | with_reducible refine Below.alloc ?_ (by first | exact Nat.le_refl _ | (simp; done) | (simp; omega) | omega) _ | with_reducible refine Below.setCell ?_ (by first | exact Nat.le_refl _ | (simp; done) | (simp; omega) | omega) _ | with_reducible refine Below.trans ?_ (Below.mono (by with_reducible assumption) (by first | exact Nat.le_refl _ | (simp; done) | (simp; omega) | omega))))⟩
end Go.Proofs.Ytiinhelljcgeaaa
