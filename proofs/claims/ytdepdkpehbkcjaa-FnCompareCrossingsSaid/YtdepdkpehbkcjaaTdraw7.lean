/-
  The draws of the laws on crossings. Conditions: the code's bytes lie in the world.
-/
import Derived.Test.YtdepdkpehbkcjaaTdraw6
namespace Go.Proofs.Ytdepdkpehbkcjaa
set_option linter.unusedVariables false
open Go.RowKit Go.Deep

theorem fin_tl {g n cap r cp base : Nat} {a : Option Addr} {T : TypeId} {w Z : World} {l : List Fx} {x y z u : Int} {E : Ending} (e : E = .returned (.tuple #[.agg #[.slice (some ⟨r, 0, none⟩) l.length cp], .agg #[.int .i64 x, .int .i64 y, .int .i64 z, .int .i64 u]])) (hgl : g < w.heap.size) (hB : w.heap.size + 1 < base) (h1 : 1 ≤ l.length) (h2 : l.length ≤ 41) (hO : Z.ownsRow base T 3 (.slice (some ⟨r, 0, none⟩) l.length cp) l.length (flat l)) (hs : Src g a n cap Z) (hk : Kept g w Z) (v u0 u1 u2 u3 : Value) :
    (∃ (r cp : Nat) (l : List Fx) (x y z u : Int), E = .returned (.tuple #[.agg #[.slice (some ⟨r, 0, none⟩) l.length cp], .agg #[.int .i64 x, .int .i64 y, .int .i64 z, .int .i64 u]]) ∧ 1 ≤ l.length ∧ l.length ≤ 41 ∧ (((((Z.setCell ⟨w.heap.size, 0, none⟩ v).setCell ⟨w.heap.size + 1, 0, none⟩ u0).setCell ⟨w.heap.size + 1, 1, none⟩ u1).setCell ⟨w.heap.size + 1, 2, none⟩ u2).setCell ⟨w.heap.size + 1, 3, none⟩ u3).ownsRow w.heap.size T 3 (.slice (some ⟨r, 0, none⟩) l.length cp) l.length (flat l)) ∧ Src g a n cap (((((Z.setCell ⟨w.heap.size, 0, none⟩ v).setCell ⟨w.heap.size + 1, 0, none⟩ u0).setCell ⟨w.heap.size + 1, 1, none⟩ u1).setCell ⟨w.heap.size + 1, 2, none⟩ u2).setCell ⟨w.heap.size + 1, 3, none⟩ u3) ∧ Kept g w (((((Z.setCell ⟨w.heap.size, 0, none⟩ v).setCell ⟨w.heap.size + 1, 0, none⟩ u0).setCell ⟨w.heap.size + 1, 1, none⟩ u1).setCell ⟨w.heap.size + 1, 2, none⟩ u2).setCell ⟨w.heap.size + 1, 3, none⟩ u3) := by
  have b0 : w.heap.size < base := by omega
  exact ⟨⟨r, cp, l, x, y, z, u, e, h1, h2, own_mono (ownsRow_setCell_below (a := ⟨w.heap.size + 1, 3, none⟩) (ownsRow_setCell_below (a := ⟨w.heap.size + 1, 2, none⟩) (ownsRow_setCell_below (a := ⟨w.heap.size + 1, 1, none⟩) (ownsRow_setCell_below (a := ⟨w.heap.size + 1, 0, none⟩) (ownsRow_setCell_below (a := ⟨w.heap.size, 0, none⟩) hO b0 v) hB u0) hB u1) hB u2) hB u3) (Nat.le_of_lt b0)⟩, src_set4 (hs.setCell (p := ⟨w.heap.size, 0, none⟩) hgl v) (Nat.lt_succ_of_lt hgl) u0 u1 u2 u3, kept_set4 (hk.setCell (.inr (Nat.le_refl _)) v) (Nat.le_succ _) u0 u1 u2 u3⟩
set_option maxRecDepth 100000 in
set_option maxHeartbeats 1000000 in
theorem l05Draw_c (g : Nat) (a : Option Addr) (n cap : Nat) (w : World) (hn : n ≤ 9223372036854775807) (hs : Src g a n cap w) : Calls Try.prog 98 #[.pointer (some ⟨g, 0, none⟩)] w fun e w' => (∃ (r cp : Nat) (l : List Fx) (x y z u : Int), e = .returned (.tuple #[.agg #[.slice (some ⟨r, 0, none⟩) l.length cp], .agg #[.int .i64 x, .int .i64 y, .int .i64 z, .int .i64 u]]) ∧ 1 ≤ l.length ∧ l.length ≤ 41 ∧ w'.ownsRow w.heap.size 32 3 (.slice (some ⟨r, 0, none⟩) l.length cp) l.length (flat l)) ∧ Src g a n cap w' ∧ Kept g w w' := by
  have hgl := hs.lt
  have hBg : w.heap.size ≠ g := by omega
  have hCg : w.heap.size + 1 ≠ g := by omega
  obtain ⟨W, hW⟩ : ∃ W, W = ((w.alloc (.cells #[.slice none 0 0] 26)).alloc (.cells #[.int .i64 0, .int .i64 0, .int .i64 0, .int .i64 0] 66)) := ⟨_, rfl⟩
  have hk0 : Kept g w W := by subst hW; exact ((Kept.refl _ _).alloc _).alloc _
  have hs0 : Src g a n cap W := by subst hW; exact (hs.alloc _).alloc _
  have z0 : W.cell? ⟨w.heap.size, 0, none⟩ = some (.slice none 0 0) := by subst hW; simp [go_sem]
  have z1 : ∀ o, W.frozen? ⟨w.heap.size, o, none⟩ = false := by subst hW; intro o; simp [go_sem]
  have LB : w.heap.size + 1 < W.heap.size := by subst hW; simp
  have HB : HB4 (w.heap.size + 1) W := by
    subst hW
    exact ⟨fun o ho => by (obtain rfl | rfl | rfl | rfl : o = 0 ∨ o = 1 ∨ o = 2 ∨ o = 3 := by omega) <;> simp [go_sem], fun o => by simp [go_sem], by simp⟩
  clear hs
  go_enter Try.func98, Try.ntmps98
  go_wp2_with fail
  rw [← hW]
  clear hW
  have L0 : w.heap.size < W.heap.size := by omega
  refine (l03DrawAny_c g a n cap W hn hs0).mono ?_
  rintro e V1 ⟨⟨r, cp, l, rfl, hl0, hl1, ho⟩, hs1, hk1⟩
  have hrr := ho.lt r rfl
  have hrg : r ≠ g := by have := hs0.lt; omega
  replace HB := HB.step hk1 hCg
  replace z0 := ((kcell hk1).1 _ 0 L0 hBg).trans z0
  replace z1 := fun o => ((kcell hk1).2 _ o L0 hBg).trans (z1 o)
  replace L0 := Nat.lt_of_lt_of_le L0 hk1.size
  replace hk0 := hk0.trans hk1
  clear hk1 hs0
  go_wp2_with fail
  obtain ⟨X, hX⟩ : ∃ X, X = V1.alloc (.cells #[.slice (some ⟨r, 0, none⟩) l.length cp] 26) := ⟨_, rfl⟩
  have hkX : Kept g V1 X := by subst hX; exact (Kept.refl _ _).alloc _
  have hsX : Src g a n cap X := by subst hX; exact hs1.alloc _
  have t0 : X.cell? ⟨V1.heap.size, 0, none⟩ = some (.slice (some ⟨r, 0, none⟩) l.length cp) := by subst hX; simp [go_sem]
  have LT : V1.heap.size < X.heap.size := by subst hX; simp
  have gT : V1.heap.size ≠ g := by have := hs1.lt; omega
  rw [← hX]
  clear hX
  have HO := Lib.hid (own_keptk ho hkX hrg)
  replace HB := HB.step hkX hCg
  replace z0 := ((kcell hkX).1 _ 0 L0 hBg).trans z0
  replace z1 := fun o => ((kcell hkX).2 _ o L0 hBg).trans (z1 o)
  replace L0 := Nat.lt_of_lt_of_le L0 hkX.size
  replace hk0 := hk0.trans hkX

  clear hkX hs1 ho
  generalize V1.heap.size = T at *
  go_region_with (go_at_call 122; refine (l05DrawLine_c g r W.heap.size cp a n cap l _ hn (by omega) (by first | exact hsX | exact hsX.drew) hrg (by first | exact HO.out)).mono ?_; rintro e V3 ⟨⟨x, y, z, u, rfl⟩, hs3, hk3⟩; have hK : Kept g X V3 := (by first | exact hk3 | exact (Kept.refl g X).drew.trans hk3); have t3 := ((kcell hK).1 T 0 LT gT).trans t0; have z3 := ((kcell hK).1 _ 0 L0 hBg).trans z0; have f3 := fun o => ((kcell hK).2 _ o L0 hBg).trans (z1 o); have L3 := Nat.lt_of_lt_of_le L0 hK.size; have H3 := HB.step hK hCg; have c0 := H3.c 0 (by omega); have c1 := H3.c 1 (by omega); have c2 := H3.c 2 (by omega); have c3 := H3.c 3 (by omega); have cf := H3.f; have cl := H3.lt)
  all_goals go_wp2_with fail
  all_goals exact bodyPost_ret (v := .tuple #[.agg #[.slice (some ⟨r, 0, none⟩) l.length cp], .agg #[.int .i64 x, .int .i64 y, .int .i64 z, .int .i64 u]]) (by simp [results, Try.results98, go_sem, z3, c0, c1, c2, c3]) rfl (fin_tl (e := rfl) (base := W.heap.size) hgl LB hl0 hl1 (own_keptk HO.out hK hrg) hs3 (hk0.trans hK) _ _ _ _ _)
/-- what a draw that returns a track and a line keeps of its results (B) and of its variables (T) -/
structure HTL (B T r len cp : Nat) (x y z u : Int) (X : World) : Prop where
  t0 : X.cell? ⟨T, 0, none⟩ = some (.slice (some ⟨r, 0, none⟩) len cp)
  l0 : X.cell? ⟨T + 1, 0, none⟩ = some (.int .i64 x)
  l1 : X.cell? ⟨T + 1, 1, none⟩ = some (.int .i64 y)
  l2 : X.cell? ⟨T + 1, 2, none⟩ = some (.int .i64 z)
  l3 : X.cell? ⟨T + 1, 3, none⟩ = some (.int .i64 u)
  z0 : X.cell? ⟨B, 0, none⟩ = some (.slice none 0 0)
  zf : ∀ o, X.frozen? ⟨B, o, none⟩ = false
  hb : HB4 (B + 1) X
  lT : T + 1 < X.heap.size
  lB : B < X.heap.size
theorem HTL.step {B T r len cp g : Nat} {x y z u : Int} {X Y : World} (h : HTL B T r len cp x y z u X) (hk : Kept g X Y) (n0 : T ≠ g) (n1 : T + 1 ≠ g) (n2 : B ≠ g) (n3 : B + 1 ≠ g) : HTL B T r len cp x y z u Y := by
  have hc := (kcell hk).1
  have hf := (kcell hk).2
  have l := h.lT
  exact ⟨(hc T 0 (by omega) n0).trans h.t0, (hc _ 0 l n1).trans h.l0, (hc _ 1 l n1).trans h.l1, (hc _ 2 l n1).trans h.l2, (hc _ 3 l n1).trans h.l3, (hc B 0 h.lB n2).trans h.z0, fun o => (hf B o h.lB n2).trans (h.zf o), h.hb.step hk n3, Nat.lt_of_lt_of_le l hk.size, Nat.lt_of_lt_of_le h.lB hk.size⟩
theorem HTL.drew {B T r len cp : Nat} {x y z u : Int} {X : World} (h : HTL B T r len cp x y z u X) : HTL B T r len cp x y z u X.drew := ⟨h.t0, h.l0, h.l1, h.l2, h.l3, h.z0, h.zf, h.hb.drew, h.lT, h.lB⟩
theorem fin_tlb {base : Nat} {T : TypeId} {w Z : World} {v xs : _} {n cp : Nat} {r : Option Addr} (hB : w.heap.size + 1 < base) (hO : Z.ownsRow base T 3 (.slice r n cp) n xs) (hk : Below w.heap.size w Z) (u0 u1 u2 u3 : Value) :
    (((((Z.setCell ⟨w.heap.size, 0, none⟩ v).setCell ⟨w.heap.size + 1, 0, none⟩ u0).setCell ⟨w.heap.size + 1, 1, none⟩ u1).setCell ⟨w.heap.size + 1, 2, none⟩ u2).setCell ⟨w.heap.size + 1, 3, none⟩ u3).ownsRow w.heap.size T 3 (.slice r n cp) n xs ∧ Below w.heap.size w (((((Z.setCell ⟨w.heap.size, 0, none⟩ v).setCell ⟨w.heap.size + 1, 0, none⟩ u0).setCell ⟨w.heap.size + 1, 1, none⟩ u1).setCell ⟨w.heap.size + 1, 2, none⟩ u2).setCell ⟨w.heap.size + 1, 3, none⟩ u3) := by
  have b0 : w.heap.size < base := by omega
  have b1 := Nat.le_succ w.heap.size
  exact ⟨own_mono (ownsRow_setCell_below (a := ⟨w.heap.size + 1, 3, none⟩) (ownsRow_setCell_below (a := ⟨w.heap.size + 1, 2, none⟩) (ownsRow_setCell_below (a := ⟨w.heap.size + 1, 1, none⟩) (ownsRow_setCell_below (a := ⟨w.heap.size + 1, 0, none⟩) (ownsRow_setCell_below (a := ⟨w.heap.size, 0, none⟩) hO b0 v) hB u0) hB u1) hB u2) hB u3) (Nat.le_of_lt b0), ((((hk.setCell (p := ⟨w.heap.size, 0, none⟩) (Nat.le_refl _) v).setCell (p := ⟨w.heap.size + 1, 0, none⟩) b1 u0).setCell (p := ⟨w.heap.size + 1, 1, none⟩) b1 u1).setCell (p := ⟨w.heap.size + 1, 2, none⟩) b1 u2).setCell (p := ⟨w.heap.size + 1, 3, none⟩) b1 u3⟩
set_option maxRecDepth 100000 in
set_option maxHeartbeats 1000000 in
theorem DrawCrossingsOf_c (a : Option Addr) (n cap : Nat) (w : World) (hn : n ≤ 9223372036854775807) (hb : BytesB w.heap.size w a n) : Calls Try.prog 49 #[.slice a n cap] w fun e w' => (∃ (r cp : Nat) (l : List Fx) (x y z u : Int), e = .returned (.tuple #[.agg #[.slice (some ⟨r, 0, none⟩) l.length cp], .agg #[.int .i64 x, .int .i64 y, .int .i64 z, .int .i64 u]]) ∧ 1 ≤ l.length ∧ l.length ≤ 41 ∧ w'.ownsRow w.heap.size 32 3 (.slice (some ⟨r, 0, none⟩) l.length cp) l.length (flat l)) ∧ Below w.heap.size w w' := by
  have HBy := Lib.hid hb
  clear hb
  obtain ⟨W, hW⟩ : ∃ W, W = ((w.alloc (.cells #[.slice none 0 0] 26)).alloc (.cells #[.int .i64 0, .int .i64 0, .int .i64 0, .int .i64 0] 66)) := ⟨_, rfl⟩
  have HD : Below w.heap.size w W := by subst hW; exact (by repeat (first | with_reducible exact Below.refl _ _ | with_reducible assumption | with_reducible refine Below.drew ?_ | with_reducible refine Below.alloc ?_ (by first | exact Nat.le_refl _ | (simp; done) | (simp; omega) | omega) _ | with_reducible refine Below.setCell ?_ (by first | exact Nat.le_refl _ | (simp; done) | (simp; omega) | omega) _ | with_reducible refine Below.trans ?_ (Below.mono (by with_reducible assumption) (by first | exact Nat.le_refl _ | (simp; done) | (simp; omega) | omega))))
  have z0 : W.cell? ⟨w.heap.size, 0, none⟩ = some (.slice none 0 0) := by subst hW; simp [go_sem]
  have z1 : ∀ o, W.frozen? ⟨w.heap.size, o, none⟩ = false := by subst hW; intro o; simp [go_sem]
  have LB : w.heap.size + 1 < W.heap.size := by subst hW; simp
  have HB : HB4 (w.heap.size + 1) W := by
    subst hW
    exact ⟨fun o ho => by (obtain rfl | rfl | rfl | rfl : o = 0 ∨ o = 1 ∨ o = 2 ∨ o = 3 := by omega) <;> simp [go_sem], fun o => by simp [go_sem], by simp⟩
  go_enter Try.func49, Try.ntmps49
  go_wp2_with fail
  rw [← hW]
  clear hW
  refine (l01From_c a n cap W hn (bytes_at HBy.out HD)).mono ?_
  rintro e V1 ⟨⟨g, rfl, hg, hs1⟩, hb1⟩
  have l0 : w.heap.size < W.heap.size := by omega
  replace z0 := ((bcell hb1).1 _ 0 l0).trans z0
  replace z1 := fun o => ((bcell hb1).2 _ o l0).trans (z1 o)
  have n0 : w.heap.size ≠ g := by omega
  have n1 : w.heap.size + 1 ≠ g := by omega
  replace HB := HB.step (g := g) (kept_of_below hb1) n1
  have l1 := Nat.lt_of_lt_of_le l0 hb1.size
  have LB1 := Nat.lt_of_lt_of_le LB hb1.size
  go_wp2_with fail
  refine (l05Draw_c g a n cap V1 hn hs1).mono ?_
  rintro e V2 ⟨⟨r, cp, l, x, y, z, u, rfl, hl0, hl1, ho⟩, hs2, hk2⟩
  replace z0 := ((kcell hk2).1 _ 0 l1 n0).trans z0
  replace z1 := fun o => ((kcell hk2).2 _ o l1 n0).trans (z1 o)
  replace HB := HB.step hk2 n1
  have hBD := bfrom HD hb1 hg hk2
  have FT := fun v => fin_tlb (v := v) LB1 ho hBD
  have c0 := HB.c 0 (by omega)
  have c1 := HB.c 1 (by omega)
  have c2 := HB.c 2 (by omega)
  have c3 := HB.c 3 (by omega)
  have cf := HB.f
  have cl := HB.lt
  have zl := Nat.lt_of_lt_of_le l1 hk2.size
  clear hb1 hk2 hs1 hs2 ho HB HD hBD
  go_wp2_with fail
  exact bodyPost_ret (v := .tuple #[.agg #[.slice (some ⟨r, 0, none⟩) l.length cp], .agg #[.int .i64 x, .int .i64 y, .int .i64 z, .int .i64 u]]) (by simp [results, Try.results49, go_sem, z0, c0, c1, c2, c3]) rfl ⟨⟨r, cp, l, x, y, z, u, rfl, hl0, hl1, (FT _ _ _ _ _).1⟩, (FT _ _ _ _ _).2⟩
set_option maxRecDepth 100000 in
set_option maxHeartbeats 6000000 in
theorem DrawFirstCrossing_c (a : Option Addr) (n cap : Nat) (w : World) (hn : n ≤ 9223372036854775807) (hb : BytesB w.heap.size w a n) : Calls Try.prog 42 #[.slice a n cap] w fun e w' => (∃ (r cp : Nat) (l : List Fx) (x y z u way t : Int), e = .returned (.tuple #[.agg #[.slice (some ⟨r, 0, none⟩) l.length cp], .agg #[.int .i64 x, .int .i64 y, .int .i64 z, .int .i64 u], .int .i64 way, .int .i64 t]) ∧ 1 ≤ l.length ∧ l.length ≤ 41 ∧ w'.ownsRow w.heap.size 32 3 (.slice (some ⟨r, 0, none⟩) l.length cp) l.length (flat l)) ∧ Below w.heap.size w w' := by
  have HBy := Lib.hid hb
  clear hb
  obtain ⟨W, hW⟩ : ∃ W, W = ((w.alloc (.cells #[.slice none 0 0] 26)).alloc (.cells #[.int .i64 0, .int .i64 0, .int .i64 0, .int .i64 0] 66)) := ⟨_, rfl⟩
  have HD : Below w.heap.size w W := by subst hW; exact (by repeat (first | with_reducible exact Below.refl _ _ | with_reducible assumption | with_reducible refine Below.drew ?_ | with_reducible refine Below.alloc ?_ (by first | exact Nat.le_refl _ | (simp; done) | (simp; omega) | omega) _ | with_reducible refine Below.setCell ?_ (by first | exact Nat.le_refl _ | (simp; done) | (simp; omega) | omega) _ | with_reducible refine Below.trans ?_ (Below.mono (by with_reducible assumption) (by first | exact Nat.le_refl _ | (simp; done) | (simp; omega) | omega))))
  have z0 : W.cell? ⟨w.heap.size, 0, none⟩ = some (.slice none 0 0) := by subst hW; simp [go_sem]
  have z1 : ∀ o, W.frozen? ⟨w.heap.size, o, none⟩ = false := by subst hW; intro o; simp [go_sem]
  have LB : w.heap.size + 1 < W.heap.size := by subst hW; simp
  have HB : HB4 (w.heap.size + 1) W := by
    subst hW
    exact ⟨fun o ho => by (obtain rfl | rfl | rfl | rfl : o = 0 ∨ o = 1 ∨ o = 2 ∨ o = 3 := by omega) <;> simp [go_sem], fun o => by simp [go_sem], by simp⟩
  go_enter Try.func42, Try.ntmps42
  go_wp2_with fail
  rw [← hW]
  clear hW
  refine (l01From_c a n cap W hn (bytes_at HBy.out HD)).mono ?_
  rintro e V1 ⟨⟨g, rfl, hg, hs1⟩, hb1⟩
  have l0 : w.heap.size < W.heap.size := by omega
  replace z0 := ((bcell hb1).1 _ 0 l0).trans z0
  replace z1 := fun o => ((bcell hb1).2 _ o l0).trans (z1 o)
  have n0 : w.heap.size ≠ g := by omega
  have n1 : w.heap.size + 1 ≠ g := by omega
  replace HB := HB.step (g := g) (kept_of_below hb1) n1
  have l1 := Nat.lt_of_lt_of_le l0 hb1.size
  have LB1 := Nat.lt_of_lt_of_le LB hb1.size
  go_wp2_with fail
  refine (l05Draw_c g a n cap V1 hn hs1).mono ?_
  rintro e V2 ⟨⟨r, cp, l, x, y, z, u, rfl, hl0, hl1, ho⟩, hs2, hk2⟩
  replace z0 := ((kcell hk2).1 _ 0 l1 n0).trans z0
  replace z1 := fun o => ((kcell hk2).2 _ o l1 n0).trans (z1 o)
  replace HB := HB.step hk2 n1
  have zl := Nat.lt_of_lt_of_le l1 hk2.size
  have hrg : r ≠ g := by have := (ho.lt r rfl).1; have := hs1.lt; omega
  go_wp2_with fail
  obtain ⟨X, hX⟩ : ∃ X, X = (V2.alloc (.cells #[.slice (some ⟨r, 0, none⟩) l.length cp] 26)).alloc (.cells #[.int .i64 x, .int .i64 y, .int .i64 z, .int .i64 u] 66) := ⟨_, rfl⟩
  have hkX : Kept g V2 X := by subst hX; exact ((Kept.refl _ _).alloc _).alloc _
  have hsX : Src g a n cap X := by subst hX; exact (hs2.alloc _).alloc _
  have HX : HTL w.heap.size V2.heap.size r l.length cp x y z u X := by
    have hk := hkX
    subst hX
    exact ⟨by simp [go_sem], by simp [go_sem], by simp [go_sem], by simp [go_sem], by simp [go_sem], ((kcell hk).1 _ 0 zl n0).trans z0, fun o => ((kcell hk).2 _ o zl n0).trans (z1 o), HB.step hk n1, by simp, Nat.lt_of_lt_of_le zl hk.size⟩
  rw [← hX]
  clear hX
  have n2 : V2.heap.size ≠ g := by have := hs2.lt; omega
  have n3 : V2.heap.size + 1 ≠ g := by have := hs2.lt; omega
  generalize V2.heap.size = T at *
  have hBD := bfrom HD hb1 hg (hk2.trans hkX)
  have hgw : w.heap.size ≤ g := by omega
  have hOX := own_keptk ho hkX hrg
  clear hk2 hkX hs1 hs2 ho HB HD hb1 z0 z1
  have hXs := hBD.size
  refine (l01Next_c g a n cap _ _ hn hsX).mono ?_
  rintro e V3 ⟨⟨q, rfl, hq1, hq2⟩, hs3, hk3⟩
  clear hq1 hq2
  replace HX := HX.step hk3 n2 n3 n0 n1
  replace hOX := own_keptk hOX hk3 hrg
  replace hBD := hBD.trans (hk3.below hgw hXs)
  replace hXs := hBD.size
  clear hk3 hsX
  go_wp2_with fail
  refine (l01Next_c g a n cap _ _ hn hs3).mono ?_
  rintro e V4 ⟨⟨q4, rfl, hq1, hq2⟩, hs4, hk3⟩
  clear hq1 hq2
  replace HX := HX.step hk3 n2 n3 n0 n1
  replace hOX := own_keptk hOX hk3 hrg
  replace hBD := hBD.trans (hk3.below hgw hXs)
  replace hXs := hBD.size
  clear hk3 hs3
  have key : ∀ way : Int, ∀ Z : World, Kept g V4 Z → Src g a n cap Z → True := fun _ _ _ _ => trivial
  by_cases hq4 : q4 = 0
  case pos =>
    subst hq4
    go_wp2_with fail
    refine (l01Next_c g a n cap _ _ hn hs4).mono ?_
    rintro e V5 ⟨⟨q5, rfl, hq1, hq2⟩, hs5, hk3⟩
    clear hq1 hq2
    replace HX := HX.step hk3 n2 n3 n0 n1
    replace hOX := own_keptk hOX hk3 hrg
    replace hBD := hBD.trans (hk3.below hgw hXs)
    replace hXs := hBD.size
    clear hk3 hs4
    have hK1 := Kept.refl g V5
    obtain ⟨t0, x0, x1, x2, x3, z0, z1, hb, lT, lB⟩ := id HX
    go_wp2_with fail
    go_region_with (go_at_call 54; refine (l01Next_c g a n cap _ _ hn (by first | with_reducible assumption | exact hs5.drew | exact hs5)).mono ?_; rintro e w1 ⟨⟨q, rfl, hq1, hq2⟩, hs7, HK⟩; clear hq1 hq2; have hK2 : Kept g V5 w1 := (by first | exact hK1.trans HK | exact hK1.drew.trans HK); clear hK1; have hK1 := hK2; clear hK2; have t0 := ((kcell hK1).1 T 0 (Nat.lt_of_succ_lt lT) n2).trans HX.t0; have H3 := HX.step hK1 n2 n3 n0 n1; have e0 := H3.l0; have e1 := H3.l1; have e2 := H3.l2; have e3 := H3.l3; have z3 := H3.z0; have f3 := H3.zf; have lT3 := H3.lT; have lB3 := H3.lB; have HB3 := H3.hb; have c0 := HB3.c 0 (by omega); have c1 := HB3.c 1 (by omega); have c2 := HB3.c 2 (by omega); have c3 := HB3.c 3 (by omega); have cf := HB3.f; have cl := HB3.lt)
    all_goals go_wp2_with fail
    all_goals exact bodyPost_ret (v := .tuple #[.agg #[.slice (some ⟨r, 0, none⟩) l.length cp], .agg #[.int .i64 x, .int .i64 y, .int .i64 z, .int .i64 u], .int .i64 _, .int .i64 _]) (by simp [results, Try.results42, go_sem, z3, c0, c1, c2, c3]; exact ⟨rfl, rfl⟩) rfl ⟨⟨r, cp, l, x, y, z, u, _, _, rfl, hl0, hl1, (fin_tlb LB1 (own_keptk hOX hK1 hrg) (hBD.trans (hK1.below hgw hXs)) _ _ _ _).1⟩, (fin_tlb LB1 (own_keptk hOX hK1 hrg) (hBD.trans (hK1.below hgw hXs)) _ _ _ _).2⟩
  case neg =>
    have hK1 := Kept.refl g V4
    obtain ⟨t0, x0, x1, x2, x3, z0, z1, hb, lT, lB⟩ := id HX
    go_wp2_with fail
    go_region_with (go_at_call 54; refine (l01Next_c g a n cap _ _ hn (by first | with_reducible assumption | exact hs4.drew | exact hs4)).mono ?_; rintro e w1 ⟨⟨q, rfl, hq1, hq2⟩, hs7, HK⟩; clear hq1 hq2; have hK2 : Kept g V4 w1 := (by first | exact hK1.trans HK | exact hK1.drew.trans HK); clear hK1; have hK1 := hK2; clear hK2; have t0 := ((kcell hK1).1 T 0 (Nat.lt_of_succ_lt lT) n2).trans HX.t0; have H3 := HX.step hK1 n2 n3 n0 n1; have e0 := H3.l0; have e1 := H3.l1; have e2 := H3.l2; have e3 := H3.l3; have z3 := H3.z0; have f3 := H3.zf; have lT3 := H3.lT; have lB3 := H3.lB; have HB3 := H3.hb; have c0 := HB3.c 0 (by omega); have c1 := HB3.c 1 (by omega); have c2 := HB3.c 2 (by omega); have c3 := HB3.c 3 (by omega); have cf := HB3.f; have cl := HB3.lt)
    all_goals go_wp2_with fail
    all_goals exact bodyPost_ret (v := .tuple #[.agg #[.slice (some ⟨r, 0, none⟩) l.length cp], .agg #[.int .i64 x, .int .i64 y, .int .i64 z, .int .i64 u], .int .i64 _, .int .i64 _]) (by simp [results, Try.results42, go_sem, z3, c0, c1, c2, c3]; exact ⟨rfl, rfl⟩) rfl ⟨⟨r, cp, l, x, y, z, u, _, _, rfl, hl0, hl1, (fin_tlb LB1 (own_keptk hOX hK1 hrg) (hBD.trans (hK1.below hgw hXs)) _ _ _ _).1⟩, (fin_tlb LB1 (own_keptk hOX hK1 hrg) (hBD.trans (hK1.below hgw hXs)) _ _ _ _).2⟩
end Go.Proofs.Ytdepdkpehbkcjaa
