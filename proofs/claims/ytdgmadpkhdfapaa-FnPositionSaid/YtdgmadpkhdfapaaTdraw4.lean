/-
  The draws of the laws on tracks. Conditions: the code's bytes lie in the world.
-/
import Derived.Test.YtdgmadpkhdfapaaTdraw3
import Derived.Test.YtdgmadpkhdfapaaDraw4a
namespace Go.Proofs.Ytdgmadpkhdfapaa
set_option linter.unusedVariables false
open Go.RowKit Go.Deep

theorem bfrom {w W V1 V : World} {g : Nat} (h : Below w.heap.size w W) (hb : Below W.heap.size W V1) (hg : W.heap.size ≤ g) (hk : Kept g V1 V) : Below w.heap.size w V :=
  (h.trans (hb.mono h.size)).trans (hk.below (Nat.le_trans h.size hg) (Nat.le_trans h.size hb.size))
set_option maxRecDepth 100000 in
set_option maxHeartbeats 1000000 in
theorem DrawClosestFix_c (a : Option Addr) (n cap : Nat) (w : World) (hn : n ≤ 9223372036854775807) (hb : BytesB w.heap.size w a n) : Calls Try.prog 46 #[.slice a n cap] w fun e w' => (∃ (r cp : Nat) (l : List Fx) (x y : Int), e = .returned (.tuple #[.agg #[.slice (some ⟨r, 0, none⟩) l.length cp], .agg #[.int .i64 x, .int .i64 y]]) ∧ 1 ≤ l.length ∧ l.length ≤ 41 ∧ w'.ownsRow w.heap.size 73 3 (.slice (some ⟨r, 0, none⟩) l.length cp) l.length (flat l)) ∧ Below w.heap.size w w' := by
  have HB := Lib.hid hb
  clear hb
  go_enter Try.func46, Try.ntmps46
  go_wp2_with fail
  obtain ⟨W, hW⟩ : ∃ W, W = ((w.alloc (.cells #[.slice none 0 0] 29)).alloc (.cells #[.int .i64 0, .int .i64 0] 37)) := ⟨_, rfl⟩
  have HD : Below w.heap.size w W := by subst hW; exact (by repeat (first | with_reducible exact Below.refl _ _ | with_reducible assumption | with_reducible refine Below.drew ?_ | with_reducible refine Below.alloc ?_ (by first | exact Nat.le_refl _ | (simp; done) | (simp; omega) | omega) _ | with_reducible refine Below.setCell ?_ (by first | exact Nat.le_refl _ | (simp; done) | (simp; omega) | omega) _ | with_reducible refine Below.trans ?_ (Below.mono (by with_reducible assumption) (by first | exact Nat.le_refl _ | (simp; done) | (simp; omega) | omega))))
  have z0 : W.cell? ⟨w.heap.size, 0, none⟩ = some (.slice none 0 0) := by subst hW; simp [go_sem]
  have f0 : ∀ o, W.frozen? ⟨w.heap.size, o, none⟩ = false := by subst hW; intro o; simp [go_sem]
  have y0 : W.cell? ⟨w.heap.size + 1, 0, none⟩ = some (.int .i64 0) := by subst hW; simp [go_sem]
  have y1 : W.cell? ⟨w.heap.size + 1, 1, none⟩ = some (.int .i64 0) := by subst hW; simp [go_sem]
  have f1 : ∀ o, W.frozen? ⟨w.heap.size + 1, o, none⟩ = false := by subst hW; intro o; simp [go_sem]
  have L : w.heap.size + 1 < W.heap.size := by subst hW; simp
  rw [← hW]
  clear hW
  refine (l01From_c a n cap W hn (bytes_at HB.out HD)).mono ?_
  rintro e V1 ⟨⟨g, rfl, hg, hs1⟩, hb1⟩
  obtain ⟨hc, hf⟩ := bcell hb1
  have l0 : w.heap.size < W.heap.size := by omega
  replace z0 := (hc _ 0 l0).trans z0
  replace f0 := fun o => (hf _ o l0).trans (f0 o)
  replace y0 := (hc _ 0 L).trans y0
  replace y1 := (hc _ 1 L).trans y1
  replace f1 := fun o => (hf _ o L).trans (f1 o)
  have g0 : w.heap.size ≠ g := by omega
  have g1 : w.heap.size + 1 ≠ g := by omega
  replace L := Nat.lt_of_lt_of_le L hb1.size
  clear hc hf l0
  go_wp2_with fail
  refine (l03DrawAny_c g a n cap V1 hn hs1).mono ?_
  rintro e V2 ⟨⟨r, cp, l, rfl, hl0, hl1, ho⟩, hs2, hk2⟩
  obtain ⟨hc, hf⟩ := kcell hk2
  have l0 : w.heap.size < V1.heap.size := by omega
  replace z0 := (hc _ 0 l0 g0).trans z0
  replace f0 := fun o => (hf _ o l0 g0).trans (f0 o)
  replace y0 := (hc _ 0 L g1).trans y0
  replace y1 := (hc _ 1 L g1).trans y1
  replace f1 := fun o => (hf _ o L g1).trans (f1 o)
  have hrV := (ho.lt r rfl).1
  have hrg : r ≠ g := by have := hs1.lt; omega
  have L1 := L
  replace L := Nat.lt_of_lt_of_le L hk2.size
  clear hc hf l0
  go_wp2_with fail
  refine (l01DrawAny_c g a n cap V2 hn hs2).mono ?_
  rintro e V3 ⟨⟨x, y, rfl⟩, hs3, hk3⟩
  obtain ⟨hc, hf⟩ := kcell hk3
  have l0 : w.heap.size < V2.heap.size := by omega
  replace z0 := (hc _ 0 l0 g0).trans z0
  replace f0 := fun o => (hf _ o l0 g0).trans (f0 o)
  replace y0 := (hc _ 0 L g1).trans y0
  replace y1 := (hc _ 1 L g1).trans y1
  replace f1 := fun o => (hf _ o L g1).trans (f1 o)
  replace L := Nat.lt_of_lt_of_le L hk3.size
  have HBZ := Lib.hid (bfrom HD hb1 hg (hk2.trans hk3))
  have HO := Lib.hid (own_keptk ho hk3 hrg)
  clear hc hf l0 ho hs1 hs2 hs3 hk2 hk3 hb1 HD
  have l0 : w.heap.size < V3.heap.size := by omega
  go_wp2
  exact bodyPost_ret (v := .tuple #[.agg #[.slice (some ⟨r, 0, none⟩) l.length cp], .agg #[.int .i64 x, .int .i64 y]]) (by simp [results, Try.results46, go_sem, *]) rfl ⟨⟨r, cp, l, x, y, rfl, hl0, hl1, own_mono (ownsRow_setCell_below (ownsRow_setCell_below (ownsRow_setCell_below HO.out (a := ⟨w.heap.size, 0, none⟩) (show w.heap.size < V1.heap.size by omega) _) (a := ⟨w.heap.size + 1, 0, none⟩) L1 _) (a := ⟨w.heap.size + 1, 1, none⟩) L1 _) (by omega)⟩, ((HBZ.out.setCell (p := ⟨w.heap.size, 0, none⟩) (Nat.le_refl _) _).setCell (p := ⟨w.heap.size + 1, 0, none⟩) (Nat.le_succ _) _).setCell (p := ⟨w.heap.size + 1, 1, none⟩) (Nat.le_succ _) _⟩
set_option maxRecDepth 100000 in
set_option maxHeartbeats 1000000 in
theorem DrawPositionAt_c (a : Option Addr) (n cap : Nat) (w : World) (hn : n ≤ 9223372036854775807) (hb : BytesB w.heap.size w a n) : Calls Try.prog 48 #[.slice a n cap] w fun e w' => (∃ (r cp : Nat) (l : List Fx) (x : Int), e = .returned (.tuple #[.agg #[.slice (some ⟨r, 0, none⟩) l.length cp], .int .i64 x]) ∧ 1 ≤ l.length ∧ l.length ≤ 41 ∧ w'.ownsRow w.heap.size 73 3 (.slice (some ⟨r, 0, none⟩) l.length cp) l.length (flat l)) ∧ Below w.heap.size w w' := by
  have HB := Lib.hid hb
  clear hb
  go_enter Try.func48, Try.ntmps48
  go_wp2_with fail
  obtain ⟨W, hW⟩ : ∃ W, W = w.alloc (.cells #[.slice none 0 0] 29) := ⟨_, rfl⟩
  have HD : Below w.heap.size w W := by subst hW; exact (by repeat (first | with_reducible exact Below.refl _ _ | with_reducible assumption | with_reducible refine Below.drew ?_ | with_reducible refine Below.alloc ?_ (by first | exact Nat.le_refl _ | (simp; done) | (simp; omega) | omega) _ | with_reducible refine Below.setCell ?_ (by first | exact Nat.le_refl _ | (simp; done) | (simp; omega) | omega) _ | with_reducible refine Below.trans ?_ (Below.mono (by with_reducible assumption) (by first | exact Nat.le_refl _ | (simp; done) | (simp; omega) | omega))))
  have z0 : W.cell? ⟨w.heap.size, 0, none⟩ = some (.slice none 0 0) := by subst hW; simp [go_sem]
  have f0 : ∀ o, W.frozen? ⟨w.heap.size, o, none⟩ = false := by subst hW; intro o; simp [go_sem]
  have L : w.heap.size < W.heap.size := by subst hW; simp
  rw [← hW]
  clear hW
  refine (l01From_c a n cap W hn (bytes_at HB.out HD)).mono ?_
  rintro e V1 ⟨⟨g, rfl, hg, hs1⟩, hb1⟩
  obtain ⟨hc, hf⟩ := bcell hb1
  have l0 : w.heap.size < W.heap.size := by omega
  replace z0 := (hc _ 0 l0).trans z0
  replace f0 := fun o => (hf _ o l0).trans (f0 o)
  have g0 : w.heap.size ≠ g := by omega
  replace L := Nat.lt_of_lt_of_le L hb1.size
  clear hc hf l0
  go_wp2_with fail
  refine (l03DrawAny_c g a n cap V1 hn hs1).mono ?_
  rintro e V2 ⟨⟨r, cp, l, rfl, hl0, hl1, ho⟩, hs2, hk2⟩
  obtain ⟨hc, hf⟩ := kcell hk2
  have l0 : w.heap.size < V1.heap.size := by omega
  replace z0 := (hc _ 0 l0 g0).trans z0
  replace f0 := fun o => (hf _ o l0 g0).trans (f0 o)
  have hrV := (ho.lt r rfl).1
  have hrg : r ≠ g := by have := hs1.lt; omega
  have L1 := L
  replace L := Nat.lt_of_lt_of_le L hk2.size
  clear hc hf l0
  go_wp2_with fail
  obtain ⟨X, hX⟩ : ∃ X, X = V2.alloc (.cells #[.slice (some ⟨r, 0, none⟩) l.length cp] 29) := ⟨_, rfl⟩
  have hkX : Kept g V2 X := by subst hX; exact (Kept.refl _ _).alloc _
  have hsX : Src g a n cap X := by subst hX; exact hs2.alloc _
  have t0 : X.cell? ⟨V2.heap.size, 0, none⟩ = some (.slice (some ⟨r, 0, none⟩) l.length cp) := by subst hX; simp [go_sem]
  have LT : V2.heap.size < X.heap.size := by subst hX; simp
  have gT : V2.heap.size ≠ g := by have := hs2.lt; omega
  rw [← hX]
  clear hX
  have l0 : w.heap.size < V2.heap.size := by omega
  replace z0 := ((kcell hkX).1 _ 0 l0 g0).trans z0
  replace f0 := fun o => ((kcell hkX).2 _ o l0 g0).trans (f0 o)
  replace L := Nat.lt_of_lt_of_le L hkX.size
  have HO := Lib.hid (own_keptk ho hkX hrg)
  have hkXX := hk2.trans hkX
  generalize V2.heap.size = T at *
  have B1 := Lib.hid (fun Y hk => bfrom (V := Y) HD hb1 hg (hkXX.trans hk))
  clear hkX hs2 hk2 l0 ho hs1
  go_region_with (go_at_call 89; refine (l03DrawTime_c g r V1.heap.size cp a n cap l _ hn (by omega) (by first | exact hsX | exact hsX.drew) hrg (by first | exact HO.out)).mono ?_; rintro e V3 ⟨⟨x, rfl⟩, hs3, hk3⟩; have hK : Kept g X V3 := (by first | exact hk3 | exact (Kept.refl g X).drew.trans hk3); have t3 := ((kcell hK).1 T 0 LT gT).trans t0; have z3 := ((kcell hK).1 _ 0 L g0).trans z0; have f3 := fun o => ((kcell hK).2 _ o L g0).trans (f0 o); have L3 := Nat.lt_of_lt_of_le L hK.size)
  all_goals go_wp2
  all_goals exact bodyPost_ret (v := .tuple #[.agg #[.slice (some ⟨r, 0, none⟩) l.length cp], .int .i64 x]) (by simp [results, Try.results48, go_sem, z3]) rfl ⟨⟨r, cp, l, x, rfl, hl0, hl1, own_mono (ownsRow_setCell_below (own_keptk HO.out hK hrg) (a := ⟨w.heap.size, 0, none⟩) L1 _) (by omega)⟩, (B1.out _ hK).setCell (p := ⟨w.heap.size, 0, none⟩) (Nat.le_refl _) _⟩
end Go.Proofs.Ytdgmadpkhdfapaa
