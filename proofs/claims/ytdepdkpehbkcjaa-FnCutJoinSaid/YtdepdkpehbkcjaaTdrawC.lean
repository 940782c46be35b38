/-
  The draw of the law on cut and joined tracks. Conditions: the code's bytes lie in the world.
-/
import Derived.Test.YtdepdkpehbkcjaaTdraw3
import Derived.Test.YtdepdkpehbkcjaaDraw3
import Derived.Deep.RegionHeld3
namespace Go.Proofs.Ytdepdkpehbkcjaa
set_option linter.unusedVariables false
open Go.RowKit Go.Deep

theorem bfromT {w W V1 V : World} {g : Nat} (h : Below w.heap.size w W) (hb : Below W.heap.size W V1) (hg : W.heap.size ≤ g) (hk : Kept g V1 V) : Below w.heap.size w V :=
  (h.trans (hb.mono h.size)).trans (hk.below (Nat.le_trans h.size hg) (Nat.le_trans h.size hb.size))
set_option maxRecDepth 100000 in
set_option maxHeartbeats 2000000 in
theorem DrawCutTrack_c (a : Option Addr) (n cap : Nat) (w : World) (hn : n ≤ 9223372036854775807) (hb : BytesB w.heap.size w a n) : Calls Try.prog 19 #[.slice a n cap] w fun e w' => (∃ (r cp : Nat) (l : List Fx) (x y : Int), e = .returned (.tuple #[.agg #[.slice (some ⟨r, 0, none⟩) l.length cp], .int .i64 x, .int .i64 y]) ∧ 1 ≤ l.length ∧ l.length ≤ 41 ∧ w'.ownsRow w.heap.size 32 3 (.slice (some ⟨r, 0, none⟩) l.length cp) l.length (flat l)) ∧ Below w.heap.size w w' := by
  have HB := Lib.hid hb
  clear hb
  go_enter Try.func19, Try.ntmps19
  go_wp2_with fail
  obtain ⟨W, hW⟩ : ∃ W, W = w.alloc (.cells #[.slice none 0 0] 26) := ⟨_, rfl⟩
  have HD : Below w.heap.size w W := by subst hW; exact (by repeat (first | with_reducible exact Below.refl _ _ | with_reducible assumption | with_reducible refine Below.drew ?_ | with_reducible refine Below.alloc ?_ (by first | exact Nat.le_refl _ | (simp; done) | (simp; omega) | omega) _ | with_reducible refine Below.setCell ?_ (by first | exact Nat.le_refl _ | (simp; done) | (simp; omega) | omega) _ | with_reducible refine Below.trans ?_ (Below.mono (by with_reducible assumption) (by first | exact Nat.le_refl _ | (simp; done) | (simp; omega) | omega))))
  have z0 : W.cell? ⟨w.heap.size, 0, none⟩ = some (.slice none 0 0) := by subst hW; simp [go_sem]
  have f0 : ∀ o, W.frozen? ⟨w.heap.size, o, none⟩ = false := by subst hW; intro o; simp [go_sem]
  have L : w.heap.size < W.heap.size := by subst hW; simp
  rw [← hW]
  clear hW
  refine (l01From_c a n cap W hn (bytes_at HB.out HD)).mono ?_
  rintro e V1 ⟨⟨g, rfl, hg, hs1⟩, hb1⟩
  obtain ⟨hc, hf⟩ := bcell hb1
  have l0 : w.heap.size < W.heap.size := by omega
  replace z0 := (hc _ 0 l0).trans z0
  replace f0 := fun o => (hf _ o l0).trans (f0 o)
  have g0 : w.heap.size ≠ g := by omega
  replace L := Nat.lt_of_lt_of_le L hb1.size
  clear hc hf l0
  go_wp2_with fail
  refine (l03DrawAny_c g a n cap V1 hn hs1).mono ?_
  rintro e V2 ⟨⟨r, cp, l, rfl, hl0, hl1, ho⟩, hs2, hk2⟩
  obtain ⟨hc, hf⟩ := kcell hk2
  have l0 : w.heap.size < V1.heap.size := by omega
  replace z0 := (hc _ 0 l0 g0).trans z0
  replace f0 := fun o => (hf _ o l0 g0).trans (f0 o)
  have hrV := (ho.lt r rfl).1
  have hrg : r ≠ g := by have := hs1.lt; omega
  have L1 := L
  replace L := Nat.lt_of_lt_of_le L hk2.size
  clear hc hf l0
  go_wp2_with fail
  obtain ⟨X, hX⟩ : ∃ X, X = V2.alloc (.cells #[.slice (some ⟨r, 0, none⟩) l.length cp] 26) := ⟨_, rfl⟩
  have hkX : Kept g V2 X := by subst hX; exact (Kept.refl _ _).alloc _
  have hsX : Src g a n cap X := by subst hX; exact hs2.alloc _
  have t0 : X.cell? ⟨V2.heap.size, 0, none⟩ = some (.slice (some ⟨r, 0, none⟩) l.length cp) := by subst hX; simp [go_sem]
  have LT : V2.heap.size < X.heap.size := by subst hX; simp
  have gT : V2.heap.size ≠ g := by have := hs2.lt; omega
  rw [← hX]
  clear hX
  have l0 : w.heap.size < V2.heap.size := by omega
  replace z0 := ((kcell hkX).1 _ 0 l0 g0).trans z0
  replace f0 := fun o => ((kcell hkX).2 _ o l0 g0).trans (f0 o)
  replace L := Nat.lt_of_lt_of_le L hkX.size
  have HO := Lib.hid (own_keptk ho hkX hrg)
  have hkXX := hk2.trans hkX
  generalize V2.heap.size = T at *
  have B1 := Lib.hid (fun Y hk => bfromT (V := Y) HD hb1 hg (hkXX.trans hk))
  clear hkX hs2 hk2 l0 ho hs1
  go_cut [7, 8] (fun s7 s8 wx => ∃ x y : Int, s7 = .int .i64 x ∧ s8 = .int .i64 y ∧ Src g a n cap wx ∧ Kept g X wx)
  case first =>
    go_region_with (go_at_call 66; refine (l03DrawTime_c g r V1.heap.size cp a n cap l _ hn (by omega) (by first | exact hs3 | exact hs3.drew | exact hsX | exact hsX.drew) hrg (by first | exact HO3.out | exact HO.out)).mono ?_; rintro e V3 ⟨⟨x, rfl⟩, hs3, hk3⟩; have hK : Kept g X V3 := (by first | exact hk3 | exact (Kept.refl g X).drew.trans hk3 | exact hK.trans hk3 | exact hK.drew.trans hk3); have t3 := ((kcell hK).1 T 0 LT gT).trans t0; have HO3 := Lib.hid (own_keptk HO.out hK hrg))
    all_goals go_wp2_with fail
    all_goals (go_meet; exact ⟨_, _, rfl, rfl, by first | exact hs3 | exact hs3.drew, by first | exact hK | exact hK.drew⟩)
  case rest =>
    obtain ⟨x, y, rfl, rfl, hs4, hk4⟩ := hcut
    obtain ⟨V4, rfl⟩ : ∃ v : World, v = wc := ⟨_, rfl⟩
    go_wp2_with fail
    refine (l01Next_c g a n cap _ V4 hn hs4).mono ?_
    rintro e V5 ⟨⟨q, rfl, hr1, hr2⟩, hs5, hk5⟩
    obtain ⟨hq0, _⟩ := hr1 (by omega)
    clear hr1 hr2
    have hK := hk4.trans hk5
    have t3 := ((kcell hK).1 T 0 LT gT).trans t0
    have z3 := ((kcell hK).1 _ 0 L g0).trans z0
    have f3 := fun o => ((kcell hK).2 _ o L g0).trans (f0 o)
    clear t0 z0 f0
    by_cases hq : 0 < q
    all_goals go_wp2
    all_goals first
      | exact bodyPost_ret (v := .tuple #[.agg #[.slice (some ⟨r, 0, none⟩) l.length cp], .int .i64 _, .int .i64 _]) (by simp [results, Try.results19, go_sem, z3]; constructor <;> rfl) rfl ⟨⟨r, cp, l, ⟨_, _, rfl⟩, hl0, hl1, own_mono (ownsRow_setCell_below (own_keptk HO.out hK hrg) (a := ⟨w.heap.size, 0, none⟩) L1 _) (Nat.le_trans HD.size hb1.size)⟩, (B1.out _ hK).setCell (p := ⟨w.heap.size, 0, none⟩) (Nat.le_refl _) _⟩
      | exact bodyPost_ret (v := .tuple #[.agg #[.slice (some ⟨r, 0, none⟩) l.length cp], .int .i64 _, .int .i64 _]) (by simp [results, Try.results19, go_sem, z3]; constructor <;> rfl) rfl ⟨⟨r, cp, l, _, _, rfl, hl0, hl1, own_mono (ownsRow_setCell_below (own_keptk HO.out hK hrg) (a := ⟨w.heap.size, 0, none⟩) L1 _) (Nat.le_trans HD.size hb1.size)⟩, (B1.out _ hK).setCell (p := ⟨w.heap.size, 0, none⟩) (Nat.le_refl _) _⟩
end Go.Proofs.Ytdepdkpehbkcjaa
