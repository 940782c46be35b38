/-
  The draws of the laws on courses. Conditions: the code's bytes lie in the world.
-/
import Derived.Test.YtbeigoejdckpiaaDoorCdraw3
import Derived.Test.YtbeigoejdckpiaaDoorDraw3
namespace Go.Proofs.YtbeigoejdckpiaaDoor
set_option linter.unusedVariables false
open Go.RowKit Go.Deep

theorem bfromC {w W V1 V : World} {g : Nat} (h : Below w.heap.size w W) (hb : Below W.heap.size W V1) (hg : W.heap.size ≤ g) (hk : Kept g V1 V) : Below w.heap.size w V :=
  (h.trans (hb.mono h.size)).trans (hk.below (Nat.le_trans h.size hg) (Nat.le_trans h.size hb.size))
theorem set9_below {n C : Nat} {w X : World} (h : Below n w X) (hC : n ≤ C) (v0 v1 v2 v3 v4 v5 v6 v7 v8 : Value) : Below n w (set9 X C v0 v1 v2 v3 v4 v5 v6 v7 v8) := by
  unfold set9
  repeat (first | with_reducible exact h | refine Below.setCell ?_ (by simp only; omega) _)

set_option maxRecDepth 100000 in
set_option maxHeartbeats 4000000 in
theorem DrawLegLengths_c (a : Option Addr) (n cap : Nat) (w : World) (hn : n ≤ 9223372036854775807) (hb : BytesB w.heap.size w a n) : Calls Tryd.prog 32 #[.slice a n cap] w fun e w' => (∃ (x0 x1 x2 x3 x4 x5 x6 x7 : Int) (a9 : Option Addr) (cp : Nat) (l : List Mk), e = .returned (.agg #[.int .i64 x0, .int .i64 x1, .int .i64 x2, .int .i64 x3, .int .i64 x4, .int .i64 x5, .int .i64 x6, .int .i64 x7, .slice a9 l.length cp]) ∧ l.length ≤ 9 ∧ NSm l ∧ w'.ownsRow w.heap.size 64 5 (.slice a9 l.length cp) l.length (mflat l)) ∧ Below w.heap.size w w' := by
  have HB := Lib.hid hb
  clear hb
  go_enter Tryd.func32, Tryd.ntmps32
  go_wp2_with fail
  obtain ⟨W, hW⟩ : ∃ W, W = w.alloc (.cells #[.int .i64 0, .int .i64 0, .int .i64 0, .int .i64 0, .int .i64 0, .int .i64 0, .int .i64 0, .int .i64 0, .slice none 0 0] 36) := ⟨_, rfl⟩
  have HD : Below w.heap.size w W := by subst hW; exact (by repeat (first | with_reducible exact Below.refl _ _ | with_reducible assumption | with_reducible refine Below.drew ?_ | with_reducible refine Below.alloc ?_ (by first | exact Nat.le_refl _ | (simp; done) | (simp; omega) | omega) _ | with_reducible refine Below.setCell ?_ (by first | exact Nat.le_refl _ | (simp; done) | (simp; omega) | omega) _ | with_reducible refine Below.trans ?_ (Below.mono (by with_reducible assumption) (by first | exact Nat.le_refl _ | (simp; done) | (simp; omega) | omega))))
  have zc : ∀ o, o < 9 → ∃ v, W.cell? ⟨w.heap.size, o, none⟩ = some v := by subst hW; intro o ho; exact zcell ho
  have zf : ∀ o, W.frozen? ⟨w.heap.size, o, none⟩ = false := by subst hW; intro o; simp [go_sem]
  have LZ : w.heap.size < W.heap.size := by subst hW; simp
  rw [← hW]
  clear hW
  refine (l01From_c a n cap W hn (bytes_at HB.out HD)).mono ?_
  rintro e V1 ⟨⟨g, rfl, hg, hs1⟩, hb1⟩
  obtain ⟨hc, hf⟩ := bcell hb1
  replace zc := fun o ho => (zc o ho).imp fun _ e => (hc _ o LZ).trans e
  replace zf := fun o => (hf _ o LZ).trans (zf o)
  have gZ : w.heap.size ≠ g := by omega
  have LW := LZ
  replace LZ := Nat.lt_of_lt_of_le LZ hb1.size
  clear hc hf
  go_wp2_with fail
  refine (l04DrawAny_c g a n cap V1 hn hs1).mono ?_
  rintro e V2 ⟨⟨x0, x1, x2, x3, x4, x5, x6, x7, a9, cp, l, rfl, hl9, hns, ho⟩, hs2, hk2⟩
  obtain ⟨hc, hf⟩ := kcell hk2
  replace zc := fun o ho => (zc o ho).imp fun _ e => (hc _ o LZ gZ).trans e
  replace zf := fun o => (hf _ o LZ gZ).trans (zf o)
  replace LZ := Nat.lt_of_lt_of_le LZ hk2.size
  clear hc hf
  have HK := hk2
  have hWg := hg
  have hgV1 := hs1.lt
  have hWV1 := hb1.size
  clear hs1
  obtain ⟨z0, e0⟩ := zc 0 (by decide)
  obtain ⟨z1, e1⟩ := zc 1 (by decide)
  obtain ⟨z2, e2⟩ := zc 2 (by decide)
  obtain ⟨z3, e3⟩ := zc 3 (by decide)
  obtain ⟨z4, e4⟩ := zc 4 (by decide)
  obtain ⟨z5, e5⟩ := zc 5 (by decide)
  obtain ⟨z6, e6⟩ := zc 6 (by decide)
  obtain ⟨z7, e7⟩ := zc 7 (by decide)
  obtain ⟨z8, e8⟩ := zc 8 (by decide)
  have hzc := Lib.hid zc
  clear zc
  have hO := Lib.hid ho
  clear ho
  go_wp2
  refine set9_post hzc.out (v0 := .int .i64 x0) (v1 := .int .i64 x1) (v2 := .int .i64 x2) (v3 := .int .i64 x3) (v4 := .int .i64 x4) (v5 := .int .i64 x5) (v6 := .int .i64 x6) (v7 := .int .i64 x7) (v8 := .slice a9 l.length cp) ?_
  intro Y hY ⟨f0, f1, f2, f3, f4, f5, f6, f7, f8⟩
  exact bodyPost_ret (v := .agg #[.int .i64 x0, .int .i64 x1, .int .i64 x2, .int .i64 x3, .int .i64 x4, .int .i64 x5, .int .i64 x6, .int .i64 x7, .slice a9 l.length cp]) (by simp [results, Tryd.results32, go_sem, f0, f1, f2, f3, f4, f5, f6, f7, f8]) rfl ⟨⟨x0, x1, x2, x3, x4, x5, x6, x7, a9, cp, l, rfl, hl9, hns, by rw [hY]; exact pown_mono (set9_own hO.out (by omega) ..) (by omega)⟩, by rw [hY]; exact set9_below (bfromC HD hb1 hg HK) (Nat.le_refl _) ..⟩

set_option maxRecDepth 100000 in
set_option maxHeartbeats 4000000 in
theorem DrawRoundingLine_c (a : Option Addr) (n cap : Nat) (w : World) (hn : n ≤ 9223372036854775807) (hb : BytesB w.heap.size w a n) : Calls Tryd.prog 37 #[.slice a n cap] w fun e w' => (∃ (x0 x1 x2 x3 x4 x5 x6 x7 : Int) (a9 : Option Addr) (cp : Nat) (l : List Mk) (k : Int), e = .returned (.tuple #[.agg #[.int .i64 x0, .int .i64 x1, .int .i64 x2, .int .i64 x3, .int .i64 x4, .int .i64 x5, .int .i64 x6, .int .i64 x7, .slice a9 l.length cp], .int .i64 k]) ∧ l.length ≤ 9 ∧ NSm l ∧ w'.ownsRow w.heap.size 64 5 (.slice a9 l.length cp) l.length (mflat l)) ∧ Below w.heap.size w w' := by
  have HB := Lib.hid hb
  clear hb
  go_enter Tryd.func37, Tryd.ntmps37
  go_wp2_with fail
  obtain ⟨W, hW⟩ : ∃ W, W = w.alloc (.cells #[.int .i64 0, .int .i64 0, .int .i64 0, .int .i64 0, .int .i64 0, .int .i64 0, .int .i64 0, .int .i64 0, .slice none 0 0] 36) := ⟨_, rfl⟩
  have HD : Below w.heap.size w W := by subst hW; exact (by repeat (first | with_reducible exact Below.refl _ _ | with_reducible assumption | with_reducible refine Below.drew ?_ | with_reducible refine Below.alloc ?_ (by first | exact Nat.le_refl _ | (simp; done) | (simp; omega) | omega) _ | with_reducible refine Below.setCell ?_ (by first | exact Nat.le_refl _ | (simp; done) | (simp; omega) | omega) _ | with_reducible refine Below.trans ?_ (Below.mono (by with_reducible assumption) (by first | exact Nat.le_refl _ | (simp; done) | (simp; omega) | omega))))
  have zc : ∀ o, o < 9 → ∃ v, W.cell? ⟨w.heap.size, o, none⟩ = some v := by subst hW; intro o ho; exact zcell ho
  have zf : ∀ o, W.frozen? ⟨w.heap.size, o, none⟩ = false := by subst hW; intro o; simp [go_sem]
  have LZ : w.heap.size < W.heap.size := by subst hW; simp
  rw [← hW]
  clear hW
  refine (l01From_c a n cap W hn (bytes_at HB.out HD)).mono ?_
  rintro e V1 ⟨⟨g, rfl, hg, hs1⟩, hb1⟩
  obtain ⟨hc, hf⟩ := bcell hb1
  replace zc := fun o ho => (zc o ho).imp fun _ e => (hc _ o LZ).trans e
  replace zf := fun o => (hf _ o LZ).trans (zf o)
  have gZ : w.heap.size ≠ g := by omega
  have LW := LZ
  replace LZ := Nat.lt_of_lt_of_le LZ hb1.size
  clear hc hf
  go_wp2_with fail
  refine (l04DrawAny_c g a n cap V1 hn hs1).mono ?_
  rintro e V2 ⟨⟨x0, x1, x2, x3, x4, x5, x6, x7, a9, cp, l, rfl, hl9, hns, ho⟩, hs2, hk2⟩
  obtain ⟨hc, hf⟩ := kcell hk2
  replace zc := fun o ho => (zc o ho).imp fun _ e => (hc _ o LZ gZ).trans e
  replace zf := fun o => (hf _ o LZ gZ).trans (zf o)
  replace LZ := Nat.lt_of_lt_of_le LZ hk2.size
  clear hc hf
  have HK := hk2
  have hWg := hg
  have hgV1 := hs1.lt
  have hWV1 := hb1.size
  clear hs1
  go_wp2_with fail
  obtain ⟨V3, hV3⟩ : ∃ x, x = V2.alloc (.cells #[.int .i64 x0, .int .i64 x1, .int .i64 x2, .int .i64 x3, .int .i64 x4, .int .i64 x5, .int .i64 x6, .int .i64 x7, .slice a9 l.length cp] 36) := ⟨_, rfl⟩
  have hkb : Kept g V2 V3 := by subst hV3; exact (Kept.refl _ _).alloc _
  have hs3 : Src g a n cap V3 := by subst hV3; exact hs2.alloc _
  have c0 : V3.cell? ⟨V2.heap.size, 0, none⟩ = some (.int .i64 x0) := by subst hV3; simp [go_sem]
  have c1 : V3.cell? ⟨V2.heap.size, 1, none⟩ = some (.int .i64 x1) := by subst hV3; simp [go_sem]
  have c2 : V3.cell? ⟨V2.heap.size, 2, none⟩ = some (.int .i64 x2) := by subst hV3; simp [go_sem]
  have c3 : V3.cell? ⟨V2.heap.size, 3, none⟩ = some (.int .i64 x3) := by subst hV3; simp [go_sem]
  have c4 : V3.cell? ⟨V2.heap.size, 4, none⟩ = some (.int .i64 x4) := by subst hV3; simp [go_sem]
  have c5 : V3.cell? ⟨V2.heap.size, 5, none⟩ = some (.int .i64 x5) := by subst hV3; simp [go_sem]
  have c6 : V3.cell? ⟨V2.heap.size, 6, none⟩ = some (.int .i64 x6) := by subst hV3; simp [go_sem]
  have c7 : V3.cell? ⟨V2.heap.size, 7, none⟩ = some (.int .i64 x7) := by subst hV3; simp [go_sem]
  have c8 : V3.cell? ⟨V2.heap.size, 8, none⟩ = some (.slice a9 l.length cp) := by subst hV3; simp [go_sem]
  have LC : V2.heap.size < V3.heap.size := by subst hV3; simp
  have gC : V2.heap.size ≠ g := by have := hs2.lt; omega
  rw [← hV3]
  clear hV3 hs2
  obtain ⟨hc, hf⟩ := kcell hkb
  replace zc := fun o ho => (zc o ho).imp fun _ e => (hc _ o LZ gZ).trans e
  replace zf := fun o => (hf _ o LZ gZ).trans (zf o)
  replace LZ := Nat.lt_of_lt_of_le LZ hkb.size
  clear hc hf
  have hO := Lib.hid (own_keptD ho hkb (by omega))
  have HKb := HK.trans hkb
  clear ho hkb HK hk2
  obtain ⟨z0, e0⟩ := zc 0 (by decide)
  obtain ⟨z1, e1⟩ := zc 1 (by decide)
  obtain ⟨z2, e2⟩ := zc 2 (by decide)
  obtain ⟨z3, e3⟩ := zc 3 (by decide)
  obtain ⟨z4, e4⟩ := zc 4 (by decide)
  obtain ⟨z5, e5⟩ := zc 5 (by decide)
  obtain ⟨z6, e6⟩ := zc 6 (by decide)
  obtain ⟨z7, e7⟩ := zc 7 (by decide)
  obtain ⟨z8, e8⟩ := zc 8 (by decide)
  have hzc := Lib.hid zc
  clear zc
  generalize V2.heap.size = C at *
  have hL := Lib.hid (show l.length ≤ 9 from hl9)
  go_wp2_with fail
  go_region_with (go_at_call 59; refine (l01Next_c g a n cap _ _ hn (by first | with_reducible assumption | exact hs3.drew | exact hs3 | exact hsq | exact hsq.drew)).mono ?_; rintro e w1 ⟨⟨q, rfl, hq1, hq2⟩, hsq, HK⟩; clear hq1 hq2; have hK1 : Kept g V3 w1 := (by first | exact HK | exact (Kept.refl g V3).drew.trans HK | exact hK1.trans HK | exact hK1.drew.trans HK); have t8 := ((kcell hK1).1 C 8 LC gC).trans c8; have t0 := ((kcell hK1).1 C 0 LC gC).trans c0; have t1 := ((kcell hK1).1 C 1 LC gC).trans c1; have t2 := ((kcell hK1).1 C 2 LC gC).trans c2; have t3 := ((kcell hK1).1 C 3 LC gC).trans c3; have t4 := ((kcell hK1).1 C 4 LC gC).trans c4; have t5 := ((kcell hK1).1 C 5 LC gC).trans c5; have t6 := ((kcell hK1).1 C 6 LC gC).trans c6; have t7 := ((kcell hK1).1 C 7 LC gC).trans c7; have q0 := ((kcell hK1).1 _ 0 LZ gZ).trans e0; have q1 := ((kcell hK1).1 _ 1 LZ gZ).trans e1; have q2 := ((kcell hK1).1 _ 2 LZ gZ).trans e2; have q3 := ((kcell hK1).1 _ 3 LZ gZ).trans e3; have q4 := ((kcell hK1).1 _ 4 LZ gZ).trans e4; have q5 := ((kcell hK1).1 _ 5 LZ gZ).trans e5; have q6 := ((kcell hK1).1 _ 6 LZ gZ).trans e6; have q7 := ((kcell hK1).1 _ 7 LZ gZ).trans e7; have q8 := ((kcell hK1).1 _ 8 LZ gZ).trans e8; have qf := fun o => ((kcell hK1).2 _ o LZ gZ).trans (zf o); have hzz := Lib.hid (fun o ho => (hzc.out o ho).imp fun _ e => ((kcell hK1).1 _ o LZ gZ).trans e); have LZ3 := Nat.lt_of_lt_of_le LZ hK1.size)
  all_goals go_wp2_with fail
  all_goals
    refine set9_post hzz.out (v0 := .int .i64 x0) (v1 := .int .i64 x1) (v2 := .int .i64 x2) (v3 := .int .i64 x3) (v4 := .int .i64 x4) (v5 := .int .i64 x5) (v6 := .int .i64 x6) (v7 := .int .i64 x7) (v8 := .slice a9 l.length cp) ?_
    intro Y hY ⟨f0, f1, f2, f3, f4, f5, f6, f7, f8⟩
    exact bodyPost_ret (v := .tuple #[.agg #[.int .i64 x0, .int .i64 x1, .int .i64 x2, .int .i64 x3, .int .i64 x4, .int .i64 x5, .int .i64 x6, .int .i64 x7, .slice a9 l.length cp], .int .i64 _]) (by simp [results, Tryd.results37, go_sem, f0, f1, f2, f3, f4, f5, f6, f7, f8]; rfl) rfl ⟨⟨x0, x1, x2, x3, x4, x5, x6, x7, a9, cp, l, _, rfl, hl9, hns, by rw [hY]; exact pown_mono (set9_own (own_keptD hO.out hK1 (by omega)) (by omega) ..) (by omega)⟩, by rw [hY]; exact set9_below (bfromC HD hb1 hg (HKb.trans hK1)) (Nat.le_refl _) ..⟩

end Go.Proofs.YtbeigoejdckpiaaDoor
