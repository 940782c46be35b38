/-
  What the reference's functions draw: points and segments. Conditions: the code's bytes lie in the world.
-/
import Derived.Test.YtiinhelljcgeaaaDraw4
namespace Go.Proofs.Ytiinhelljcgeaaa
set_option linter.unusedVariables false
open Go.RowKit Go.Deep

set_option maxRecDepth 100000 in
set_option maxHeartbeats 4000000 in
theorem l02DrawTwo_c (g : Nat) (a : Option Addr) (n cap : Nat) (w : World) (hn : n ≤ 9223372036854775807) (hs : Src g a n cap w) : Calls Try.prog 74 #[.pointer (some ⟨g, 0, none⟩)] w fun e w' => (∃ x y z u x1 y1 z1 u1 : Int, e = .returned (.tuple #[.agg #[.int .i64 x, .int .i64 y, .int .i64 z, .int .i64 u], .agg #[.int .i64 x1, .int .i64 y1, .int .i64 z1, .int .i64 u1]])) ∧ Src g a n cap w' ∧ Kept g w w' := by
  have HS := Lib.hid hs
  have hlt := hs.lt
  clear hs
  have hg0 : ¬ w.heap.size = g := by omega
  have hg1 : ¬ w.heap.size + 1 = g := by omega
  have hg2 : ¬ w.heap.size + 1 + 1 = g := by omega
  go_enter Try.func74, Try.ntmps74
  go_upto_region 1 with fail
  go_wp2_with fail
  refine (l02DrawAny_c g a n cap _ hn (by repeat (first | with_reducible assumption | with_reducible exact HS.out | with_reducible exact And.left (by with_reducible assumption) | with_reducible refine Src.drew ?_ | with_reducible refine Src.alloc ?_ _ | with_reducible refine Src.put1 ?_ (by first | omega | (simp; omega)) (by first | omega | (simp; omega)) | with_reducible refine Src.put2 ?_ (by first | omega | (simp; omega)) (by first | omega | (simp; omega)) | with_reducible refine Src.setCell ?_ (by first | assumption | (simp; done) | (simp; omega) | omega) _ | with_reducible refine Src.below ?_ (by with_reducible assumption)))).mono ?_
  rintro e w1 ⟨⟨x1, y1, z1, u1, rfl⟩, hs, hk⟩
  (obtain ⟨hc, hf⟩ := kcell hk; (try simp only [World.size_drew] at hc hf); have hz := hk.size; have hgl := hs.lt; (try simp at hz); have hlx := kept_lt hk; have hly := kept_le hk; have hlz := kept_lt1 hk; have hlw := kept_lt2 hk; (try simp only [World.size_drew] at hlx hly hlz hlw); (try have hz0 : w.heap.size ≤ w1.heap.size := by omega); (try have hz1 : w.heap.size < w1.heap.size := by omega); (try have hz2 : w.heap.size + 1 < w1.heap.size := by omega); (try have hz3 : w.heap.size + 1 + 1 < w1.heap.size := by omega); (try have hz4 : w.heap.size + 1 + 1 + 1 < w1.heap.size := by omega); have hn0 := Nat.ne_of_gt hs.lt; have hn1 := Nat.ne_of_gt (Nat.lt_succ_of_lt hs.lt); have hn2 := Nat.ne_of_gt (Nat.lt_succ_of_lt (Nat.lt_succ_of_lt hs.lt)); (try simp only [Nat.succ_eq_add_one] at hn1 hn2); (try (obtain ⟨hc0, hf0⟩ := kcell (Kept.trans (by first | with_reducible assumption | with_reducible exact Kept.alloc (by with_reducible assumption) _ | with_reducible exact Kept.drew (by with_reducible assumption) | with_reducible exact Kept.drew (Kept.alloc (by with_reducible assumption) _) | with_reducible exact Kept.alloc (Kept.drew (by with_reducible assumption)) _ | with_reducible exact Kept.alloc (Kept.alloc (by with_reducible assumption) _) _) hk); (try simp only [World.size_drew] at hc0 hf0); have hlx0 := kept_lt (Kept.trans (by first | with_reducible assumption | with_reducible exact Kept.alloc (by with_reducible assumption) _ | with_reducible exact Kept.drew (by with_reducible assumption) | with_reducible exact Kept.drew (Kept.alloc (by with_reducible assumption) _) | with_reducible exact Kept.alloc (Kept.drew (by with_reducible assumption)) _ | with_reducible exact Kept.alloc (Kept.alloc (by with_reducible assumption) _) _) hk); have hly0 := kept_le (Kept.trans (by first | with_reducible assumption | with_reducible exact Kept.alloc (by with_reducible assumption) _ | with_reducible exact Kept.drew (by with_reducible assumption) | with_reducible exact Kept.drew (Kept.alloc (by with_reducible assumption) _) | with_reducible exact Kept.alloc (Kept.drew (by with_reducible assumption)) _ | with_reducible exact Kept.alloc (Kept.alloc (by with_reducible assumption) _) _) hk); have hlz0 := kept_lt1 (Kept.trans (by first | with_reducible assumption | with_reducible exact Kept.alloc (by with_reducible assumption) _ | with_reducible exact Kept.drew (by with_reducible assumption) | with_reducible exact Kept.drew (Kept.alloc (by with_reducible assumption) _) | with_reducible exact Kept.alloc (Kept.drew (by with_reducible assumption)) _ | with_reducible exact Kept.alloc (Kept.alloc (by with_reducible assumption) _) _) hk); (try simp only [World.size_drew] at hlx0 hly0 hlz0))))
  obtain ⟨wA, hwA⟩ : ∃ x : World, x = w1 := ⟨_, rfl⟩
  subst hwA
  have aA : w.heap.size + 1 < wA.heap.size := by omega
  have aA0 : w.heap.size < wA.heap.size := by omega
  have m0 : wA.cell? ⟨w.heap.size, 0, none⟩ = some (.int .i64 0) := by simp [go_sem, *]
  have m1 : wA.cell? ⟨w.heap.size, 1, none⟩ = some (.int .i64 0) := by simp [go_sem, *]
  have m2 : wA.cell? ⟨w.heap.size, 2, none⟩ = some (.int .i64 0) := by simp [go_sem, *]
  have m3 : wA.cell? ⟨w.heap.size, 3, none⟩ = some (.int .i64 0) := by simp [go_sem, *]
  have n0 : wA.cell? ⟨w.heap.size + 1, 0, none⟩ = some (.int .i64 0) := by simp [go_sem, *]
  have n1 : wA.cell? ⟨w.heap.size + 1, 1, none⟩ = some (.int .i64 0) := by simp [go_sem, *]
  have n2 : wA.cell? ⟨w.heap.size + 1, 2, none⟩ = some (.int .i64 0) := by simp [go_sem, *]
  have n3 : wA.cell? ⟨w.heap.size + 1, 3, none⟩ = some (.int .i64 0) := by simp [go_sem, *]
  have mf0 : wA.frozen? ⟨w.heap.size, 0, none⟩ = false := by simp [go_sem, *]
  have mf1 : wA.frozen? ⟨w.heap.size, 1, none⟩ = false := by simp [go_sem, *]
  have mf2 : wA.frozen? ⟨w.heap.size, 2, none⟩ = false := by simp [go_sem, *]
  have mf3 : wA.frozen? ⟨w.heap.size, 3, none⟩ = false := by simp [go_sem, *]
  have nf0 : wA.frozen? ⟨w.heap.size + 1, 0, none⟩ = false := by simp [go_sem, *]
  have nf1 : wA.frozen? ⟨w.heap.size + 1, 1, none⟩ = false := by simp [go_sem, *]
  have nf2 : wA.frozen? ⟨w.heap.size + 1, 2, none⟩ = false := by simp [go_sem, *]
  have nf3 : wA.frozen? ⟨w.heap.size + 1, 3, none⟩ = false := by simp [go_sem, *]
  go_upto_region 2 with (go_at_call 65; refine (l02DrawAny_c g a n cap _ hn (by repeat (first | with_reducible assumption | with_reducible exact HS.out | with_reducible exact And.left (by with_reducible assumption) | with_reducible refine Src.drew ?_ | with_reducible refine Src.alloc ?_ _ | with_reducible refine Src.put1 ?_ (by first | omega | (simp; omega)) (by first | omega | (simp; omega)) | with_reducible refine Src.put2 ?_ (by first | omega | (simp; omega)) (by first | omega | (simp; omega)) | with_reducible refine Src.setCell ?_ (by first | assumption | (simp; done) | (simp; omega) | omega) _ | with_reducible refine Src.below ?_ (by with_reducible assumption)))).mono ?_; rintro e w1 ⟨⟨x, y, z, u, rfl⟩, hs, hk⟩; obtain ⟨hc, hf⟩ := kcell hk; (try simp only [World.size_drew] at hc hf); have hz := hk.size; have hgl := hs.lt; (try simp at hz); have hlx := kept_lt hk; have hly := kept_le hk; have hlz := kept_lt1 hk; have hlw := kept_lt2 hk; (try simp only [World.size_drew] at hlx hly hlz hlw); (try have hz0 : w.heap.size ≤ w1.heap.size := by omega); (try have hz1 : w.heap.size < w1.heap.size := by omega); (try have hz2 : w.heap.size + 1 < w1.heap.size := by omega); (try have hz3 : w.heap.size + 1 + 1 < w1.heap.size := by omega); (try have hz4 : w.heap.size + 1 + 1 + 1 < w1.heap.size := by omega); have hn0 := Nat.ne_of_gt hs.lt; have hn1 := Nat.ne_of_gt (Nat.lt_succ_of_lt hs.lt); have hn2 := Nat.ne_of_gt (Nat.lt_succ_of_lt (Nat.lt_succ_of_lt hs.lt)); (try simp only [Nat.succ_eq_add_one] at hn1 hn2); (try (obtain ⟨hc0, hf0⟩ := kcell (Kept.trans (by first | with_reducible assumption | with_reducible exact Kept.alloc (by with_reducible assumption) _ | with_reducible exact Kept.drew (by with_reducible assumption) | with_reducible exact Kept.drew (Kept.alloc (by with_reducible assumption) _) | with_reducible exact Kept.alloc (Kept.drew (by with_reducible assumption)) _ | with_reducible exact Kept.alloc (Kept.alloc (by with_reducible assumption) _) _) hk); (try simp only [World.size_drew] at hc0 hf0); have hlx0 := kept_lt (Kept.trans (by first | with_reducible assumption | with_reducible exact Kept.alloc (by with_reducible assumption) _ | with_reducible exact Kept.drew (by with_reducible assumption) | with_reducible exact Kept.drew (Kept.alloc (by with_reducible assumption) _) | with_reducible exact Kept.alloc (Kept.drew (by with_reducible assumption)) _ | with_reducible exact Kept.alloc (Kept.alloc (by with_reducible assumption) _) _) hk); have hly0 := kept_le (Kept.trans (by first | with_reducible assumption | with_reducible exact Kept.alloc (by with_reducible assumption) _ | with_reducible exact Kept.drew (by with_reducible assumption) | with_reducible exact Kept.drew (Kept.alloc (by with_reducible assumption) _) | with_reducible exact Kept.alloc (Kept.drew (by with_reducible assumption)) _ | with_reducible exact Kept.alloc (Kept.alloc (by with_reducible assumption) _) _) hk); have hlz0 := kept_lt1 (Kept.trans (by first | with_reducible assumption | with_reducible exact Kept.alloc (by with_reducible assumption) _ | with_reducible exact Kept.drew (by with_reducible assumption) | with_reducible exact Kept.drew (Kept.alloc (by with_reducible assumption) _) | with_reducible exact Kept.alloc (Kept.drew (by with_reducible assumption)) _ | with_reducible exact Kept.alloc (Kept.alloc (by with_reducible assumption) _) _) hk); (try simp only [World.size_drew] at hlx0 hly0 hlz0))))
  obtain ⟨wB, hwB⟩ : ∃ x : World, x = w1 := ⟨_, rfl⟩
  subst hwB
  have aB : w.heap.size + 1 < wB.heap.size := by omega
  have aB0 : w.heap.size < wB.heap.size := by omega
  have aB1 : w.heap.size + 1 < wB.heap.size + 1 := by omega
  have aB2 : w.heap.size < wB.heap.size + 1 := by omega
  have aB3 : w.heap.size + 1 < wB.heap.size + 1 + 1 := by omega
  have aB4 : w.heap.size < wB.heap.size + 1 + 1 := by omega
  have m0 : wB.cell? ⟨w.heap.size, 0, none⟩ = some (.int .i64 0) := by simp [go_sem, *]
  have m1 : wB.cell? ⟨w.heap.size, 1, none⟩ = some (.int .i64 0) := by simp [go_sem, *]
  have m2 : wB.cell? ⟨w.heap.size, 2, none⟩ = some (.int .i64 0) := by simp [go_sem, *]
  have m3 : wB.cell? ⟨w.heap.size, 3, none⟩ = some (.int .i64 0) := by simp [go_sem, *]
  have n0 : wB.cell? ⟨w.heap.size + 1, 0, none⟩ = some (.int .i64 0) := by simp [go_sem, *]
  have n1 : wB.cell? ⟨w.heap.size + 1, 1, none⟩ = some (.int .i64 0) := by simp [go_sem, *]
  have n2 : wB.cell? ⟨w.heap.size + 1, 2, none⟩ = some (.int .i64 0) := by simp [go_sem, *]
  have n3 : wB.cell? ⟨w.heap.size + 1, 3, none⟩ = some (.int .i64 0) := by simp [go_sem, *]
  have mf0 : wB.frozen? ⟨w.heap.size, 0, none⟩ = false := by simp [go_sem, *]
  have mf1 : wB.frozen? ⟨w.heap.size, 1, none⟩ = false := by simp [go_sem, *]
  have mf2 : wB.frozen? ⟨w.heap.size, 2, none⟩ = false := by simp [go_sem, *]
  have mf3 : wB.frozen? ⟨w.heap.size, 3, none⟩ = false := by simp [go_sem, *]
  have nf0 : wB.frozen? ⟨w.heap.size + 1, 0, none⟩ = false := by simp [go_sem, *]
  have nf1 : wB.frozen? ⟨w.heap.size + 1, 1, none⟩ = false := by simp [go_sem, *]
  have nf2 : wB.frozen? ⟨w.heap.size + 1, 2, none⟩ = false := by simp [go_sem, *]
  have nf3 : wB.frozen? ⟨w.heap.size + 1, 3, none⟩ = false := by simp [go_sem, *]
  have nB0 : wB.heap.size ≠ g := by omega
  have nB1 : wB.heap.size + 1 ≠ g := by omega
  go_wp2_with fail
  (refine (l01NextN_c g a n cap _ _ hn (by repeat (first | with_reducible assumption | with_reducible exact HS.out | with_reducible exact And.left (by with_reducible assumption) | with_reducible refine Src.drew ?_ | with_reducible refine Src.alloc ?_ _ | with_reducible refine Src.put1 ?_ (by first | omega | (simp; omega)) (by first | omega | (simp; omega)) | with_reducible refine Src.put2 ?_ (by first | omega | (simp; omega)) (by first | omega | (simp; omega)) | with_reducible refine Src.setCell ?_ (by first | assumption | (simp; done) | (simp; omega) | omega) _ | with_reducible refine Src.below ?_ (by with_reducible assumption)))).mono ?_; rintro e w1 ⟨⟨r, rfl, hr1, hr2⟩, hs, hk⟩; (try simp at hr1); (try clear hr2); (first | obtain ⟨hr1, hr3⟩ := hr1 | clear hr1); obtain ⟨hc, hf⟩ := kcell hk; (try simp only [World.size_drew] at hc hf); have hz := hk.size; have hgl := hs.lt; (try simp at hz); have hlx := kept_lt hk; have hly := kept_le hk; have hlz := kept_lt1 hk; have hlw := kept_lt2 hk; (try simp only [World.size_drew] at hlx hly hlz hlw); (try have hz0 : w.heap.size ≤ w1.heap.size := by omega); (try have hz1 : w.heap.size < w1.heap.size := by omega); (try have hz2 : w.heap.size + 1 < w1.heap.size := by omega); (try have hz3 : w.heap.size + 1 + 1 < w1.heap.size := by omega); (try have hz4 : w.heap.size + 1 + 1 + 1 < w1.heap.size := by omega); have hn0 := Nat.ne_of_gt hs.lt; have hn1 := Nat.ne_of_gt (Nat.lt_succ_of_lt hs.lt); have hn2 := Nat.ne_of_gt (Nat.lt_succ_of_lt (Nat.lt_succ_of_lt hs.lt)); (try simp only [Nat.succ_eq_add_one] at hn1 hn2); (try (obtain ⟨hc0, hf0⟩ := kcell (Kept.trans (by first | with_reducible assumption | with_reducible exact Kept.alloc (by with_reducible assumption) _ | with_reducible exact Kept.drew (by with_reducible assumption) | with_reducible exact Kept.drew (Kept.alloc (by with_reducible assumption) _) | with_reducible exact Kept.alloc (Kept.drew (by with_reducible assumption)) _ | with_reducible exact Kept.alloc (Kept.alloc (by with_reducible assumption) _) _) hk); (try simp only [World.size_drew] at hc0 hf0); have hlx0 := kept_lt (Kept.trans (by first | with_reducible assumption | with_reducible exact Kept.alloc (by with_reducible assumption) _ | with_reducible exact Kept.drew (by with_reducible assumption) | with_reducible exact Kept.drew (Kept.alloc (by with_reducible assumption) _) | with_reducible exact Kept.alloc (Kept.drew (by with_reducible assumption)) _ | with_reducible exact Kept.alloc (Kept.alloc (by with_reducible assumption) _) _) hk); have hly0 := kept_le (Kept.trans (by first | with_reducible assumption | with_reducible exact Kept.alloc (by with_reducible assumption) _ | with_reducible exact Kept.drew (by with_reducible assumption) | with_reducible exact Kept.drew (Kept.alloc (by with_reducible assumption) _) | with_reducible exact Kept.alloc (Kept.drew (by with_reducible assumption)) _ | with_reducible exact Kept.alloc (Kept.alloc (by with_reducible assumption) _) _) hk); have hlz0 := kept_lt1 (Kept.trans (by first | with_reducible assumption | with_reducible exact Kept.alloc (by with_reducible assumption) _ | with_reducible exact Kept.drew (by with_reducible assumption) | with_reducible exact Kept.drew (Kept.alloc (by with_reducible assumption) _) | with_reducible exact Kept.alloc (Kept.drew (by with_reducible assumption)) _ | with_reducible exact Kept.alloc (Kept.alloc (by with_reducible assumption) _) _) hk); (try simp only [World.size_drew] at hlx0 hly0 hlz0))))
  obtain ⟨wC, hwC⟩ : ∃ x : World, x = w1 := ⟨_, rfl⟩
  subst hwC
  have aC : w.heap.size + 1 < wC.heap.size := by omega
  have aC0 : w.heap.size < wC.heap.size := by omega
  have aC1 : wB.heap.size < wC.heap.size := by omega
  have aC2 : wB.heap.size + 1 < wC.heap.size := by omega
  have m0 : wC.cell? ⟨w.heap.size, 0, none⟩ = some (.int .i64 0) := by simp [go_sem, *]
  have m1 : wC.cell? ⟨w.heap.size, 1, none⟩ = some (.int .i64 0) := by simp [go_sem, *]
  have m2 : wC.cell? ⟨w.heap.size, 2, none⟩ = some (.int .i64 0) := by simp [go_sem, *]
  have m3 : wC.cell? ⟨w.heap.size, 3, none⟩ = some (.int .i64 0) := by simp [go_sem, *]
  have n0 : wC.cell? ⟨w.heap.size + 1, 0, none⟩ = some (.int .i64 0) := by simp [go_sem, *]
  have n1 : wC.cell? ⟨w.heap.size + 1, 1, none⟩ = some (.int .i64 0) := by simp [go_sem, *]
  have n2 : wC.cell? ⟨w.heap.size + 1, 2, none⟩ = some (.int .i64 0) := by simp [go_sem, *]
  have n3 : wC.cell? ⟨w.heap.size + 1, 3, none⟩ = some (.int .i64 0) := by simp [go_sem, *]
  have mf0 : wC.frozen? ⟨w.heap.size, 0, none⟩ = false := by simp [go_sem, *]
  have mf1 : wC.frozen? ⟨w.heap.size, 1, none⟩ = false := by simp [go_sem, *]
  have mf2 : wC.frozen? ⟨w.heap.size, 2, none⟩ = false := by simp [go_sem, *]
  have mf3 : wC.frozen? ⟨w.heap.size, 3, none⟩ = false := by simp [go_sem, *]
  have nf0 : wC.frozen? ⟨w.heap.size + 1, 0, none⟩ = false := by simp [go_sem, *]
  have nf1 : wC.frozen? ⟨w.heap.size + 1, 1, none⟩ = false := by simp [go_sem, *]
  have nf2 : wC.frozen? ⟨w.heap.size + 1, 2, none⟩ = false := by simp [go_sem, *]
  have nf3 : wC.frozen? ⟨w.heap.size + 1, 3, none⟩ = false := by simp [go_sem, *]
  have p0 : wC.cell? ⟨wB.heap.size, 0, none⟩ = some (.int .i64 x1) := by simp [go_sem, *]
  have p1 : wC.cell? ⟨wB.heap.size, 1, none⟩ = some (.int .i64 y1) := by simp [go_sem, *]
  have p2 : wC.cell? ⟨wB.heap.size, 2, none⟩ = some (.int .i64 z1) := by simp [go_sem, *]
  have p3 : wC.cell? ⟨wB.heap.size, 3, none⟩ = some (.int .i64 u1) := by simp [go_sem, *]
  have q0 : wC.cell? ⟨wB.heap.size + 1, 0, none⟩ = some (.int .i64 x) := by simp [go_sem, *]
  have q1 : wC.cell? ⟨wB.heap.size + 1, 1, none⟩ = some (.int .i64 y) := by simp [go_sem, *]
  have q2 : wC.cell? ⟨wB.heap.size + 1, 2, none⟩ = some (.int .i64 z) := by simp [go_sem, *]
  have q3 : wC.cell? ⟨wB.heap.size + 1, 3, none⟩ = some (.int .i64 u) := by simp [go_sem, *]
  have pf0 : wC.frozen? ⟨wB.heap.size, 0, none⟩ = false := by simp [go_sem, *]
  have pf1 : wC.frozen? ⟨wB.heap.size, 1, none⟩ = false := by simp [go_sem, *]
  have pf2 : wC.frozen? ⟨wB.heap.size, 2, none⟩ = false := by simp [go_sem, *]
  have pf3 : wC.frozen? ⟨wB.heap.size, 3, none⟩ = false := by simp [go_sem, *]
  have qf0 : wC.frozen? ⟨wB.heap.size + 1, 0, none⟩ = false := by simp [go_sem, *]
  have qf1 : wC.frozen? ⟨wB.heap.size + 1, 1, none⟩ = false := by simp [go_sem, *]
  have qf2 : wC.frozen? ⟨wB.heap.size + 1, 2, none⟩ = false := by simp [go_sem, *]
  have qf3 : wC.frozen? ⟨wB.heap.size + 1, 3, none⟩ = false := by simp [go_sem, *]
  have ne0 : wB.heap.size ≠ w.heap.size := by omega
  have ne1 : wB.heap.size ≠ w.heap.size + 1 := by omega
  have ne2 : wB.heap.size + 1 ≠ w.heap.size := by omega
  have ne3 : wB.heap.size + 1 ≠ w.heap.size + 1 := by omega
  go_wp2_with fail
  all_goals go_region
  all_goals go_wp2
  all_goals refine bodyPost_retE rfl ?_
  all_goals simp [results, Try.results74, go_sem, *]
  all_goals exact ⟨(by repeat (first | with_reducible assumption | with_reducible exact HS.out | with_reducible exact And.left (by with_reducible assumption) | with_reducible refine Src.drew ?_ | with_reducible refine Src.alloc ?_ _ | with_reducible refine Src.put1 ?_ (by first | omega | (simp; omega)) (by first | omega | (simp; omega)) | with_reducible refine Src.put2 ?_ (by first | omega | (simp; omega)) (by first | omega | (simp; omega)) | with_reducible refine Src.setCell ?_ (by first | assumption | (simp; done) | (simp; omega) | omega) _ | with_reducible refine Src.below ?_ (by with_reducible assumption))), (by repeat (first | with_reducible exact Kept.refl _ _ | with_reducible assumption | with_reducible exact And.right (by with_reducible assumption) | with_reducible refine Kept.drew ?_ | with_reducible refine Kept.alloc ?_ _ | with_reducible refine Kept.setCell ?_ (by first | exact .inl rfl | (right; first | exact Nat.le_refl _ | (simp; done) | (simp; omega) | omega) | omega) _ | with_reducible refine Kept.trans ?_ (Kept.of (by with_reducible assumption)) | with_reducible refine Kept.trans ?_ (by with_reducible assumption)))⟩
set_option maxRecDepth 100000 in
set_option maxHeartbeats 4000000 in
theorem DrawSegmentsCross_c (a : Option Addr) (n cap : Nat) (w : World) (hn : n ≤ 9223372036854775807) (hb : BytesB w.heap.size w a n) : Calls Try.prog 33 #[.slice a n cap] w fun e w' => (∃ x y z u x1 y1 z1 u1 : Int, e = .returned (.tuple #[.agg #[.int .i64 x, .int .i64 y, .int .i64 z, .int .i64 u], .agg #[.int .i64 x1, .int .i64 y1, .int .i64 z1, .int .i64 u1]])) ∧ Below w.heap.size w w' := by
  have HB := Lib.hid hb
  clear hb
  go_enter Try.func33, Try.ntmps33
  go_wp2_with (first | (go_at_call 51; refine (l01From_c a n cap _ hn (bytes_at HB.out (by repeat (first | with_reducible exact Below.refl _ _ | with_reducible assumption | with_reducible refine Below.drew ?_ | with_reducible refine Below.alloc ?_ (by first | exact Nat.le_refl _ | (simp; done) | (simp; omega) | omega) _ | with_reducible refine Below.setCell ?_ (by first | exact Nat.le_refl _ | (simp; done) | (simp; omega) | omega) _ | with_reducible refine Below.trans ?_ (Below.mono (by with_reducible assumption) (by first | exact Nat.le_refl _ | (simp; done) | (simp; omega) | omega)))))).mono ?_; rintro e w1 ⟨⟨g, rfl, hg, hs⟩, hb⟩; have hbF : Below w.heap.size w w1 := (by repeat (first | with_reducible exact Below.refl _ _ | with_reducible assumption | with_reducible refine Below.drew ?_ | with_reducible refine Below.alloc ?_ (by first | exact Nat.le_refl _ | (simp; done) | (simp; omega) | omega) _ | with_reducible refine Below.setCell ?_ (by first | exact Nat.le_refl _ | (simp; done) | (simp; omega) | omega) _ | with_reducible refine Below.trans ?_ (Below.mono (by with_reducible assumption) (by first | exact Nat.le_refl _ | (simp; done) | (simp; omega) | omega)))); have hgF : w.heap.size ≤ g := (by first | exact hg | (simp at hg; omega)); obtain ⟨hc, hf⟩ := bcell hb; (try simp only [World.size_drew] at hc hf); have hz := hb.size; have hgl := hs.lt; (try simp at hz); (try have hz0 : w.heap.size ≤ w1.heap.size := by omega); (try have hz1 : w.heap.size < w1.heap.size := by omega); (try have hz2 : w.heap.size + 1 < w1.heap.size := by omega); (try have hz3 : w.heap.size + 1 + 1 < w1.heap.size := by omega); (try have hz4 : w.heap.size + 1 + 1 + 1 < w1.heap.size := by omega); (try simp at hg); (try have hm0 : w.heap.size ≠ g := by omega); (try have hm1 : w.heap.size + 1 ≠ g := by omega); (try have hm2 : w.heap.size + 1 + 1 ≠ g := by omega); have hn0 := Nat.ne_of_gt hs.lt; have hn1 := Nat.ne_of_gt (Nat.lt_succ_of_lt hs.lt); have hn2 := Nat.ne_of_gt (Nat.lt_succ_of_lt (Nat.lt_succ_of_lt hs.lt)); (try simp only [Nat.succ_eq_add_one] at hn1 hn2)) | (go_at_call 74; refine (l02DrawTwo_c g a n cap _ hn (by repeat (first | with_reducible assumption | with_reducible exact HS.out | with_reducible exact And.left (by with_reducible assumption) | with_reducible refine Src.drew ?_ | with_reducible refine Src.alloc ?_ _ | with_reducible refine Src.put1 ?_ (by first | omega | (simp; omega)) (by first | omega | (simp; omega)) | with_reducible refine Src.put2 ?_ (by first | omega | (simp; omega)) (by first | omega | (simp; omega)) | with_reducible refine Src.setCell ?_ (by first | assumption | (simp; done) | (simp; omega) | omega) _ | with_reducible refine Src.below ?_ (by with_reducible assumption)))).mono ?_; rintro e w1 ⟨⟨x, y, z, u, x1, y1, z1, u1, rfl⟩, hs, hk⟩; obtain ⟨hc, hf⟩ := kcell hk; (try simp only [World.size_drew] at hc hf); have hz := hk.size; have hgl := hs.lt; (try simp at hz); have hlx := kept_lt hk; have hly := kept_le hk; have hlz := kept_lt1 hk; have hlw := kept_lt2 hk; (try simp only [World.size_drew] at hlx hly hlz hlw); (try have hz0 : w.heap.size ≤ w1.heap.size := by omega); (try have hz1 : w.heap.size < w1.heap.size := by omega); (try have hz2 : w.heap.size + 1 < w1.heap.size := by omega); (try have hz3 : w.heap.size + 1 + 1 < w1.heap.size := by omega); (try have hz4 : w.heap.size + 1 + 1 + 1 < w1.heap.size := by omega); have hn0 := Nat.ne_of_gt hs.lt; have hn1 := Nat.ne_of_gt (Nat.lt_succ_of_lt hs.lt); have hn2 := Nat.ne_of_gt (Nat.lt_succ_of_lt (Nat.lt_succ_of_lt hs.lt)); (try simp only [Nat.succ_eq_add_one] at hn1 hn2); (try (obtain ⟨hc0, hf0⟩ := kcell (Kept.trans (by first | with_reducible assumption | with_reducible exact Kept.alloc (by with_reducible assumption) _ | with_reducible exact Kept.drew (by with_reducible assumption) | with_reducible exact Kept.drew (Kept.alloc (by with_reducible assumption) _) | with_reducible exact Kept.alloc (Kept.drew (by with_reducible assumption)) _ | with_reducible exact Kept.alloc (Kept.alloc (by with_reducible assumption) _) _) hk); (try simp only [World.size_drew] at hc0 hf0); have hlx0 := kept_lt (Kept.trans (by first | with_reducible assumption | with_reducible exact Kept.alloc (by with_reducible assumption) _ | with_reducible exact Kept.drew (by with_reducible assumption) | with_reducible exact Kept.drew (Kept.alloc (by with_reducible assumption) _) | with_reducible exact Kept.alloc (Kept.drew (by with_reducible assumption)) _ | with_reducible exact Kept.alloc (Kept.alloc (by with_reducible assumption) _) _) hk); have hly0 := kept_le (Kept.trans (by first | with_reducible assumption | with_reducible exact Kept.alloc (by with_reducible assumption) _ | with_reducible exact Kept.drew (by with_reducible assumption) | with_reducible exact Kept.drew (Kept.alloc (by with_reducible assumption) _) | with_reducible exact Kept.alloc (Kept.drew (by with_reducible assumption)) _ | with_reducible exact Kept.alloc (Kept.alloc (by with_reducible assumption) _) _) hk); have hlz0 := kept_lt1 (Kept.trans (by first | with_reducible assumption | with_reducible exact Kept.alloc (by with_reducible assumption) _ | with_reducible exact Kept.drew (by with_reducible assumption) | with_reducible exact Kept.drew (Kept.alloc (by with_reducible assumption) _) | with_reducible exact Kept.alloc (Kept.drew (by with_reducible assumption)) _ | with_reducible exact Kept.alloc (Kept.alloc (by with_reducible assumption) _) _) hk); (try simp only [World.size_drew] at hlx0 hly0 hlz0)))))
  all_goals refine bodyPost_retE rfl ?_
  all_goals simp [results, Try.results33, go_sem, *]
  all_goals exact (by repeat (first | with_reducible exact Below.refl _ _ | with_reducible assumption | with_reducible refine Below.drew ?_ | with_reducible refine Below.alloc ?_ (by first | exact Nat.le_refl _ | (simp; done) | (simp; omega) | omega) _ | with_reducible refine Below.setCell ?_ (by first | exact Nat.le_refl _ | (simp; done) | (simp; omega) | omega) _ | with_reducible refine Below.trans ?_ (Kept.below (by with_reducible assumption) (by with_reducible assumption) (by first | exact Nat.le_refl _ | (simp; done) | (simp; omega) | omega)) | with_reducible refine Below.trans ?_ (Below.mono (by with_reducible assumption) (by first | exact Nat.le_refl _ | (simp; done) | (simp; omega) | omega))))
end Go.Proofs.Ytiinhelljcgeaaa
