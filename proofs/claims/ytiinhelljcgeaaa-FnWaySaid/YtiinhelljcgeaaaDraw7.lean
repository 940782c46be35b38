/-
  What the reference's functions draw: points and segments. Conditions: the code's bytes lie in the world.
-/
import Derived.Test.YtiinhelljcgeaaaDraw4
import Derived.Test.YtiinhelljcgeaaaH4
namespace Go.Proofs.Ytiinhelljcgeaaa
set_option linter.unusedVariables false
open Go.RowKit Go.Deep

theorem h5_drew {W wx : World} {B : Nat} (h : ((∀ b o, b < W.heap.size → b ≠ B → wx.cell? ⟨b, o, none⟩ = W.cell? ⟨b, o, none⟩) ∧ wx.cell? ⟨B, 0, none⟩ = some (.int .i64 (rd wx ⟨B, 0, none⟩)) ∧ wx.cell? ⟨B, 1, none⟩ = some (.int .i64 (rd wx ⟨B, 1, none⟩)) ∧ wx.frozen? ⟨B, 0, none⟩ = false ∧ wx.frozen? ⟨B, 1, none⟩ = false ∧ Kept B W wx)) : ((∀ b o, b < W.heap.size → b ≠ B → wx.drew.cell? ⟨b, o, none⟩ = W.cell? ⟨b, o, none⟩) ∧ wx.drew.cell? ⟨B, 0, none⟩ = some (.int .i64 (rd wx.drew ⟨B, 0, none⟩)) ∧ wx.drew.cell? ⟨B, 1, none⟩ = some (.int .i64 (rd wx.drew ⟨B, 1, none⟩)) ∧ wx.drew.frozen? ⟨B, 0, none⟩ = false ∧ wx.drew.frozen? ⟨B, 1, none⟩ = false ∧ Kept B W wx.drew) :=
  ⟨h.1, h.2.1, h.2.2.1, h.2.2.2.1, h.2.2.2.2.1, h.2.2.2.2.2.drew⟩
set_option maxRecDepth 100000 in
set_option maxHeartbeats 4000000 in
theorem DrawWayAcross_c (a : Option Addr) (n cap : Nat) (w : World) (hn : n ≤ 9223372036854775807) (hb : BytesB w.heap.size w a n) : Calls Try.prog 26 #[.slice a n cap] w fun e w' => (∃ x y z u x1 y1 z1 u1 : Int, e = .returned (.tuple #[.agg #[.int .i64 x, .int .i64 y, .int .i64 z, .int .i64 u], .agg #[.int .i64 x1, .int .i64 y1], .agg #[.int .i64 z1, .int .i64 u1]])) ∧ Below w.heap.size w w' := by
  have HB := Lib.hid hb
  clear hb
  go_enter Try.func26, Try.ntmps26
  go_upto_region 2 with (go_at_call 51; refine (l01From_c a n cap _ hn (bytes_at HB.out (by repeat (first | with_reducible exact Below.refl _ _ | with_reducible assumption | with_reducible refine Below.drew ?_ | with_reducible refine Below.alloc ?_ (by first | exact Nat.le_refl _ | (simp; done) | (simp; omega) | omega) _ | with_reducible refine Below.setCell ?_ (by first | exact Nat.le_refl _ | (simp; done) | (simp; omega) | omega) _ | with_reducible refine Below.trans ?_ (Below.mono (by with_reducible assumption) (by first | exact Nat.le_refl _ | (simp; done) | (simp; omega) | omega)))))).mono ?_; rintro e w1 ⟨⟨g, rfl, hg, hs⟩, hb⟩; have hbF : Below w.heap.size w w1 := (by repeat (first | with_reducible exact Below.refl _ _ | with_reducible assumption | with_reducible refine Below.drew ?_ | with_reducible refine Below.alloc ?_ (by first | exact Nat.le_refl _ | (simp; done) | (simp; omega) | omega) _ | with_reducible refine Below.setCell ?_ (by first | exact Nat.le_refl _ | (simp; done) | (simp; omega) | omega) _ | with_reducible refine Below.trans ?_ (Below.mono (by with_reducible assumption) (by first | exact Nat.le_refl _ | (simp; done) | (simp; omega) | omega)))); have hgF : w.heap.size ≤ g := (by first | exact hg | (simp at hg; omega)); obtain ⟨hc, hf⟩ := bcell hb; (try simp only [World.size_drew] at hc hf); have hz := hb.size; have hgl := hs.lt; (try simp at hz); (try have hz0 : w.heap.size ≤ w1.heap.size := by omega); (try have hz1 : w.heap.size < w1.heap.size := by omega); (try have hz2 : w.heap.size + 1 < w1.heap.size := by omega); (try have hz3 : w.heap.size + 1 + 1 < w1.heap.size := by omega); (try have hz4 : w.heap.size + 1 + 1 + 1 < w1.heap.size := by omega); (try simp at hg); (try have hm0 : w.heap.size ≠ g := by omega); (try have hm1 : w.heap.size + 1 ≠ g := by omega); (try have hm2 : w.heap.size + 1 + 1 ≠ g := by omega); have hn0 := Nat.ne_of_gt hs.lt; have hn1 := Nat.ne_of_gt (Nat.lt_succ_of_lt hs.lt); have hn2 := Nat.ne_of_gt (Nat.lt_succ_of_lt (Nat.lt_succ_of_lt hs.lt)); (try simp only [Nat.succ_eq_add_one] at hn1 hn2))
  obtain ⟨w0, hw0⟩ : ∃ x : World, x = w1 := ⟨_, rfl⟩
  subst hw0
  have K0 : Below w.heap.size w w0 := (by repeat (first | with_reducible exact Below.refl _ _ | with_reducible assumption | with_reducible refine Below.drew ?_ | with_reducible refine Below.alloc ?_ (by first | exact Nat.le_refl _ | (simp; done) | (simp; omega) | omega) _ | with_reducible refine Below.setCell ?_ (by first | exact Nat.le_refl _ | (simp; done) | (simp; omega) | omega) _ | with_reducible refine Below.trans ?_ (Kept.below (by with_reducible assumption) (by with_reducible assumption) (by first | exact Nat.le_refl _ | (simp; done) | (simp; omega) | omega)) | with_reducible refine Below.trans ?_ (Below.mono (by with_reducible assumption) (by first | exact Nat.le_refl _ | (simp; done) | (simp; omega) | omega))))
  have g0 : w.heap.size ≠ g := by omega
  have g1 : w.heap.size + 1 ≠ g := by omega
  have g2 : w.heap.size + 1 + 1 ≠ g := by omega
  have a00 : w.heap.size < w0.heap.size := by omega
  have a01 : w.heap.size < w0.heap.size + 1 := by omega
  have a02 : w.heap.size < w0.heap.size + 1 + 1 := by omega
  have a10 : w.heap.size + 1 < w0.heap.size := by omega
  have a11 : w.heap.size + 1 < w0.heap.size + 1 := by omega
  have a12 : w.heap.size + 1 < w0.heap.size + 1 + 1 := by omega
  have a20 : w.heap.size + 1 + 1 < w0.heap.size := by omega
  have a21 : w.heap.size + 1 + 1 < w0.heap.size + 1 := by omega
  have a22 : w.heap.size + 1 + 1 < w0.heap.size + 1 + 1 := by omega
  have m0 : w0.cell? ⟨w.heap.size, 0, none⟩ = some (.int .i64 0) := by simp [go_sem, *]
  have m1 : w0.cell? ⟨w.heap.size, 1, none⟩ = some (.int .i64 0) := by simp [go_sem, *]
  have m2 : w0.cell? ⟨w.heap.size, 2, none⟩ = some (.int .i64 0) := by simp [go_sem, *]
  have m3 : w0.cell? ⟨w.heap.size, 3, none⟩ = some (.int .i64 0) := by simp [go_sem, *]
  have n0 : w0.cell? ⟨w.heap.size + 1, 0, none⟩ = some (.int .i64 0) := by simp [go_sem, *]
  have n1 : w0.cell? ⟨w.heap.size + 1, 1, none⟩ = some (.int .i64 0) := by simp [go_sem, *]
  have o0 : w0.cell? ⟨w.heap.size + 1 + 1, 0, none⟩ = some (.int .i64 0) := by simp [go_sem, *]
  have o1 : w0.cell? ⟨w.heap.size + 1 + 1, 1, none⟩ = some (.int .i64 0) := by simp [go_sem, *]
  have mf0 : w0.frozen? ⟨w.heap.size, 0, none⟩ = false := by simp [go_sem, *]
  have mf1 : w0.frozen? ⟨w.heap.size, 1, none⟩ = false := by simp [go_sem, *]
  have mf2 : w0.frozen? ⟨w.heap.size, 2, none⟩ = false := by simp [go_sem, *]
  have mf3 : w0.frozen? ⟨w.heap.size, 3, none⟩ = false := by simp [go_sem, *]
  have nf0 : w0.frozen? ⟨w.heap.size + 1, 0, none⟩ = false := by simp [go_sem, *]
  have nf1 : w0.frozen? ⟨w.heap.size + 1, 1, none⟩ = false := by simp [go_sem, *]
  have of0 : w0.frozen? ⟨w.heap.size + 1 + 1, 0, none⟩ = false := by simp [go_sem, *]
  have of1 : w0.frozen? ⟨w.heap.size + 1 + 1, 1, none⟩ = false := by simp [go_sem, *]
  go_upto_region 3 with (go_at_call 65; refine (l02DrawAny_c g a n cap _ hn (by repeat (first | with_reducible assumption | with_reducible exact HS.out | with_reducible exact And.left (by with_reducible assumption) | with_reducible refine Src.drew ?_ | with_reducible refine Src.alloc ?_ _ | with_reducible refine Src.put1 ?_ (by first | omega | (simp; omega)) (by first | omega | (simp; omega)) | with_reducible refine Src.put2 ?_ (by first | omega | (simp; omega)) (by first | omega | (simp; omega)) | with_reducible refine Src.setCell ?_ (by first | assumption | (simp; done) | (simp; omega) | omega) _ | with_reducible refine Src.below ?_ (by with_reducible assumption)))).mono ?_; rintro e w1 ⟨⟨x, y, z, u, rfl⟩, hs, hk⟩; obtain ⟨hc, hf⟩ := kcell hk; (try simp only [World.size_drew] at hc hf); have hz := hk.size; have hgl := hs.lt; (try simp at hz); have hlx := kept_lt hk; have hly := kept_le hk; have hlz := kept_lt1 hk; have hlw := kept_lt2 hk; (try simp only [World.size_drew] at hlx hly hlz hlw); (try have hz0 : w.heap.size ≤ w1.heap.size := by omega); (try have hz1 : w.heap.size < w1.heap.size := by omega); (try have hz2 : w.heap.size + 1 < w1.heap.size := by omega); (try have hz3 : w.heap.size + 1 + 1 < w1.heap.size := by omega); (try have hz4 : w.heap.size + 1 + 1 + 1 < w1.heap.size := by omega); have hn0 := Nat.ne_of_gt hs.lt; have hn1 := Nat.ne_of_gt (Nat.lt_succ_of_lt hs.lt); have hn2 := Nat.ne_of_gt (Nat.lt_succ_of_lt (Nat.lt_succ_of_lt hs.lt)); (try simp only [Nat.succ_eq_add_one] at hn1 hn2); (try (obtain ⟨hc0, hf0⟩ := kcell (Kept.trans (by first | with_reducible assumption | with_reducible exact Kept.alloc (by with_reducible assumption) _ | with_reducible exact Kept.drew (by with_reducible assumption) | with_reducible exact Kept.drew (Kept.alloc (by with_reducible assumption) _) | with_reducible exact Kept.alloc (Kept.drew (by with_reducible assumption)) _ | with_reducible exact Kept.alloc (Kept.alloc (by with_reducible assumption) _) _) hk); (try simp only [World.size_drew] at hc0 hf0); have hlx0 := kept_lt (Kept.trans (by first | with_reducible assumption | with_reducible exact Kept.alloc (by with_reducible assumption) _ | with_reducible exact Kept.drew (by with_reducible assumption) | with_reducible exact Kept.drew (Kept.alloc (by with_reducible assumption) _) | with_reducible exact Kept.alloc (Kept.drew (by with_reducible assumption)) _ | with_reducible exact Kept.alloc (Kept.alloc (by with_reducible assumption) _) _) hk); have hly0 := kept_le (Kept.trans (by first | with_reducible assumption | with_reducible exact Kept.alloc (by with_reducible assumption) _ | with_reducible exact Kept.drew (by with_reducible assumption) | with_reducible exact Kept.drew (Kept.alloc (by with_reducible assumption) _) | with_reducible exact Kept.alloc (Kept.drew (by with_reducible assumption)) _ | with_reducible exact Kept.alloc (Kept.alloc (by with_reducible assumption) _) _) hk); have hlz0 := kept_lt1 (Kept.trans (by first | with_reducible assumption | with_reducible exact Kept.alloc (by with_reducible assumption) _ | with_reducible exact Kept.drew (by with_reducible assumption) | with_reducible exact Kept.drew (Kept.alloc (by with_reducible assumption) _) | with_reducible exact Kept.alloc (Kept.drew (by with_reducible assumption)) _ | with_reducible exact Kept.alloc (Kept.alloc (by with_reducible assumption) _) _) hk); (try simp only [World.size_drew] at hlx0 hly0 hlz0))))
  obtain ⟨wA, hwA⟩ : ∃ x : World, x = w1 := ⟨_, rfl⟩
  subst hwA
  have KA : Below w.heap.size w wA := (by repeat (first | with_reducible exact Below.refl _ _ | with_reducible assumption | with_reducible refine Below.drew ?_ | with_reducible refine Below.alloc ?_ (by first | exact Nat.le_refl _ | (simp; done) | (simp; omega) | omega) _ | with_reducible refine Below.setCell ?_ (by first | exact Nat.le_refl _ | (simp; done) | (simp; omega) | omega) _ | with_reducible refine Below.trans ?_ (Kept.below (by with_reducible assumption) (by with_reducible assumption) (by first | exact Nat.le_refl _ | (simp; done) | (simp; omega) | omega)) | with_reducible refine Below.trans ?_ (Below.mono (by with_reducible assumption) (by first | exact Nat.le_refl _ | (simp; done) | (simp; omega) | omega))))
  have nA : wA.heap.size ≠ g := by omega
  have b00 : w.heap.size < wA.heap.size := by omega
  have b01 : w.heap.size < wA.heap.size + 1 := by omega
  have b02 : w.heap.size < wA.heap.size + 1 + 1 := by omega
  have b10 : w.heap.size + 1 < wA.heap.size := by omega
  have b11 : w.heap.size + 1 < wA.heap.size + 1 := by omega
  have b12 : w.heap.size + 1 < wA.heap.size + 1 + 1 := by omega
  have b20 : w.heap.size + 1 + 1 < wA.heap.size := by omega
  have b21 : w.heap.size + 1 + 1 < wA.heap.size + 1 := by omega
  have b22 : w.heap.size + 1 + 1 < wA.heap.size + 1 + 1 := by omega
  have m0 : wA.cell? ⟨w.heap.size, 0, none⟩ = some (.int .i64 0) := by simp [go_sem, *]
  have m1 : wA.cell? ⟨w.heap.size, 1, none⟩ = some (.int .i64 0) := by simp [go_sem, *]
  have m2 : wA.cell? ⟨w.heap.size, 2, none⟩ = some (.int .i64 0) := by simp [go_sem, *]
  have m3 : wA.cell? ⟨w.heap.size, 3, none⟩ = some (.int .i64 0) := by simp [go_sem, *]
  have n0 : wA.cell? ⟨w.heap.size + 1, 0, none⟩ = some (.int .i64 0) := by simp [go_sem, *]
  have n1 : wA.cell? ⟨w.heap.size + 1, 1, none⟩ = some (.int .i64 0) := by simp [go_sem, *]
  have o0 : wA.cell? ⟨w.heap.size + 1 + 1, 0, none⟩ = some (.int .i64 0) := by simp [go_sem, *]
  have o1 : wA.cell? ⟨w.heap.size + 1 + 1, 1, none⟩ = some (.int .i64 0) := by simp [go_sem, *]
  have mf0 : wA.frozen? ⟨w.heap.size, 0, none⟩ = false := by simp [go_sem, *]
  have mf1 : wA.frozen? ⟨w.heap.size, 1, none⟩ = false := by simp [go_sem, *]
  have mf2 : wA.frozen? ⟨w.heap.size, 2, none⟩ = false := by simp [go_sem, *]
  have mf3 : wA.frozen? ⟨w.heap.size, 3, none⟩ = false := by simp [go_sem, *]
  have nf0 : wA.frozen? ⟨w.heap.size + 1, 0, none⟩ = false := by simp [go_sem, *]
  have nf1 : wA.frozen? ⟨w.heap.size + 1, 1, none⟩ = false := by simp [go_sem, *]
  have of0 : wA.frozen? ⟨w.heap.size + 1 + 1, 0, none⟩ = false := by simp [go_sem, *]
  have of1 : wA.frozen? ⟨w.heap.size + 1 + 1, 1, none⟩ = false := by simp [go_sem, *]
  go_wp2_with fail
  refine (l01DrawAny_c g a n cap _ hn (by repeat (first | with_reducible assumption | with_reducible exact HS.out | with_reducible exact And.left (by with_reducible assumption) | with_reducible refine Src.drew ?_ | with_reducible refine Src.alloc ?_ _ | with_reducible refine Src.put1 ?_ (by first | omega | (simp; omega)) (by first | omega | (simp; omega)) | with_reducible refine Src.put2 ?_ (by first | omega | (simp; omega)) (by first | omega | (simp; omega)) | with_reducible refine Src.setCell ?_ (by first | assumption | (simp; done) | (simp; omega) | omega) _ | with_reducible refine Src.below ?_ (by with_reducible assumption)))).mono ?_
  rintro e w1 ⟨⟨x1, y1, rfl⟩, hs, hk⟩
  (obtain ⟨hc, hf⟩ := kcell hk; (try simp only [World.size_drew] at hc hf); have hz := hk.size; have hgl := hs.lt; (try simp at hz); have hlx := kept_lt hk; have hly := kept_le hk; have hlz := kept_lt1 hk; have hlw := kept_lt2 hk; (try simp only [World.size_drew] at hlx hly hlz hlw); (try have hz0 : w.heap.size ≤ w1.heap.size := by omega); (try have hz1 : w.heap.size < w1.heap.size := by omega); (try have hz2 : w.heap.size + 1 < w1.heap.size := by omega); (try have hz3 : w.heap.size + 1 + 1 < w1.heap.size := by omega); (try have hz4 : w.heap.size + 1 + 1 + 1 < w1.heap.size := by omega); have hn0 := Nat.ne_of_gt hs.lt; have hn1 := Nat.ne_of_gt (Nat.lt_succ_of_lt hs.lt); have hn2 := Nat.ne_of_gt (Nat.lt_succ_of_lt (Nat.lt_succ_of_lt hs.lt)); (try simp only [Nat.succ_eq_add_one] at hn1 hn2); (try (obtain ⟨hc0, hf0⟩ := kcell (Kept.trans (by first | with_reducible assumption | with_reducible exact Kept.alloc (by with_reducible assumption) _ | with_reducible exact Kept.drew (by with_reducible assumption) | with_reducible exact Kept.drew (Kept.alloc (by with_reducible assumption) _) | with_reducible exact Kept.alloc (Kept.drew (by with_reducible assumption)) _ | with_reducible exact Kept.alloc (Kept.alloc (by with_reducible assumption) _) _) hk); (try simp only [World.size_drew] at hc0 hf0); have hlx0 := kept_lt (Kept.trans (by first | with_reducible assumption | with_reducible exact Kept.alloc (by with_reducible assumption) _ | with_reducible exact Kept.drew (by with_reducible assumption) | with_reducible exact Kept.drew (Kept.alloc (by with_reducible assumption) _) | with_reducible exact Kept.alloc (Kept.drew (by with_reducible assumption)) _ | with_reducible exact Kept.alloc (Kept.alloc (by with_reducible assumption) _) _) hk); have hly0 := kept_le (Kept.trans (by first | with_reducible assumption | with_reducible exact Kept.alloc (by with_reducible assumption) _ | with_reducible exact Kept.drew (by with_reducible assumption) | with_reducible exact Kept.drew (Kept.alloc (by with_reducible assumption) _) | with_reducible exact Kept.alloc (Kept.drew (by with_reducible assumption)) _ | with_reducible exact Kept.alloc (Kept.alloc (by with_reducible assumption) _) _) hk); have hlz0 := kept_lt1 (Kept.trans (by first | with_reducible assumption | with_reducible exact Kept.alloc (by with_reducible assumption) _ | with_reducible exact Kept.drew (by with_reducible assumption) | with_reducible exact Kept.drew (Kept.alloc (by with_reducible assumption) _) | with_reducible exact Kept.alloc (Kept.drew (by with_reducible assumption)) _ | with_reducible exact Kept.alloc (Kept.alloc (by with_reducible assumption) _) _) hk); (try simp only [World.size_drew] at hlx0 hly0 hlz0))))
  obtain ⟨wB, hwB⟩ : ∃ x : World, x = w1 := ⟨_, rfl⟩
  subst hwB
  have KB : Below w.heap.size w wB := (by repeat (first | with_reducible exact Below.refl _ _ | with_reducible assumption | with_reducible refine Below.drew ?_ | with_reducible refine Below.alloc ?_ (by first | exact Nat.le_refl _ | (simp; done) | (simp; omega) | omega) _ | with_reducible refine Below.setCell ?_ (by first | exact Nat.le_refl _ | (simp; done) | (simp; omega) | omega) _ | with_reducible refine Below.trans ?_ (Kept.below (by with_reducible assumption) (by with_reducible assumption) (by first | exact Nat.le_refl _ | (simp; done) | (simp; omega) | omega)) | with_reducible refine Below.trans ?_ (Below.mono (by with_reducible assumption) (by first | exact Nat.le_refl _ | (simp; done) | (simp; omega) | omega))))
  have c00 : w.heap.size < wB.heap.size := by omega
  have c01 : w.heap.size < wB.heap.size + 1 := by omega
  have c02 : w.heap.size < wB.heap.size + 1 + 1 := by omega
  have c10 : w.heap.size + 1 < wB.heap.size := by omega
  have c11 : w.heap.size + 1 < wB.heap.size + 1 := by omega
  have c12 : w.heap.size + 1 < wB.heap.size + 1 + 1 := by omega
  have c20 : w.heap.size + 1 + 1 < wB.heap.size := by omega
  have c21 : w.heap.size + 1 + 1 < wB.heap.size + 1 := by omega
  have c22 : w.heap.size + 1 + 1 < wB.heap.size + 1 + 1 := by omega
  have c30 : wA.heap.size < wB.heap.size := by omega
  have c31 : wA.heap.size < wB.heap.size + 1 := by omega
  have c32 : wA.heap.size < wB.heap.size + 1 + 1 := by omega
  have m0 : wB.cell? ⟨w.heap.size, 0, none⟩ = some (.int .i64 0) := by simp [go_sem, *]
  have m1 : wB.cell? ⟨w.heap.size, 1, none⟩ = some (.int .i64 0) := by simp [go_sem, *]
  have m2 : wB.cell? ⟨w.heap.size, 2, none⟩ = some (.int .i64 0) := by simp [go_sem, *]
  have m3 : wB.cell? ⟨w.heap.size, 3, none⟩ = some (.int .i64 0) := by simp [go_sem, *]
  have n0 : wB.cell? ⟨w.heap.size + 1, 0, none⟩ = some (.int .i64 0) := by simp [go_sem, *]
  have n1 : wB.cell? ⟨w.heap.size + 1, 1, none⟩ = some (.int .i64 0) := by simp [go_sem, *]
  have o0 : wB.cell? ⟨w.heap.size + 1 + 1, 0, none⟩ = some (.int .i64 0) := by simp [go_sem, *]
  have o1 : wB.cell? ⟨w.heap.size + 1 + 1, 1, none⟩ = some (.int .i64 0) := by simp [go_sem, *]
  have mf0 : wB.frozen? ⟨w.heap.size, 0, none⟩ = false := by simp [go_sem, *]
  have mf1 : wB.frozen? ⟨w.heap.size, 1, none⟩ = false := by simp [go_sem, *]
  have mf2 : wB.frozen? ⟨w.heap.size, 2, none⟩ = false := by simp [go_sem, *]
  have mf3 : wB.frozen? ⟨w.heap.size, 3, none⟩ = false := by simp [go_sem, *]
  have nf0 : wB.frozen? ⟨w.heap.size + 1, 0, none⟩ = false := by simp [go_sem, *]
  have nf1 : wB.frozen? ⟨w.heap.size + 1, 1, none⟩ = false := by simp [go_sem, *]
  have of0 : wB.frozen? ⟨w.heap.size + 1 + 1, 0, none⟩ = false := by simp [go_sem, *]
  have of1 : wB.frozen? ⟨w.heap.size + 1 + 1, 1, none⟩ = false := by simp [go_sem, *]
  have p0 : wB.cell? ⟨wA.heap.size, 0, none⟩ = some (.int .i64 x) := by simp [go_sem, *]
  have p1 : wB.cell? ⟨wA.heap.size, 1, none⟩ = some (.int .i64 y) := by simp [go_sem, *]
  have p2 : wB.cell? ⟨wA.heap.size, 2, none⟩ = some (.int .i64 z) := by simp [go_sem, *]
  have p3 : wB.cell? ⟨wA.heap.size, 3, none⟩ = some (.int .i64 u) := by simp [go_sem, *]
  have pf0 : wB.frozen? ⟨wA.heap.size, 0, none⟩ = false := by simp [go_sem, *]
  have pf1 : wB.frozen? ⟨wA.heap.size, 1, none⟩ = false := by simp [go_sem, *]
  have pf2 : wB.frozen? ⟨wA.heap.size, 2, none⟩ = false := by simp [go_sem, *]
  have pf3 : wB.frozen? ⟨wA.heap.size, 3, none⟩ = false := by simp [go_sem, *]
  go_wp2_with fail
  refine (l01DrawAny_c g a n cap _ hn (by repeat (first | with_reducible assumption | with_reducible exact HS.out | with_reducible exact And.left (by with_reducible assumption) | with_reducible refine Src.drew ?_ | with_reducible refine Src.alloc ?_ _ | with_reducible refine Src.put1 ?_ (by first | omega | (simp; omega)) (by first | omega | (simp; omega)) | with_reducible refine Src.put2 ?_ (by first | omega | (simp; omega)) (by first | omega | (simp; omega)) | with_reducible refine Src.setCell ?_ (by first | assumption | (simp; done) | (simp; omega) | omega) _ | with_reducible refine Src.below ?_ (by with_reducible assumption)))).mono ?_
  rintro e w1 ⟨⟨z1, u1, rfl⟩, hs, hk⟩
  (obtain ⟨hc, hf⟩ := kcell hk; (try simp only [World.size_drew] at hc hf); have hz := hk.size; have hgl := hs.lt; (try simp at hz); have hlx := kept_lt hk; have hly := kept_le hk; have hlz := kept_lt1 hk; have hlw := kept_lt2 hk; (try simp only [World.size_drew] at hlx hly hlz hlw); (try have hz0 : w.heap.size ≤ w1.heap.size := by omega); (try have hz1 : w.heap.size < w1.heap.size := by omega); (try have hz2 : w.heap.size + 1 < w1.heap.size := by omega); (try have hz3 : w.heap.size + 1 + 1 < w1.heap.size := by omega); (try have hz4 : w.heap.size + 1 + 1 + 1 < w1.heap.size := by omega); have hn0 := Nat.ne_of_gt hs.lt; have hn1 := Nat.ne_of_gt (Nat.lt_succ_of_lt hs.lt); have hn2 := Nat.ne_of_gt (Nat.lt_succ_of_lt (Nat.lt_succ_of_lt hs.lt)); (try simp only [Nat.succ_eq_add_one] at hn1 hn2); (try (obtain ⟨hc0, hf0⟩ := kcell (Kept.trans (by first | with_reducible assumption | with_reducible exact Kept.alloc (by with_reducible assumption) _ | with_reducible exact Kept.drew (by with_reducible assumption) | with_reducible exact Kept.drew (Kept.alloc (by with_reducible assumption) _) | with_reducible exact Kept.alloc (Kept.drew (by with_reducible assumption)) _ | with_reducible exact Kept.alloc (Kept.alloc (by with_reducible assumption) _) _) hk); (try simp only [World.size_drew] at hc0 hf0); have hlx0 := kept_lt (Kept.trans (by first | with_reducible assumption | with_reducible exact Kept.alloc (by with_reducible assumption) _ | with_reducible exact Kept.drew (by with_reducible assumption) | with_reducible exact Kept.drew (Kept.alloc (by with_reducible assumption) _) | with_reducible exact Kept.alloc (Kept.drew (by with_reducible assumption)) _ | with_reducible exact Kept.alloc (Kept.alloc (by with_reducible assumption) _) _) hk); have hly0 := kept_le (Kept.trans (by first | with_reducible assumption | with_reducible exact Kept.alloc (by with_reducible assumption) _ | with_reducible exact Kept.drew (by with_reducible assumption) | with_reducible exact Kept.drew (Kept.alloc (by with_reducible assumption) _) | with_reducible exact Kept.alloc (Kept.drew (by with_reducible assumption)) _ | with_reducible exact Kept.alloc (Kept.alloc (by with_reducible assumption) _) _) hk); have hlz0 := kept_lt1 (Kept.trans (by first | with_reducible assumption | with_reducible exact Kept.alloc (by with_reducible assumption) _ | with_reducible exact Kept.drew (by with_reducible assumption) | with_reducible exact Kept.drew (Kept.alloc (by with_reducible assumption) _) | with_reducible exact Kept.alloc (Kept.drew (by with_reducible assumption)) _ | with_reducible exact Kept.alloc (Kept.alloc (by with_reducible assumption) _) _) hk); (try simp only [World.size_drew] at hlx0 hly0 hlz0))))
  obtain ⟨wC, hwC⟩ : ∃ x : World, x = w1 := ⟨_, rfl⟩
  subst hwC
  have KC : Below w.heap.size w wC := (by repeat (first | with_reducible exact Below.refl _ _ | with_reducible assumption | with_reducible refine Below.drew ?_ | with_reducible refine Below.alloc ?_ (by first | exact Nat.le_refl _ | (simp; done) | (simp; omega) | omega) _ | with_reducible refine Below.setCell ?_ (by first | exact Nat.le_refl _ | (simp; done) | (simp; omega) | omega) _ | with_reducible refine Below.trans ?_ (Kept.below (by with_reducible assumption) (by with_reducible assumption) (by first | exact Nat.le_refl _ | (simp; done) | (simp; omega) | omega)) | with_reducible refine Below.trans ?_ (Below.mono (by with_reducible assumption) (by first | exact Nat.le_refl _ | (simp; done) | (simp; omega) | omega))))
  have d00 : w.heap.size < wC.heap.size := by omega
  have d01 : w.heap.size < wC.heap.size + 1 := by omega
  have d02 : w.heap.size < wC.heap.size + 1 + 1 := by omega
  have d10 : w.heap.size + 1 < wC.heap.size := by omega
  have d11 : w.heap.size + 1 < wC.heap.size + 1 := by omega
  have d12 : w.heap.size + 1 < wC.heap.size + 1 + 1 := by omega
  have d20 : w.heap.size + 1 + 1 < wC.heap.size := by omega
  have d21 : w.heap.size + 1 + 1 < wC.heap.size + 1 := by omega
  have d22 : w.heap.size + 1 + 1 < wC.heap.size + 1 + 1 := by omega
  have d30 : wA.heap.size < wC.heap.size := by omega
  have d31 : wA.heap.size < wC.heap.size + 1 := by omega
  have d32 : wA.heap.size < wC.heap.size + 1 + 1 := by omega
  have m0 : wC.cell? ⟨w.heap.size, 0, none⟩ = some (.int .i64 0) := by simp [go_sem, *]
  have m1 : wC.cell? ⟨w.heap.size, 1, none⟩ = some (.int .i64 0) := by simp [go_sem, *]
  have m2 : wC.cell? ⟨w.heap.size, 2, none⟩ = some (.int .i64 0) := by simp [go_sem, *]
  have m3 : wC.cell? ⟨w.heap.size, 3, none⟩ = some (.int .i64 0) := by simp [go_sem, *]
  have n0 : wC.cell? ⟨w.heap.size + 1, 0, none⟩ = some (.int .i64 0) := by simp [go_sem, *]
  have n1 : wC.cell? ⟨w.heap.size + 1, 1, none⟩ = some (.int .i64 0) := by simp [go_sem, *]
  have o0 : wC.cell? ⟨w.heap.size + 1 + 1, 0, none⟩ = some (.int .i64 0) := by simp [go_sem, *]
  have o1 : wC.cell? ⟨w.heap.size + 1 + 1, 1, none⟩ = some (.int .i64 0) := by simp [go_sem, *]
  have mf0 : wC.frozen? ⟨w.heap.size, 0, none⟩ = false := by simp [go_sem, *]
  have mf1 : wC.frozen? ⟨w.heap.size, 1, none⟩ = false := by simp [go_sem, *]
  have mf2 : wC.frozen? ⟨w.heap.size, 2, none⟩ = false := by simp [go_sem, *]
  have mf3 : wC.frozen? ⟨w.heap.size, 3, none⟩ = false := by simp [go_sem, *]
  have nf0 : wC.frozen? ⟨w.heap.size + 1, 0, none⟩ = false := by simp [go_sem, *]
  have nf1 : wC.frozen? ⟨w.heap.size + 1, 1, none⟩ = false := by simp [go_sem, *]
  have of0 : wC.frozen? ⟨w.heap.size + 1 + 1, 0, none⟩ = false := by simp [go_sem, *]
  have of1 : wC.frozen? ⟨w.heap.size + 1 + 1, 1, none⟩ = false := by simp [go_sem, *]
  have p0 : wC.cell? ⟨wA.heap.size, 0, none⟩ = some (.int .i64 x) := by simp [go_sem, *]
  have p1 : wC.cell? ⟨wA.heap.size, 1, none⟩ = some (.int .i64 y) := by simp [go_sem, *]
  have p2 : wC.cell? ⟨wA.heap.size, 2, none⟩ = some (.int .i64 z) := by simp [go_sem, *]
  have p3 : wC.cell? ⟨wA.heap.size, 3, none⟩ = some (.int .i64 u) := by simp [go_sem, *]
  have pf0 : wC.frozen? ⟨wA.heap.size, 0, none⟩ = false := by simp [go_sem, *]
  have pf1 : wC.frozen? ⟨wA.heap.size, 1, none⟩ = false := by simp [go_sem, *]
  have pf2 : wC.frozen? ⟨wA.heap.size, 2, none⟩ = false := by simp [go_sem, *]
  have pf3 : wC.frozen? ⟨wA.heap.size, 3, none⟩ = false := by simp [go_sem, *]
  have nC0 : wC.heap.size ≠ g := by omega
  have nC1 : wC.heap.size + 1 ≠ g := by omega
  go_upto_region 4 with fail
  go_wp2_with fail
  (refine (l01NextN_c g a n cap _ _ hn (by repeat (first | with_reducible assumption | with_reducible exact HS.out | with_reducible exact And.left (by with_reducible assumption) | with_reducible refine Src.drew ?_ | with_reducible refine Src.alloc ?_ _ | with_reducible refine Src.put1 ?_ (by first | omega | (simp; omega)) (by first | omega | (simp; omega)) | with_reducible refine Src.put2 ?_ (by first | omega | (simp; omega)) (by first | omega | (simp; omega)) | with_reducible refine Src.setCell ?_ (by first | assumption | (simp; done) | (simp; omega) | omega) _ | with_reducible refine Src.below ?_ (by with_reducible assumption)))).mono ?_; rintro e w1 ⟨⟨r, rfl, hr1, hr2⟩, hs, hk⟩; (try simp at hr1); (try clear hr2); (first | obtain ⟨hr1, hr3⟩ := hr1 | clear hr1); obtain ⟨hc, hf⟩ := kcell hk; (try simp only [World.size_drew] at hc hf); have hz := hk.size; have hgl := hs.lt; (try simp at hz); have hlx := kept_lt hk; have hly := kept_le hk; have hlz := kept_lt1 hk; have hlw := kept_lt2 hk; (try simp only [World.size_drew] at hlx hly hlz hlw); (try have hz0 : w.heap.size ≤ w1.heap.size := by omega); (try have hz1 : w.heap.size < w1.heap.size := by omega); (try have hz2 : w.heap.size + 1 < w1.heap.size := by omega); (try have hz3 : w.heap.size + 1 + 1 < w1.heap.size := by omega); (try have hz4 : w.heap.size + 1 + 1 + 1 < w1.heap.size := by omega); have hn0 := Nat.ne_of_gt hs.lt; have hn1 := Nat.ne_of_gt (Nat.lt_succ_of_lt hs.lt); have hn2 := Nat.ne_of_gt (Nat.lt_succ_of_lt (Nat.lt_succ_of_lt hs.lt)); (try simp only [Nat.succ_eq_add_one] at hn1 hn2); (try (obtain ⟨hc0, hf0⟩ := kcell (Kept.trans (by first | with_reducible assumption | with_reducible exact Kept.alloc (by with_reducible assumption) _ | with_reducible exact Kept.drew (by with_reducible assumption) | with_reducible exact Kept.drew (Kept.alloc (by with_reducible assumption) _) | with_reducible exact Kept.alloc (Kept.drew (by with_reducible assumption)) _ | with_reducible exact Kept.alloc (Kept.alloc (by with_reducible assumption) _) _) hk); (try simp only [World.size_drew] at hc0 hf0); have hlx0 := kept_lt (Kept.trans (by first | with_reducible assumption | with_reducible exact Kept.alloc (by with_reducible assumption) _ | with_reducible exact Kept.drew (by with_reducible assumption) | with_reducible exact Kept.drew (Kept.alloc (by with_reducible assumption) _) | with_reducible exact Kept.alloc (Kept.drew (by with_reducible assumption)) _ | with_reducible exact Kept.alloc (Kept.alloc (by with_reducible assumption) _) _) hk); have hly0 := kept_le (Kept.trans (by first | with_reducible assumption | with_reducible exact Kept.alloc (by with_reducible assumption) _ | with_reducible exact Kept.drew (by with_reducible assumption) | with_reducible exact Kept.drew (Kept.alloc (by with_reducible assumption) _) | with_reducible exact Kept.alloc (Kept.drew (by with_reducible assumption)) _ | with_reducible exact Kept.alloc (Kept.alloc (by with_reducible assumption) _) _) hk); have hlz0 := kept_lt1 (Kept.trans (by first | with_reducible assumption | with_reducible exact Kept.alloc (by with_reducible assumption) _ | with_reducible exact Kept.drew (by with_reducible assumption) | with_reducible exact Kept.drew (Kept.alloc (by with_reducible assumption) _) | with_reducible exact Kept.alloc (Kept.drew (by with_reducible assumption)) _ | with_reducible exact Kept.alloc (Kept.alloc (by with_reducible assumption) _) _) hk); (try simp only [World.size_drew] at hlx0 hly0 hlz0))))
  obtain ⟨wD, hwD⟩ : ∃ x : World, x = w1 := ⟨_, rfl⟩
  subst hwD
  have KD : Below w.heap.size w wD := (by repeat (first | with_reducible exact Below.refl _ _ | with_reducible assumption | with_reducible refine Below.drew ?_ | with_reducible refine Below.alloc ?_ (by first | exact Nat.le_refl _ | (simp; done) | (simp; omega) | omega) _ | with_reducible refine Below.setCell ?_ (by first | exact Nat.le_refl _ | (simp; done) | (simp; omega) | omega) _ | with_reducible refine Below.trans ?_ (Kept.below (by with_reducible assumption) (by with_reducible assumption) (by first | exact Nat.le_refl _ | (simp; done) | (simp; omega) | omega)) | with_reducible refine Below.trans ?_ (Below.mono (by with_reducible assumption) (by first | exact Nat.le_refl _ | (simp; done) | (simp; omega) | omega))))
  have f00 : w.heap.size < wD.heap.size := by omega
  have f01 : w.heap.size < wD.heap.size + 1 := by omega
  have f02 : w.heap.size < wD.heap.size + 1 + 1 := by omega
  have f10 : w.heap.size + 1 < wD.heap.size := by omega
  have f11 : w.heap.size + 1 < wD.heap.size + 1 := by omega
  have f12 : w.heap.size + 1 < wD.heap.size + 1 + 1 := by omega
  have f20 : w.heap.size + 1 + 1 < wD.heap.size := by omega
  have f21 : w.heap.size + 1 + 1 < wD.heap.size + 1 := by omega
  have f22 : w.heap.size + 1 + 1 < wD.heap.size + 1 + 1 := by omega
  have f30 : wA.heap.size < wD.heap.size := by omega
  have f31 : wA.heap.size < wD.heap.size + 1 := by omega
  have f32 : wA.heap.size < wD.heap.size + 1 + 1 := by omega
  have f40 : wC.heap.size < wD.heap.size := by omega
  have f41 : wC.heap.size < wD.heap.size + 1 := by omega
  have f42 : wC.heap.size < wD.heap.size + 1 + 1 := by omega
  have f50 : wC.heap.size + 1 < wD.heap.size := by omega
  have f51 : wC.heap.size + 1 < wD.heap.size + 1 := by omega
  have f52 : wC.heap.size + 1 < wD.heap.size + 1 + 1 := by omega
  have m0 : wD.cell? ⟨w.heap.size, 0, none⟩ = some (.int .i64 0) := by simp [go_sem, *]
  have m1 : wD.cell? ⟨w.heap.size, 1, none⟩ = some (.int .i64 0) := by simp [go_sem, *]
  have m2 : wD.cell? ⟨w.heap.size, 2, none⟩ = some (.int .i64 0) := by simp [go_sem, *]
  have m3 : wD.cell? ⟨w.heap.size, 3, none⟩ = some (.int .i64 0) := by simp [go_sem, *]
  have n0 : wD.cell? ⟨w.heap.size + 1, 0, none⟩ = some (.int .i64 0) := by simp [go_sem, *]
  have n1 : wD.cell? ⟨w.heap.size + 1, 1, none⟩ = some (.int .i64 0) := by simp [go_sem, *]
  have o0 : wD.cell? ⟨w.heap.size + 1 + 1, 0, none⟩ = some (.int .i64 0) := by simp [go_sem, *]
  have o1 : wD.cell? ⟨w.heap.size + 1 + 1, 1, none⟩ = some (.int .i64 0) := by simp [go_sem, *]
  have mf0 : wD.frozen? ⟨w.heap.size, 0, none⟩ = false := by simp [go_sem, *]
  have mf1 : wD.frozen? ⟨w.heap.size, 1, none⟩ = false := by simp [go_sem, *]
  have mf2 : wD.frozen? ⟨w.heap.size, 2, none⟩ = false := by simp [go_sem, *]
  have mf3 : wD.frozen? ⟨w.heap.size, 3, none⟩ = false := by simp [go_sem, *]
  have nf0 : wD.frozen? ⟨w.heap.size + 1, 0, none⟩ = false := by simp [go_sem, *]
  have nf1 : wD.frozen? ⟨w.heap.size + 1, 1, none⟩ = false := by simp [go_sem, *]
  have of0 : wD.frozen? ⟨w.heap.size + 1 + 1, 0, none⟩ = false := by simp [go_sem, *]
  have of1 : wD.frozen? ⟨w.heap.size + 1 + 1, 1, none⟩ = false := by simp [go_sem, *]
  have p0 : wD.cell? ⟨wA.heap.size, 0, none⟩ = some (.int .i64 x) := by simp [go_sem, *]
  have p1 : wD.cell? ⟨wA.heap.size, 1, none⟩ = some (.int .i64 y) := by simp [go_sem, *]
  have p2 : wD.cell? ⟨wA.heap.size, 2, none⟩ = some (.int .i64 z) := by simp [go_sem, *]
  have p3 : wD.cell? ⟨wA.heap.size, 3, none⟩ = some (.int .i64 u) := by simp [go_sem, *]
  have pf0 : wD.frozen? ⟨wA.heap.size, 0, none⟩ = false := by simp [go_sem, *]
  have pf1 : wD.frozen? ⟨wA.heap.size, 1, none⟩ = false := by simp [go_sem, *]
  have pf2 : wD.frozen? ⟨wA.heap.size, 2, none⟩ = false := by simp [go_sem, *]
  have pf3 : wD.frozen? ⟨wA.heap.size, 3, none⟩ = false := by simp [go_sem, *]
  have q0 : wD.cell? ⟨wC.heap.size, 0, none⟩ = some (.int .i64 x1) := by simp [go_sem, *]
  have q1 : wD.cell? ⟨wC.heap.size, 1, none⟩ = some (.int .i64 y1) := by simp [go_sem, *]
  have qf0 : wD.frozen? ⟨wC.heap.size, 0, none⟩ = false := by simp [go_sem, *]
  have qf1 : wD.frozen? ⟨wC.heap.size, 1, none⟩ = false := by simp [go_sem, *]
  have r0 : wD.cell? ⟨wC.heap.size + 1, 0, none⟩ = some (.int .i64 z1) := by simp [go_sem, *]
  have r1 : wD.cell? ⟨wC.heap.size + 1, 1, none⟩ = some (.int .i64 u1) := by simp [go_sem, *]
  have rf0 : wD.frozen? ⟨wC.heap.size + 1, 0, none⟩ = false := by simp [go_sem, *]
  have rf1 : wD.frozen? ⟨wC.heap.size + 1, 1, none⟩ = false := by simp [go_sem, *]
  have e0 : wC.heap.size ≠ wA.heap.size := by omega
  have e1 : wC.heap.size + 1 ≠ wA.heap.size := by omega
  rcases Nat.eq_zero_or_pos r with hr0 | hr0
  · subst hr0
    go_upto_region 6 with fail
    go_wp2_with fail
    (refine (l01NextN_c g a n cap _ _ hn (by repeat (first | with_reducible assumption | with_reducible exact HS.out | with_reducible exact And.left (by with_reducible assumption) | with_reducible refine Src.drew ?_ | with_reducible refine Src.alloc ?_ _ | with_reducible refine Src.put1 ?_ (by first | omega | (simp; omega)) (by first | omega | (simp; omega)) | with_reducible refine Src.put2 ?_ (by first | omega | (simp; omega)) (by first | omega | (simp; omega)) | with_reducible refine Src.setCell ?_ (by first | assumption | (simp; done) | (simp; omega) | omega) _ | with_reducible refine Src.below ?_ (by with_reducible assumption)))).mono ?_; rintro e w1 ⟨⟨r, rfl, hr1, hr2⟩, hs, hk⟩; (try simp at hr1); (try clear hr2); (first | obtain ⟨hr1, hr3⟩ := hr1 | clear hr1); obtain ⟨hc, hf⟩ := kcell hk; (try simp only [World.size_drew] at hc hf); have hz := hk.size; have hgl := hs.lt; (try simp at hz); have hlx := kept_lt hk; have hly := kept_le hk; have hlz := kept_lt1 hk; have hlw := kept_lt2 hk; (try simp only [World.size_drew] at hlx hly hlz hlw); (try have hz0 : w.heap.size ≤ w1.heap.size := by omega); (try have hz1 : w.heap.size < w1.heap.size := by omega); (try have hz2 : w.heap.size + 1 < w1.heap.size := by omega); (try have hz3 : w.heap.size + 1 + 1 < w1.heap.size := by omega); (try have hz4 : w.heap.size + 1 + 1 + 1 < w1.heap.size := by omega); have hn0 := Nat.ne_of_gt hs.lt; have hn1 := Nat.ne_of_gt (Nat.lt_succ_of_lt hs.lt); have hn2 := Nat.ne_of_gt (Nat.lt_succ_of_lt (Nat.lt_succ_of_lt hs.lt)); (try simp only [Nat.succ_eq_add_one] at hn1 hn2); (try (obtain ⟨hc0, hf0⟩ := kcell (Kept.trans (by first | with_reducible assumption | with_reducible exact Kept.alloc (by with_reducible assumption) _ | with_reducible exact Kept.drew (by with_reducible assumption) | with_reducible exact Kept.drew (Kept.alloc (by with_reducible assumption) _) | with_reducible exact Kept.alloc (Kept.drew (by with_reducible assumption)) _ | with_reducible exact Kept.alloc (Kept.alloc (by with_reducible assumption) _) _) hk); (try simp only [World.size_drew] at hc0 hf0); have hlx0 := kept_lt (Kept.trans (by first | with_reducible assumption | with_reducible exact Kept.alloc (by with_reducible assumption) _ | with_reducible exact Kept.drew (by with_reducible assumption) | with_reducible exact Kept.drew (Kept.alloc (by with_reducible assumption) _) | with_reducible exact Kept.alloc (Kept.drew (by with_reducible assumption)) _ | with_reducible exact Kept.alloc (Kept.alloc (by with_reducible assumption) _) _) hk); have hly0 := kept_le (Kept.trans (by first | with_reducible assumption | with_reducible exact Kept.alloc (by with_reducible assumption) _ | with_reducible exact Kept.drew (by with_reducible assumption) | with_reducible exact Kept.drew (Kept.alloc (by with_reducible assumption) _) | with_reducible exact Kept.alloc (Kept.drew (by with_reducible assumption)) _ | with_reducible exact Kept.alloc (Kept.alloc (by with_reducible assumption) _) _) hk); have hlz0 := kept_lt1 (Kept.trans (by first | with_reducible assumption | with_reducible exact Kept.alloc (by with_reducible assumption) _ | with_reducible exact Kept.drew (by with_reducible assumption) | with_reducible exact Kept.drew (Kept.alloc (by with_reducible assumption) _) | with_reducible exact Kept.alloc (Kept.drew (by with_reducible assumption)) _ | with_reducible exact Kept.alloc (Kept.alloc (by with_reducible assumption) _) _) hk); (try simp only [World.size_drew] at hlx0 hly0 hlz0))))
    obtain ⟨wE, hwE⟩ : ∃ x : World, x = w1 := ⟨_, rfl⟩
    subst hwE
    have KE : Below w.heap.size w wE := (by repeat (first | with_reducible exact Below.refl _ _ | with_reducible assumption | with_reducible refine Below.drew ?_ | with_reducible refine Below.alloc ?_ (by first | exact Nat.le_refl _ | (simp; done) | (simp; omega) | omega) _ | with_reducible refine Below.setCell ?_ (by first | exact Nat.le_refl _ | (simp; done) | (simp; omega) | omega) _ | with_reducible refine Below.trans ?_ (Kept.below (by with_reducible assumption) (by with_reducible assumption) (by first | exact Nat.le_refl _ | (simp; done) | (simp; omega) | omega)) | with_reducible refine Below.trans ?_ (Below.mono (by with_reducible assumption) (by first | exact Nat.le_refl _ | (simp; done) | (simp; omega) | omega))))
    have h00 : w.heap.size < wE.heap.size := by omega
    have h01 : w.heap.size < wE.heap.size + 1 := by omega
    have h02 : w.heap.size < wE.heap.size + 1 + 1 := by omega
    have h10 : w.heap.size + 1 < wE.heap.size := by omega
    have h11 : w.heap.size + 1 < wE.heap.size + 1 := by omega
    have h12 : w.heap.size + 1 < wE.heap.size + 1 + 1 := by omega
    have h20 : w.heap.size + 1 + 1 < wE.heap.size := by omega
    have h21 : w.heap.size + 1 + 1 < wE.heap.size + 1 := by omega
    have h22 : w.heap.size + 1 + 1 < wE.heap.size + 1 + 1 := by omega
    have h30 : wA.heap.size < wE.heap.size := by omega
    have h31 : wA.heap.size < wE.heap.size + 1 := by omega
    have h32 : wA.heap.size < wE.heap.size + 1 + 1 := by omega
    have h40 : wC.heap.size < wE.heap.size := by omega
    have h41 : wC.heap.size < wE.heap.size + 1 := by omega
    have h42 : wC.heap.size < wE.heap.size + 1 + 1 := by omega
    have h50 : wC.heap.size + 1 < wE.heap.size := by omega
    have h51 : wC.heap.size + 1 < wE.heap.size + 1 := by omega
    have h52 : wC.heap.size + 1 < wE.heap.size + 1 + 1 := by omega
    have m0 : wE.cell? ⟨w.heap.size, 0, none⟩ = some (.int .i64 0) := by simp [go_sem, *]
    have m1 : wE.cell? ⟨w.heap.size, 1, none⟩ = some (.int .i64 0) := by simp [go_sem, *]
    have m2 : wE.cell? ⟨w.heap.size, 2, none⟩ = some (.int .i64 0) := by simp [go_sem, *]
    have m3 : wE.cell? ⟨w.heap.size, 3, none⟩ = some (.int .i64 0) := by simp [go_sem, *]
    have n0 : wE.cell? ⟨w.heap.size + 1, 0, none⟩ = some (.int .i64 0) := by simp [go_sem, *]
    have n1 : wE.cell? ⟨w.heap.size + 1, 1, none⟩ = some (.int .i64 0) := by simp [go_sem, *]
    have o0 : wE.cell? ⟨w.heap.size + 1 + 1, 0, none⟩ = some (.int .i64 0) := by simp [go_sem, *]
    have o1 : wE.cell? ⟨w.heap.size + 1 + 1, 1, none⟩ = some (.int .i64 0) := by simp [go_sem, *]
    have mf0 : wE.frozen? ⟨w.heap.size, 0, none⟩ = false := by simp [go_sem, *]
    have mf1 : wE.frozen? ⟨w.heap.size, 1, none⟩ = false := by simp [go_sem, *]
    have mf2 : wE.frozen? ⟨w.heap.size, 2, none⟩ = false := by simp [go_sem, *]
    have mf3 : wE.frozen? ⟨w.heap.size, 3, none⟩ = false := by simp [go_sem, *]
    have nf0 : wE.frozen? ⟨w.heap.size + 1, 0, none⟩ = false := by simp [go_sem, *]
    have nf1 : wE.frozen? ⟨w.heap.size + 1, 1, none⟩ = false := by simp [go_sem, *]
    have of0 : wE.frozen? ⟨w.heap.size + 1 + 1, 0, none⟩ = false := by simp [go_sem, *]
    have of1 : wE.frozen? ⟨w.heap.size + 1 + 1, 1, none⟩ = false := by simp [go_sem, *]
    have p0 : wE.cell? ⟨wA.heap.size, 0, none⟩ = some (.int .i64 x) := by simp [go_sem, *]
    have p1 : wE.cell? ⟨wA.heap.size, 1, none⟩ = some (.int .i64 y) := by simp [go_sem, *]
    have p2 : wE.cell? ⟨wA.heap.size, 2, none⟩ = some (.int .i64 z) := by simp [go_sem, *]
    have p3 : wE.cell? ⟨wA.heap.size, 3, none⟩ = some (.int .i64 u) := by simp [go_sem, *]
    have pf0 : wE.frozen? ⟨wA.heap.size, 0, none⟩ = false := by simp [go_sem, *]
    have pf1 : wE.frozen? ⟨wA.heap.size, 1, none⟩ = false := by simp [go_sem, *]
    have pf2 : wE.frozen? ⟨wA.heap.size, 2, none⟩ = false := by simp [go_sem, *]
    have pf3 : wE.frozen? ⟨wA.heap.size, 3, none⟩ = false := by simp [go_sem, *]
    have q0 : wE.cell? ⟨wC.heap.size, 0, none⟩ = some (.int .i64 x) := by simp [go_sem, *]
    have q1 : wE.cell? ⟨wC.heap.size, 1, none⟩ = some (.int .i64 y) := by simp [go_sem, *]
    have qf0 : wE.frozen? ⟨wC.heap.size, 0, none⟩ = false := by simp [go_sem, *]
    have qf1 : wE.frozen? ⟨wC.heap.size, 1, none⟩ = false := by simp [go_sem, *]
    have r0 : wE.cell? ⟨wC.heap.size + 1, 0, none⟩ = some (.int .i64 z1) := by simp [go_sem, *]
    have r1 : wE.cell? ⟨wC.heap.size + 1, 1, none⟩ = some (.int .i64 u1) := by simp [go_sem, *]
    have rf0 : wE.frozen? ⟨wC.heap.size + 1, 0, none⟩ = false := by simp [go_sem, *]
    have rf1 : wE.frozen? ⟨wC.heap.size + 1, 1, none⟩ = false := by simp [go_sem, *]
    clear hk hc hf hlx hly hlz hlw
    go_upto_region 7 with fail
    · skip
      go_region_held3 (fun wx => ((∀ b o, b < wE.heap.size → b ≠ (wC.heap.size + 1) → wx.cell? ⟨b, o, none⟩ = wE.cell? ⟨b, o, none⟩) ∧ wx.cell? ⟨(wC.heap.size + 1), 0, none⟩ = some (.int .i64 (rd wx ⟨(wC.heap.size + 1), 0, none⟩)) ∧ wx.cell? ⟨(wC.heap.size + 1), 1, none⟩ = some (.int .i64 (rd wx ⟨(wC.heap.size + 1), 1, none⟩)) ∧ wx.frozen? ⟨(wC.heap.size + 1), 0, none⟩ = false ∧ wx.frozen? ⟨(wC.heap.size + 1), 1, none⟩ = false ∧ Kept (wC.heap.size + 1) wE wx))
        (first | with_reducible assumption | with_reducible exact h4_set1 (h4_set0 (by with_reducible assumption) _) _ | exact h4_mk (Kept.refl _ _).drew r0 r1 rf0 rf1 | exact h5_drew (h4_set1 (h4_set0 (h4_mk (Kept.refl _ _) r0 r1 rf0 rf1) _) _))
        (first | (go_at_call 66; refine (l01Sign_c _ _).mono ?_; rintro e w' ⟨rfl, rfl⟩))
      go_wp2_with fail
      all_goals go_region
      all_goals go_wp2
      all_goals refine bodyPost_retE rfl ?_
      all_goals simp [results, Try.results26, go_sem, *]
      all_goals exact (by repeat (first | with_reducible exact Below.refl _ _ | with_reducible assumption | with_reducible refine Below.drew ?_ | with_reducible refine Below.alloc ?_ (by first | exact Nat.le_refl _ | (simp; done) | (simp; omega) | omega) _ | with_reducible refine Below.setCell ?_ (by first | exact Nat.le_refl _ | (simp; done) | (simp; omega) | omega) _ | with_reducible refine Below.trans ?_ (Kept.below (by with_reducible assumption) (by with_reducible assumption) (by first | exact Nat.le_refl _ | (simp; done) | (simp; omega) | omega)) | with_reducible refine Below.trans ?_ (Below.mono (by with_reducible assumption) (by first | exact Nat.le_refl _ | (simp; done) | (simp; omega) | omega))))
    · skip
      go_wp2_with fail
      all_goals go_region
      all_goals go_wp2
      all_goals refine bodyPost_retE rfl ?_
      all_goals simp [results, Try.results26, go_sem, *]
      all_goals exact (by repeat (first | with_reducible exact Below.refl _ _ | with_reducible assumption | with_reducible refine Below.drew ?_ | with_reducible refine Below.alloc ?_ (by first | exact Nat.le_refl _ | (simp; done) | (simp; omega) | omega) _ | with_reducible refine Below.setCell ?_ (by first | exact Nat.le_refl _ | (simp; done) | (simp; omega) | omega) _ | with_reducible refine Below.trans ?_ (Kept.below (by with_reducible assumption) (by with_reducible assumption) (by first | exact Nat.le_refl _ | (simp; done) | (simp; omega) | omega)) | with_reducible refine Below.trans ?_ (Below.mono (by with_reducible assumption) (by first | exact Nat.le_refl _ | (simp; done) | (simp; omega) | omega))))
  · have hr9 : ¬ r = 0 := by omega
    go_upto_region 6 with fail
    go_wp2_with fail
    (refine (l01NextN_c g a n cap _ _ hn (by repeat (first | with_reducible assumption | with_reducible exact HS.out | with_reducible exact And.left (by with_reducible assumption) | with_reducible refine Src.drew ?_ | with_reducible refine Src.alloc ?_ _ | with_reducible refine Src.put1 ?_ (by first | omega | (simp; omega)) (by first | omega | (simp; omega)) | with_reducible refine Src.put2 ?_ (by first | omega | (simp; omega)) (by first | omega | (simp; omega)) | with_reducible refine Src.setCell ?_ (by first | assumption | (simp; done) | (simp; omega) | omega) _ | with_reducible refine Src.below ?_ (by with_reducible assumption)))).mono ?_; rintro e w1 ⟨⟨r, rfl, hr1, hr2⟩, hs, hk⟩; (try simp at hr1); (try clear hr2); (first | obtain ⟨hr1, hr3⟩ := hr1 | clear hr1); obtain ⟨hc, hf⟩ := kcell hk; (try simp only [World.size_drew] at hc hf); have hz := hk.size; have hgl := hs.lt; (try simp at hz); have hlx := kept_lt hk; have hly := kept_le hk; have hlz := kept_lt1 hk; have hlw := kept_lt2 hk; (try simp only [World.size_drew] at hlx hly hlz hlw); (try have hz0 : w.heap.size ≤ w1.heap.size := by omega); (try have hz1 : w.heap.size < w1.heap.size := by omega); (try have hz2 : w.heap.size + 1 < w1.heap.size := by omega); (try have hz3 : w.heap.size + 1 + 1 < w1.heap.size := by omega); (try have hz4 : w.heap.size + 1 + 1 + 1 < w1.heap.size := by omega); have hn0 := Nat.ne_of_gt hs.lt; have hn1 := Nat.ne_of_gt (Nat.lt_succ_of_lt hs.lt); have hn2 := Nat.ne_of_gt (Nat.lt_succ_of_lt (Nat.lt_succ_of_lt hs.lt)); (try simp only [Nat.succ_eq_add_one] at hn1 hn2); (try (obtain ⟨hc0, hf0⟩ := kcell (Kept.trans (by first | with_reducible assumption | with_reducible exact Kept.alloc (by with_reducible assumption) _ | with_reducible exact Kept.drew (by with_reducible assumption) | with_reducible exact Kept.drew (Kept.alloc (by with_reducible assumption) _) | with_reducible exact Kept.alloc (Kept.drew (by with_reducible assumption)) _ | with_reducible exact Kept.alloc (Kept.alloc (by with_reducible assumption) _) _) hk); (try simp only [World.size_drew] at hc0 hf0); have hlx0 := kept_lt (Kept.trans (by first | with_reducible assumption | with_reducible exact Kept.alloc (by with_reducible assumption) _ | with_reducible exact Kept.drew (by with_reducible assumption) | with_reducible exact Kept.drew (Kept.alloc (by with_reducible assumption) _) | with_reducible exact Kept.alloc (Kept.drew (by with_reducible assumption)) _ | with_reducible exact Kept.alloc (Kept.alloc (by with_reducible assumption) _) _) hk); have hly0 := kept_le (Kept.trans (by first | with_reducible assumption | with_reducible exact Kept.alloc (by with_reducible assumption) _ | with_reducible exact Kept.drew (by with_reducible assumption) | with_reducible exact Kept.drew (Kept.alloc (by with_reducible assumption) _) | with_reducible exact Kept.alloc (Kept.drew (by with_reducible assumption)) _ | with_reducible exact Kept.alloc (Kept.alloc (by with_reducible assumption) _) _) hk); have hlz0 := kept_lt1 (Kept.trans (by first | with_reducible assumption | with_reducible exact Kept.alloc (by with_reducible assumption) _ | with_reducible exact Kept.drew (by with_reducible assumption) | with_reducible exact Kept.drew (Kept.alloc (by with_reducible assumption) _) | with_reducible exact Kept.alloc (Kept.drew (by with_reducible assumption)) _ | with_reducible exact Kept.alloc (Kept.alloc (by with_reducible assumption) _) _) hk); (try simp only [World.size_drew] at hlx0 hly0 hlz0))))
    obtain ⟨wE, hwE⟩ : ∃ x : World, x = w1 := ⟨_, rfl⟩
    subst hwE
    have KE : Below w.heap.size w wE := (by repeat (first | with_reducible exact Below.refl _ _ | with_reducible assumption | with_reducible refine Below.drew ?_ | with_reducible refine Below.alloc ?_ (by first | exact Nat.le_refl _ | (simp; done) | (simp; omega) | omega) _ | with_reducible refine Below.setCell ?_ (by first | exact Nat.le_refl _ | (simp; done) | (simp; omega) | omega) _ | with_reducible refine Below.trans ?_ (Kept.below (by with_reducible assumption) (by with_reducible assumption) (by first | exact Nat.le_refl _ | (simp; done) | (simp; omega) | omega)) | with_reducible refine Below.trans ?_ (Below.mono (by with_reducible assumption) (by first | exact Nat.le_refl _ | (simp; done) | (simp; omega) | omega))))
    have h00 : w.heap.size < wE.heap.size := by omega
    have h01 : w.heap.size < wE.heap.size + 1 := by omega
    have h02 : w.heap.size < wE.heap.size + 1 + 1 := by omega
    have h10 : w.heap.size + 1 < wE.heap.size := by omega
    have h11 : w.heap.size + 1 < wE.heap.size + 1 := by omega
    have h12 : w.heap.size + 1 < wE.heap.size + 1 + 1 := by omega
    have h20 : w.heap.size + 1 + 1 < wE.heap.size := by omega
    have h21 : w.heap.size + 1 + 1 < wE.heap.size + 1 := by omega
    have h22 : w.heap.size + 1 + 1 < wE.heap.size + 1 + 1 := by omega
    have h30 : wA.heap.size < wE.heap.size := by omega
    have h31 : wA.heap.size < wE.heap.size + 1 := by omega
    have h32 : wA.heap.size < wE.heap.size + 1 + 1 := by omega
    have h40 : wC.heap.size < wE.heap.size := by omega
    have h41 : wC.heap.size < wE.heap.size + 1 := by omega
    have h42 : wC.heap.size < wE.heap.size + 1 + 1 := by omega
    have h50 : wC.heap.size + 1 < wE.heap.size := by omega
    have h51 : wC.heap.size + 1 < wE.heap.size + 1 := by omega
    have h52 : wC.heap.size + 1 < wE.heap.size + 1 + 1 := by omega
    have m0 : wE.cell? ⟨w.heap.size, 0, none⟩ = some (.int .i64 0) := by simp [go_sem, *]
    have m1 : wE.cell? ⟨w.heap.size, 1, none⟩ = some (.int .i64 0) := by simp [go_sem, *]
    have m2 : wE.cell? ⟨w.heap.size, 2, none⟩ = some (.int .i64 0) := by simp [go_sem, *]
    have m3 : wE.cell? ⟨w.heap.size, 3, none⟩ = some (.int .i64 0) := by simp [go_sem, *]
    have n0 : wE.cell? ⟨w.heap.size + 1, 0, none⟩ = some (.int .i64 0) := by simp [go_sem, *]
    have n1 : wE.cell? ⟨w.heap.size + 1, 1, none⟩ = some (.int .i64 0) := by simp [go_sem, *]
    have o0 : wE.cell? ⟨w.heap.size + 1 + 1, 0, none⟩ = some (.int .i64 0) := by simp [go_sem, *]
    have o1 : wE.cell? ⟨w.heap.size + 1 + 1, 1, none⟩ = some (.int .i64 0) := by simp [go_sem, *]
    have mf0 : wE.frozen? ⟨w.heap.size, 0, none⟩ = false := by simp [go_sem, *]
    have mf1 : wE.frozen? ⟨w.heap.size, 1, none⟩ = false := by simp [go_sem, *]
    have mf2 : wE.frozen? ⟨w.heap.size, 2, none⟩ = false := by simp [go_sem, *]
    have mf3 : wE.frozen? ⟨w.heap.size, 3, none⟩ = false := by simp [go_sem, *]
    have nf0 : wE.frozen? ⟨w.heap.size + 1, 0, none⟩ = false := by simp [go_sem, *]
    have nf1 : wE.frozen? ⟨w.heap.size + 1, 1, none⟩ = false := by simp [go_sem, *]
    have of0 : wE.frozen? ⟨w.heap.size + 1 + 1, 0, none⟩ = false := by simp [go_sem, *]
    have of1 : wE.frozen? ⟨w.heap.size + 1 + 1, 1, none⟩ = false := by simp [go_sem, *]
    have p0 : wE.cell? ⟨wA.heap.size, 0, none⟩ = some (.int .i64 x) := by simp [go_sem, *]
    have p1 : wE.cell? ⟨wA.heap.size, 1, none⟩ = some (.int .i64 y) := by simp [go_sem, *]
    have p2 : wE.cell? ⟨wA.heap.size, 2, none⟩ = some (.int .i64 z) := by simp [go_sem, *]
    have p3 : wE.cell? ⟨wA.heap.size, 3, none⟩ = some (.int .i64 u) := by simp [go_sem, *]
    have pf0 : wE.frozen? ⟨wA.heap.size, 0, none⟩ = false := by simp [go_sem, *]
    have pf1 : wE.frozen? ⟨wA.heap.size, 1, none⟩ = false := by simp [go_sem, *]
    have pf2 : wE.frozen? ⟨wA.heap.size, 2, none⟩ = false := by simp [go_sem, *]
    have pf3 : wE.frozen? ⟨wA.heap.size, 3, none⟩ = false := by simp [go_sem, *]
    have q0 : wE.cell? ⟨wC.heap.size, 0, none⟩ = some (.int .i64 x1) := by simp [go_sem, *]
    have q1 : wE.cell? ⟨wC.heap.size, 1, none⟩ = some (.int .i64 y1) := by simp [go_sem, *]
    have qf0 : wE.frozen? ⟨wC.heap.size, 0, none⟩ = false := by simp [go_sem, *]
    have qf1 : wE.frozen? ⟨wC.heap.size, 1, none⟩ = false := by simp [go_sem, *]
    have r0 : wE.cell? ⟨wC.heap.size + 1, 0, none⟩ = some (.int .i64 z1) := by simp [go_sem, *]
    have r1 : wE.cell? ⟨wC.heap.size + 1, 1, none⟩ = some (.int .i64 u1) := by simp [go_sem, *]
    have rf0 : wE.frozen? ⟨wC.heap.size + 1, 0, none⟩ = false := by simp [go_sem, *]
    have rf1 : wE.frozen? ⟨wC.heap.size + 1, 1, none⟩ = false := by simp [go_sem, *]
    clear hk hc hf hlx hly hlz hlw
    go_upto_region 7 with fail
    · skip
      go_region_held3 (fun wx => ((∀ b o, b < wE.heap.size → b ≠ (wC.heap.size + 1) → wx.cell? ⟨b, o, none⟩ = wE.cell? ⟨b, o, none⟩) ∧ wx.cell? ⟨(wC.heap.size + 1), 0, none⟩ = some (.int .i64 (rd wx ⟨(wC.heap.size + 1), 0, none⟩)) ∧ wx.cell? ⟨(wC.heap.size + 1), 1, none⟩ = some (.int .i64 (rd wx ⟨(wC.heap.size + 1), 1, none⟩)) ∧ wx.frozen? ⟨(wC.heap.size + 1), 0, none⟩ = false ∧ wx.frozen? ⟨(wC.heap.size + 1), 1, none⟩ = false ∧ Kept (wC.heap.size + 1) wE wx))
        (first | with_reducible assumption | with_reducible exact h4_set1 (h4_set0 (by with_reducible assumption) _) _ | exact h4_mk (Kept.refl _ _).drew r0 r1 rf0 rf1 | exact h5_drew (h4_set1 (h4_set0 (h4_mk (Kept.refl _ _) r0 r1 rf0 rf1) _) _))
        (first | (go_at_call 66; refine (l01Sign_c _ _).mono ?_; rintro e w' ⟨rfl, rfl⟩))
      go_wp2_with fail
      all_goals go_region
      all_goals go_wp2
      all_goals refine bodyPost_retE rfl ?_
      all_goals simp [results, Try.results26, go_sem, *]
      all_goals exact (by repeat (first | with_reducible exact Below.refl _ _ | with_reducible assumption | with_reducible refine Below.drew ?_ | with_reducible refine Below.alloc ?_ (by first | exact Nat.le_refl _ | (simp; done) | (simp; omega) | omega) _ | with_reducible refine Below.setCell ?_ (by first | exact Nat.le_refl _ | (simp; done) | (simp; omega) | omega) _ | with_reducible refine Below.trans ?_ (Kept.below (by with_reducible assumption) (by with_reducible assumption) (by first | exact Nat.le_refl _ | (simp; done) | (simp; omega) | omega)) | with_reducible refine Below.trans ?_ (Below.mono (by with_reducible assumption) (by first | exact Nat.le_refl _ | (simp; done) | (simp; omega) | omega))))
    · skip
      go_wp2_with fail
      all_goals go_region
      all_goals go_wp2
      all_goals refine bodyPost_retE rfl ?_
      all_goals simp [results, Try.results26, go_sem, *]
      all_goals exact (by repeat (first | with_reducible exact Below.refl _ _ | with_reducible assumption | with_reducible refine Below.drew ?_ | with_reducible refine Below.alloc ?_ (by first | exact Nat.le_refl _ | (simp; done) | (simp; omega) | omega) _ | with_reducible refine Below.setCell ?_ (by first | exact Nat.le_refl _ | (simp; done) | (simp; omega) | omega) _ | with_reducible refine Below.trans ?_ (Kept.below (by with_reducible assumption) (by with_reducible assumption) (by first | exact Nat.le_refl _ | (simp; done) | (simp; omega) | omega)) | with_reducible refine Below.trans ?_ (Below.mono (by with_reducible assumption) (by first | exact Nat.le_refl _ | (simp; done) | (simp; omega) | omega))))
end Go.Proofs.Ytiinhelljcgeaaa
