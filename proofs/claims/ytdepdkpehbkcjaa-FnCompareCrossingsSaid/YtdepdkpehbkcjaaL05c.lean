/-
  The comparison of two crossings: the program's and the reference's. Conditions: the cells lie in the world.
-/
import Derived.Test.YtdepdkpehbkcjaaL05b
namespace Go.Proofs.Ytdepdkpehbkcjaa
set_option linter.unusedVariables false
open Go.RowKit Go.Deep

theorem cmpR_no1 {l m : List Fx} {i n d j n' d' : Int} (h : isTrk l = false) : cmpCrR l i n d m j n' d' = (0, 1) := by simp [cmpCrR, h]
theorem cmpR_no2 {l m : List Fx} {i n d j n' d' : Int} (h : isTrk m = false) : cmpCrR l i n d m j n' d' = (0, 1) := by simp [cmpCrR, h]
theorem cmpR_no3 {l m : List Fx} {i n d j n' d' : Int} (h1 : isTrk l = true) (h2 : isTrk m = true) (h : rightB l i n d = false) : cmpCrR l i n d m j n' d' = (0, 2) := by simp [cmpCrR, h1, h2, h]
theorem cmpR_no4 {l m : List Fx} {i n d j n' d' : Int} (h1 : isTrk l = true) (h2 : isTrk m = true) (h : rightB m j n' d' = false) : cmpCrR l i n d m j n' d' = (0, 2) := by simp [cmpCrR, h1, h2, h]
theorem cmpR_yes {l m : List Fx} {i n d j n' d' : Int} (h1 : isTrk l = true) (h2 : isTrk m = true) (h3 : rightB l i n d = true) (h4 : rightB m j n' d' = true) : cmpCrR l i n d m j n' d' = (cmpCr l i n d m j n' d', 0) := by simp [cmpCrR, h1, h2, h3, h4]
theorem leg_nat {i : Int} {n : Nat} (h : inR i 0 ((n : Int) - 2) = true) : ∃ k : Nat, i = k ∧ k + 1 < n := by
  have := inR_true h
  exact ⟨i.toNat, by omega, by omega⟩
theorem cr_bd {l : List Fx} {k : Nat} {n d : Int} (e1 : isTrk l = true) (hk : k + 1 < l.length) (hp : placeOK n d = true) : 0 ≤ wholeZ l k n d ∧ wholeZ l k n d ≤ 1000000000 ∧ 0 ≤ restZ l k n d ∧ restZ l k n d ≤ 100000000000000 := by
  obtain ⟨n1, n2, n3, n4⟩ := placeOK_true hp
  obtain ⟨_, _, a, b, c⟩ := leg_facts e1 hk
  have hl : lapZ l k = (fx l (k + 1)).t - (fx l k).t := rfl
  have h2 := place_bd (d := lapZ l k) (n := n) (m := d) (k := lapZ l k) n1 n3 n4 (by omega) (by omega) (Int.le_refl _)
  have h3 : 0 ≤ lapZ l k * n / d := Int.ediv_nonneg (Int.mul_nonneg (by omega) n3) (by omega)
  have h4 := Int.emod_nonneg (lapZ l k * n) (show d ≠ 0 by omega)
  have h5 := Int.emod_lt_of_pos (lapZ l k * n) (show 0 < d by omega)
  unfold wholeZ restZ
  omega
set_option maxRecDepth 100000 in
set_option maxHeartbeats 4000000 in
theorem l05Compare_c (a0 a1 : Option Addr) (cap0 cap1 : Nat) (l m : List Fx) (t y n d t' y' n' d' : Int) (k k2 : Nat) (w : World) (hl : l.length ≤ 4611686018427387904) (hm : m.length ≤ 4611686018427387904) (e1 : isTrk l = true) (e2 : isTrk m = true) (hk : k + 1 < l.length) (hk2 : k2 + 1 < m.length) (hp : placeOK n d = true) (hp2 : placeOK n' d' = true) (hf : FixAt w a0 l) (hg : FixAt w a1 m) : Calls Try.prog 77 #[.agg #[.slice a0 l.length cap0], .agg #[.int .i64 t, .int .i64 k, .int .i64 y, .int .i64 n, .int .i64 d], .agg #[.slice a1 m.length cap1], .agg #[.int .i64 t', .int .i64 k2, .int .i64 y', .int .i64 n', .int .i64 d']] w fun e w' => e = .returned (.int .i64 (cmpCr l k n d m k2 n' d')) ∧ Below w.heap.size w w' := by
  have hF0 := Lib.hid hf
  have hG0 := Lib.hid hg
  clear hf hg
  obtain ⟨x1, x2, x3, x4⟩ := cr_bd e1 hk hp
  obtain ⟨y1, y2, y3, y4⟩ := cr_bd e2 hk2 hp2
  obtain ⟨d1, d2, _, _⟩ := placeOK_true hp
  obtain ⟨d3, d4, _, _⟩ := placeOK_true hp2
  have hx := fun w h => l05Exact_c a0 cap0 l t y n d k w hl e1 hk hp h
  have hy := fun w h => l05Exact_c a1 cap1 m t' y' n' d' k2 w hm e2 hk2 hp2 h
  have hv : cmpCr l k n d m k2 n' d' = if wholeZ l k n d = wholeZ m k2 n' d' then cmpZ (restZ l k n d) d (restZ m k2 n' d') d' else sgn (wholeZ l k n d - wholeZ m k2 n' d') := by
    simp only [cmpCr, Int.toNat_natCast]
  generalize wholeZ l k n d = X at *
  generalize wholeZ m k2 n' d' = Y at *
  generalize restZ l k n d = P at *
  generalize restZ m k2 n' d' = Q at *
  have HX := Lib.hid hx
  have HZ := Lib.hid hy
  clear hx hy e1 e2 hp hp2
  rw [hv]
  clear hv
  go_enter Try.func77, Try.ntmps77
  go_wp2_with fail
  obtain ⟨W, hW⟩ : ∃ W, W = (((w.alloc (.cells #[.slice a0 l.length cap0] 26)).alloc (.cells #[.int .i64 t, .int .i64 k, .int .i64 y, .int .i64 n, .int .i64 d] 57)).alloc (.cells #[.slice a1 m.length cap1] 26)).alloc (.cells #[.int .i64 t', .int .i64 k2, .int .i64 y', .int .i64 n', .int .i64 d'] 57) := ⟨_, rfl⟩
  have HD : Below w.heap.size w W := by subst hW; exact (by repeat (first | with_reducible exact Below.refl _ _ | with_reducible assumption | with_reducible refine Below.drew ?_ | with_reducible refine Below.alloc ?_ (by first | exact Nat.le_refl _ | (simp; done) | (simp; omega) | omega) _ | with_reducible refine Below.setCell ?_ (by first | exact Nat.le_refl _ | (simp; done) | (simp; omega) | omega) _ | with_reducible refine Below.trans ?_ (Below.mono (by with_reducible assumption) (by first | exact Nat.le_refl _ | (simp; done) | (simp; omega) | omega))))
  have b20 : W.cell? ⟨w.heap.size + 1 + 1, 0, none⟩ = some (.slice a1 m.length cap1) := by subst hW; simp [go_sem]
  have b30 : W.cell? ⟨w.heap.size + 1 + 1 + 1, 0, none⟩ = some (.int .i64 t') := by subst hW; simp [go_sem]
  have b31 : W.cell? ⟨w.heap.size + 1 + 1 + 1, 1, none⟩ = some (.int .i64 k2) := by subst hW; simp [go_sem]
  have b32 : W.cell? ⟨w.heap.size + 1 + 1 + 1, 2, none⟩ = some (.int .i64 y') := by subst hW; simp [go_sem]
  have b33 : W.cell? ⟨w.heap.size + 1 + 1 + 1, 3, none⟩ = some (.int .i64 n') := by subst hW; simp [go_sem]
  have b34 : W.cell? ⟨w.heap.size + 1 + 1 + 1, 4, none⟩ = some (.int .i64 d') := by subst hW; simp [go_sem]
  have L2 : w.heap.size + 1 + 1 < W.heap.size := by subst hW; simp
  have L3 : w.heap.size + 1 + 1 + 1 < W.heap.size := by subst hW; simp
  rw [← hW]
  clear hW
  generalize w.heap.size + 1 + 1 + 1 = B3 at *
  generalize w.heap.size + 1 + 1 = B2 at *
  refine (HX.out W (FixAt.below hF0.out HD)).mono ?_
  rintro e V1 ⟨rfl, hb⟩
  obtain ⟨hc, hf⟩ := bcell hb
  have hz := hb.size
  have HE : Below w.heap.size w V1 := HD.trans (hb.mono HD.size)
  have b20 := (hc _ 0 L2).trans b20
  have b30 := (hc _ 0 L3).trans b30
  have b31 := (hc _ 1 L3).trans b31
  have b32 := (hc _ 2 L3).trans b32
  have b33 := (hc _ 3 L3).trans b33
  have b34 := (hc _ 4 L3).trans b34
  have L2 : B2 < V1.heap.size := by omega
  have L3 : B3 < V1.heap.size := by omega
  clear hc hf hb HX HD hF0 hz
  go_wp2_with fail
  have HE1 : Below w.heap.size w (V1.alloc (.cells #[.int .i64 P, .int .i64 d] 55)) := HE.alloc HE.size _
  refine (HZ.out _ (FixAt.below hG0.out HE1)).mono ?_
  rintro e V2 ⟨rfl, hb⟩
  have HE2 : Below w.heap.size w V2 := HE1.trans (hb.mono HE1.size)
  have c0 := hb.cell (p := ⟨V1.heap.size, 0, none⟩) (by simp)
  have c1 := hb.cell (p := ⟨V1.heap.size, 1, none⟩) (by simp)
  have hz := hb.size
  simp at c0 c1 hz
  have l4 : V1.heap.size < V2.heap.size := by omega
  have hs2 := HE2.size
  clear hb HE HE1 HZ hG0 b20 b30 b31 b32 b33 b34 L2 L3
  by_cases he : X = Y
  · subst he
    go_wp2_with (go_at_call 112; refine (l02Compare_c _ _ _ _ _ d1 d2 d3 d4 (by omega) (by omega) (by omega) (by omega)).mono ?_; rintro e w1 ⟨rfl, hb⟩; (try replace hb := below_trans (by with_reducible assumption) hb); obtain ⟨hc, hf⟩ := bcell hb; have hz := hb.size; (try simp at hz); (try have hz0 : w.heap.size ≤ w1.heap.size := by omega); (try have hz1 : w.heap.size < w1.heap.size := by omega); (try have hz2 : w.heap.size + 1 < w1.heap.size := by omega); (try have hz3 : w.heap.size + 1 + 1 < w1.heap.size := by omega); (try have hz4 : w.heap.size + 1 + 1 + 1 < w1.heap.size := by omega))
    go_ret
    exact ⟨by first | rfl | simp, (by repeat (first | with_reducible exact Below.refl _ _ | with_reducible assumption | with_reducible refine Below.drew ?_ | with_reducible refine Below.alloc ?_ (by first | exact Nat.le_refl _ | (simp; done) | (simp; omega) | omega) _ | with_reducible refine Below.setCell ?_ (by first | exact Nat.le_refl _ | (simp; done) | (simp; omega) | omega) _ | with_reducible refine Below.trans ?_ (Below.mono (by with_reducible assumption) (by first | exact Nat.le_refl _ | (simp; done) | (simp; omega) | omega))))⟩
  · have he2 : (X == Y) = false := by simpa using he
    go_wp2_with (go_at_call 111; refine (l01Sign_c _ _).mono ?_; rintro e w' ⟨rfl, rfl⟩)
    go_ret
    exact ⟨by first | rfl | simp [he], (by repeat (first | with_reducible exact Below.refl _ _ | with_reducible assumption | with_reducible refine Below.drew ?_ | with_reducible refine Below.alloc ?_ (by first | exact Nat.le_refl _ | (simp; done) | (simp; omega) | omega) _ | with_reducible refine Below.setCell ?_ (by first | exact Nat.le_refl _ | (simp; done) | (simp; omega) | omega) _ | with_reducible refine Below.trans ?_ (Below.mono (by with_reducible assumption) (by first | exact Nat.le_refl _ | (simp; done) | (simp; omega) | omega))))⟩
end Go.Proofs.Ytdepdkpehbkcjaa
