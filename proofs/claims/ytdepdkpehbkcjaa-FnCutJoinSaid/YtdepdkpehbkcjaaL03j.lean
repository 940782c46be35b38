/-
  The way of a leg, its speed: the program's and the reference's. Conditions: the cells lie in the world; what else stands with each.
-/
import Derived.Test.YtdepdkpehbkcjaaL03g
namespace Go.Proofs.Ytdepdkpehbkcjaa
set_option linter.unusedVariables false
open Go.RowKit Go.Deep

set_option maxHeartbeats 1600000 in
theorem wayOf_c (a : Option Addr) (cap : Nat) (l : List Fx) (k : Nat) (w : World) (hl : l.length ≤ 4611686018427387904) (hk : k + 1 < l.length) (hp : isPt (fx l k).x (fx l k).y = true) (hq : isPt (fx l (k + 1)).x (fx l (k + 1)).y = true) (hf : FixAt w a l) : Calls Try.prog 57 #[.agg #[.slice a l.length cap], .int .i64 k] w fun e w' => e = .returned (.agg #[.int .i64 ((fx l (k + 1)).x - (fx l k).x), .int .i64 ((fx l (k + 1)).y - (fx l k).y)]) ∧ Below w.heap.size w w' := by
  obtain ⟨p1, p2, p3, p4⟩ := isPt_true hp
  obtain ⟨q1, q2, q3, q4⟩ := isPt_true hq
  clear hp hq
  obtain ⟨b, off, rfl, hlt, hcs⟩ := hf.head (by omega)
  obtain ⟨c0, c1, c2⟩ := hcs k (by omega)
  obtain ⟨m, hm⟩ : ∃ m, m = k + 1 := ⟨_, rfl⟩
  obtain ⟨d0, d1, d2⟩ := hcs m (by omega)
  clear hcs hf
  have h1 : (k : Int) < (l.length : Int) := by omega
  have h2 : (m : Int) < (l.length : Int) := by omega
  have e1 : (k : Int) + 1 = (m : Int) := by omega
  have e2 : IntKind.i64.wrap (m : Int) = (m : Int) := by rw [IntKind.wrap_i64]; omega
  have hlt1 : b < w.heap.size + 1 := by omega
  have hlt2 : b < w.heap.size + 1 + 1 := by omega
  have hlt3 : b < w.heap.size + 1 + 1 + 1 := by omega
  have hlt4 : b < w.heap.size + 1 + 1 + 1 + 1 := by omega
  simp only [← hm] at *
  clear hm
  go_enter Try.func57, Try.ntmps57
  go_wp2
  go_region
  all_goals go_wp2
  all_goals exact bodyPost_ret (v := .agg #[.int .i64 ((fx l m).x - (fx l k).x), .int .i64 ((fx l m).y - (fx l k).y)]) (by simp [results, Try.results57, go_sem, *]) rfl ⟨rfl, (by repeat (first | with_reducible exact Below.refl _ _ | with_reducible assumption | with_reducible refine Below.drew ?_ | with_reducible refine Below.alloc ?_ (by first | exact Nat.le_refl _ | (simp; done) | (simp; omega) | omega) _ | with_reducible refine Below.setCell ?_ (by first | exact Nat.le_refl _ | (simp; done) | (simp; omega) | omega) _ | with_reducible refine Below.trans ?_ (Below.mono (by with_reducible assumption) (by first | exact Nat.le_refl _ | (simp; done) | (simp; omega) | omega))))⟩
set_option maxHeartbeats 1600000 in
theorem l03Heading_c (a : Option Addr) (cap : Nat) (l : List Fx) (k : Nat) (w : World) (hl : l.length ≤ 4611686018427387904) (hk : k + 1 < l.length) (hp : isPt (fx l k).x (fx l k).y = true) (hq : isPt (fx l (k + 1)).x (fx l (k + 1)).y = true) (hf : FixAt w a l) : Calls Try.prog 61 #[.agg #[.slice a l.length cap], .int .i64 k] w fun e w' => e = .returned (.agg #[.int .i64 ((fx l (k + 1)).x - (fx l k).x), .int .i64 ((fx l (k + 1)).y - (fx l k).y)]) ∧ Below w.heap.size w w' := by
  obtain ⟨b, off, rfl, hlt, hcs⟩ := hf.head (by omega)
  obtain ⟨c0, c1, c2⟩ := hcs k (by omega)
  obtain ⟨m, hm⟩ : ∃ m, m = k + 1 := ⟨_, rfl⟩
  obtain ⟨d0, d1, d2⟩ := hcs m (by omega)
  clear hcs hf
  have h1 : (k : Int) < (l.length : Int) := by omega
  have h2 : (m : Int) < (l.length : Int) := by omega
  have e1 : (k : Int) + 1 = (m : Int) := by omega
  have e2 : IntKind.i64.wrap (m : Int) = (m : Int) := by rw [IntKind.wrap_i64]; omega
  have hlt1 : b < w.heap.size + 1 := by omega
  have hlt2 : b < w.heap.size + 1 + 1 := by omega
  have hlt3 : b < w.heap.size + 1 + 1 + 1 := by omega
  have hlt4 : b < w.heap.size + 1 + 1 + 1 + 1 := by omega
  simp only [← hm] at *
  clear hm
  go_enter Try.func61, Try.ntmps61
  go_wp2
  go_region_with (first | (go_at_call 90; refine (l03Point_c _ _ _ _).mono ?_; rintro e w1 ⟨rfl, hb⟩; (try replace hb := below_trans (by with_reducible assumption) hb); obtain ⟨hc, hf⟩ := bcell hb; have hz := hb.size; (try simp at hz); (try have hz0 : w.heap.size ≤ w1.heap.size := by omega); (try have hz1 : w.heap.size < w1.heap.size := by omega); (try have hz2 : w.heap.size + 1 < w1.heap.size := by omega); (try have hz3 : w.heap.size + 1 + 1 < w1.heap.size := by omega); (try have hz4 : w.heap.size + 1 + 1 + 1 < w1.heap.size := by omega)) | (go_at_call 105; refine (l01Minus_c _ _ _ _ _ hq hp).mono ?_; rintro e w1 ⟨rfl, hb⟩; (try replace hb := below_trans (by with_reducible assumption) hb); obtain ⟨hc, hf⟩ := bcell hb; have hz := hb.size; (try simp at hz); (try have hz0 : w.heap.size ≤ w1.heap.size := by omega); (try have hz1 : w.heap.size < w1.heap.size := by omega); (try have hz2 : w.heap.size + 1 < w1.heap.size := by omega); (try have hz3 : w.heap.size + 1 + 1 < w1.heap.size := by omega); (try have hz4 : w.heap.size + 1 + 1 + 1 < w1.heap.size := by omega)))
  all_goals go_wp2
  all_goals exact bodyPost_ret (v := .agg #[.int .i64 ((fx l m).x - (fx l k).x), .int .i64 ((fx l m).y - (fx l k).y)]) (by simp [results, Try.results61, go_sem, *]) rfl ⟨rfl, (by repeat (first | with_reducible exact Below.refl _ _ | with_reducible assumption | with_reducible refine Below.drew ?_ | with_reducible refine Below.alloc ?_ (by first | exact Nat.le_refl _ | (simp; done) | (simp; omega) | omega) _ | with_reducible refine Below.setCell ?_ (by first | exact Nat.le_refl _ | (simp; done) | (simp; omega) | omega) _ | with_reducible refine Below.trans ?_ (Below.mono (by with_reducible assumption) (by first | exact Nat.le_refl _ | (simp; done) | (simp; omega) | omega))))⟩
end Go.Proofs.Ytdepdkpehbkcjaa
