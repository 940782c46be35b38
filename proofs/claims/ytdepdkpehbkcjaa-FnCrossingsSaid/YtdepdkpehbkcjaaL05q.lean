/-
  Lists of crossings, continued: plain facts on the order and the times of crossings; comparing two lists. Conditions stand with each.
-/
import Derived.Test.YtdepdkpehbkcjaaL05j
import Derived.Test.YtdepdkpehbkcjaaL05k
namespace Go.Proofs.Ytdepdkpehbkcjaa
set_option linter.unusedVariables false
open Go.RowKit Go.Deep

theorem cr_left {A B : List Cr} {i : Nat} (h : i < A.length) : cr (A ++ B) i = cr A i := by
  unfold cr
  rw [List.getD_eq_getElem?_getD, List.getD_eq_getElem?_getD, List.getElem?_append_left h]
theorem cr_last {A : List Cr} {c : Cr} : cr (A ++ [c]) A.length = c := by
  unfold cr
  rw [List.getD_eq_getElem?_getD, List.getElem?_append_right (Nat.le_refl _)]
  simp
theorem crs_leg {l : List Fx} {ax ay bx cy : Int} {K i : Nat} (h : i < (crs l ax ay bx cy K).length) : (cr (crs l ax ay bx cy K) i).leg < K := by
  obtain ⟨k, h1, _, h3⟩ := crs_mem h
  rw [h3]
  show (k : Int) < K
  omega
theorem crs_sorted {l : List Fx} {ax ay bx cy : Int} : ∀ {K i : Nat}, i + 1 < (crs l ax ay bx cy K).length → (cr (crs l ax ay bx cy K) i).leg < (cr (crs l ax ay bx cy K) (i + 1)).leg
  | 0, i, h => by simp [crs] at h
  | K + 1, i, h => by
    by_cases hw : wayL l ax ay bx cy K = 0
    · rw [crs_no hw] at h ⊢
      exact crs_sorted h
    · rw [crs_yes hw] at h ⊢
      simp only [List.length_append, List.length_cons, List.length_nil] at h
      by_cases hi : i + 1 < (crs l ax ay bx cy K).length
      · rw [cr_left hi, cr_left (by omega)]
        exact crs_sorted hi
      · have e : i + 1 = (crs l ax ay bx cy K).length := by omega
        rw [cr_left (show i < (crs l ax ay bx cy K).length by omega), e, cr_last]
        exact crs_leg (by omega)
theorem lap_le {f p d n : Int} (hd : 1 ≤ d) (h1 : n ≤ d) (hp : 0 ≤ p) (h : 0 < p * n % d) : p * n / d + 1 ≤ p := by
  have e := Int.mul_ediv_add_emod (p * n) d
  have h2 : p * n ≤ p * d := Int.mul_le_mul_of_nonneg_left h1 hp
  have h3 : d * (p * n / d) < d * p := by rw [Int.mul_comm d p]; omega
  have := Int.lt_of_mul_lt_mul_left h3 (by omega)
  omega
/-- what is so of each crossing of a track, in its list -/
theorem crL_law {l : List Fx} {ax ay bx cy : Int} (hT : isTrk l = true) (es : isSeg ax ay bx cy = true) {i : Nat} (h : i < (crL l ax ay bx cy).length) : ∃ k : Nat, k + 1 < l.length ∧ (cr (crL l ax ay bx cy) i).leg = (k : Int) ∧ wayR ax ay bx cy (fx l k).x (fx l k).y (fx l (k + 1)).x (fx l (k + 1)).y = ((cr (crL l ax ay bx cy) i).way, 0) ∧ (fx l k).t ≤ (cr (crL l ax ay bx cy) i).t ∧ (cr (crL l ax ay bx cy) i).t ≤ (fx l (k + 1)).t := by
  obtain ⟨hA, hB, _⟩ := isSeg_true es
  unfold crL at h ⊢
  obtain ⟨k, h1, h2, h3⟩ := crs_mem h
  have h4 : k + 1 < l.length := by omega
  obtain ⟨_, _, n0, n1, n2, n3⟩ := cr_facts hT hA hB h4 h2
  obtain ⟨hp, hq, _, _, ht⟩ := leg_facts hT h4
  rw [h3]
  refine ⟨k, h4, rfl, ?_, ?_⟩
  · simp only [wayR, es, hp, hq, Bool.and_self, if_true]; rfl
  · have h5 := cr_time hT h4 n0 n1 n2
    have h6 : lapZ l k = (fx l (k + 1)).t - (fx l k).t := rfl
    have h7 := @lap_le 0 (lapZ l k) (crD l ax ay bx cy k) (crN l ax ay bx cy k) n2 n1 (by omega)
    show (fx l k).t ≤ crT l ax ay bx cy k ∧ crT l ax ay bx cy k ≤ _
    unfold crT
    unfold wholeZ restZ at *
    split <;> omega
theorem crPt_ok {l : List Fx} {ax ay bx cy : Int} (hT : isTrk l = true) (es : isSeg ax ay bx cy = true) {i : Nat} (h : i < (crL l ax ay bx cy).length) : ∃ x y : Int, crPtR l ax ay bx cy (i : Int) = (x, y, 0) := by
  have hi : inR (i : Int) 0 (((crL l ax ay bx cy).length : Int) - 1) = true := by simp [inR]; omega
  unfold crPtR
  rw [if_pos ⟨hT, es⟩, if_pos hi]
  exact ⟨_, _, rfl⟩
set_option maxHeartbeats 1000000 in
theorem w9Crossings_c (a a' : Option Addr) (cap cap' : Nat) (L : List Cr) (w : World) (hl : L.length ≤ 4611686018427387904) (hf : RowAt w a (crFlat L)) (hf' : RowAt w a' (crFlat L)) : Calls Try.prog 50 #[.slice a L.length cap, .slice a' L.length cap'] w fun e w' => e = .returned (.bool true) ∧ Below w.heap.size w w' := by
  have H0 := Lib.hid hf
  have H1 := Lib.hid hf'
  clear hf hf'
  go_enter Try.func50, Try.ntmps50
  go_wp2
  go_loopw [5] (fun x wr => ∃ k : Nat, x = .int .i64 k ∧ k ≤ L.length ∧ Below w.heap.size w wr) (fun x _ => L.length - (intOf x).toNat)
  case atStart => exact ⟨0, rfl, Nat.zero_le _, Below.refl _ _⟩
  case round =>
    obtain ⟨k, rfl, hk, hbl⟩ := hrel
    by_cases h : k < L.length
    · obtain ⟨b, off, rfl, hlt, c0, c1, c2, c3, c4⟩ := row_cell' (H0.out.below hbl) h
      obtain ⟨b', off', rfl, hlt', d0, d1, d2, d3, d4⟩ := row_cell' (H1.out.below hbl) h
      have h' : (k : Int) < (L.length : Int) := by omega
      generalize cr L k = x at *
      go_wp2
      refine wp_region_later (by kernel_rfl) (by kernel_rfl) ?_
      repeat (first | go_big_quiet_step (fail) | quiet_step (fail))
      refine wpQuiet_nil ?_
      intro _ hw'
      obtain ⟨s1, hw''⟩ := hw'
      subst hw''
      have hb1 := s1.below
      generalize s1.w = w1 at hb1 ⊢
      clear s1
      try replace hb1 := below_trans (by with_reducible assumption) hb1
      obtain ⟨hc1, hf1⟩ := bcell hb1
      have hz1 := hb1.size
      try simp at hz1
      try have hz10 : w.heap.size ≤ w1.heap.size := by omega
      try have hz11 : w.heap.size < w1.heap.size := by omega
      try have hz12 : w.heap.size + 1 < w1.heap.size := by omega
      try have hz13 : w.heap.size + 1 + 1 < w1.heap.size := by omega
      try have hz14 : w.heap.size + 1 + 1 + 1 < w1.heap.size := by omega
      go_wp2
      refine ⟨⟨k + 1, by simp, by omega, ?_⟩, by simp [intOf]; omega⟩
      exact hb1
    · have h' : (L.length : Int) ≤ (k : Int) := by omega
      go_wp2
      go_ret
      exact ⟨rfl, hbl⟩
end Go.Proofs.Ytdepdkpehbkcjaa
