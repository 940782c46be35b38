/-
  Filling a row with marks and reading them again; comparing rows of fixes. Conditions: the row is the caller's own; its length is small.
-/
import Derived.Test.YtdepdkpehbkcjaaL03e
import Derived.Test.YtdepdkpehbkcjaaDraw
import Derived.Maps.AppendAt
import Derived.Maps.Range
import Derived.Deep.AppendLies
namespace Go.Proofs.Ytdepdkpehbkcjaa
set_option linter.unusedVariables false
open Go.RowKit Go.Deep

def marks (k : Int) (n : Nat) : List Value := (List.range n).map fun (i : Nat) => Value.int .i64 (k + (i : Int))
def mixed (xs : List Value) (k : Int) (m : Nat) : List Value := marks k m ++ xs.drop m
theorem marks_len (k : Int) (n : Nat) : (marks k n).length = n := by simp [marks]
theorem marks_get {k : Int} {n i : Nat} (h : i < n) : (marks k n)[i]? = some (.int .i64 (k + (i : Int))) := by simp [marks, h]
theorem mixed_zero (xs : List Value) (k : Int) : mixed xs k 0 = xs := by simp [mixed, marks]
theorem mixed_all {xs : List Value} {n : Nat} (k : Int) (h : xs.length = n) : mixed xs k n = marks k n := by simp [mixed, h]
theorem mixed_len {xs : List Value} {k : Int} {m : Nat} (h : m ≤ xs.length) : (mixed xs k m).length = xs.length := by simp [mixed, marks_len]; omega
theorem mixed_set {xs : List Value} {k : Int} {m : Nat} (h : m < xs.length) : (mixed xs k m).set m (.int .i64 (k + (m : Int))) = mixed xs k (m + 1) := by
  unfold mixed
  rw [List.set_append_right _ _ (by rw [marks_len]; exact Nat.le_refl _), marks_len, Nat.sub_self, List.drop_eq_getElem_cons h, List.set_cons_zero]
  simp [marks, List.range_succ]
theorem mixed_set3 {xs : List Value} {k : Int} {j : Nat} (h : j * 3 + 2 < xs.length) {z : Int} (hz : z = k + ((j * 3 : Nat) : Int)) :
    (((mixed xs k (j * 3)).set (j * 3) (.int .i64 z)).set (j * 3 + 1) (.int .i64 (z + 1))).set (j * 3 + 2) (.int .i64 (z + 1 + 1)) = mixed xs k ((j + 1) * 3) := by
  subst hz
  rw [mixed_set (by omega), show k + ((j * 3 : Nat) : Int) + 1 = k + ((j * 3 + 1 : Nat) : Int) by omega, mixed_set (by omega),
    show k + ((j * 3 + 1 : Nat) : Int) + 1 = k + ((j * 3 + 2 : Nat) : Int) by omega, mixed_set (by omega), show (j + 1) * 3 = j * 3 + 2 + 1 by omega]
theorem own_some {w : World} {base size n cap : Nat} {e : TypeId} {a : Option Addr} {xs : List Value} (h : w.ownsRow base e size (.slice a n cap) n xs) (hn : 0 < n) : ∃ g, a = some ⟨g, 0, none⟩ ∧ base ≤ g ∧ g < w.heap.size := by
  obtain ⟨g, cap', hv, h1, h2⟩ := h.form hn
  simp at hv
  exact ⟨g, hv.1, h1, h2⟩
set_option maxHeartbeats 2000000 in
theorem markFixS_c (a : Option Addr) (n cap : Nat) (k : Int) (base : Nat) (xs : List Value) (w : World) (hn : n ≤ 4194304) (h0 : 0 ≤ k) (hk : k ≤ 4194304) (ho : w.ownsRow base 32 3 (.slice a n cap) n xs) :
    Calls Try.prog 99 #[.slice a n cap, .int .i64 k] w fun e w' => e = .returned (.int .i64 (k + ((n * 3 : Nat) : Int))) ∧ w'.ownsRow base 32 3 (.slice a n cap) n (marks k (n * 3)) ∧ w.grownBy w' (Value.slice a n cap).ownBlock := by
  have hxs : xs.length = n * 3 := ho.1
  have HO := Lib.hid ho
  clear ho
  go_enter Try.func99, Try.ntmps99
  go_wp2
  go_loopw [1, 5] (fun x y wr => ∃ (j : Nat) (z : Int), x = .int .i64 z ∧ y = .int .i64 j ∧ Hid (z = k + ((j * 3 : Nat) : Int)) ∧ j ≤ n ∧ Hid (wr.ownsRow base 32 3 (.slice a n cap) n (mixed xs k (j * 3))) ∧ w.grownBy wr (Value.slice a n cap).ownBlock) (fun _ y _ => n - (intOf y).toNat)
  case atStart => exact ⟨0, k, rfl, rfl, Lib.hid (by simp), Nat.zero_le _, Lib.hid (by rw [Nat.zero_mul, mixed_zero]; exact HO.out), World.grownBy.refl _ _⟩
  case round =>
    obtain ⟨j, z, rfl, rfl, hz, hj, hor, hgr⟩ := hrel
    have z0 : 0 ≤ z := by have := hz.out; omega
    have z1 : z ≤ 33554432 := by have := hz.out; omega
    by_cases h : j < n
    · have hor' := hor.out
      obtain ⟨g, rfl, hbg, hlt⟩ := own_some hor' (by omega)
      have hml : (mixed xs k (j * 3)).length = n * 3 := by rw [mixed_len (by omega), hxs]
      have g0 := (hor'.cellAt (j * 3) (by omega)).trans (List.getElem?_eq_getElem (by omega))
      have g1 := (hor'.cellAt (j * 3 + 1) (by omega)).trans (List.getElem?_eq_getElem (by omega))
      have g2 := (hor'.cellAt (j * 3 + 2) (by omega)).trans (List.getElem?_eq_getElem (by omega))
      have q0 := hor'.frozenAt (j * 3)
      have q1 := hor'.frozenAt (j * 3 + 1)
      have q2 := hor'.frozenAt (j * 3 + 2)
      generalize (mixed xs k (j * 3))[j * 3]'(by omega) = u0 at g0
      generalize (mixed xs k (j * 3))[j * 3 + 1]'(by omega) = u1 at g1
      generalize (mixed xs k (j * 3))[j * 3 + 2]'(by omega) = u2 at g2
      have s0 := hor'.stored (j * 3) (.int .i64 z)
      have s1 := s0.1.stored (j * 3 + 1) (.int .i64 (z + 1))
      have s2 := s1.1.stored (j * 3 + 2) (.int .i64 (z + 1 + 1))
      rw [mixed_set3 (by omega) hz.out] at s2
      have S := Lib.hid s2.1
      have G := Lib.hid (hgr.trans (s0.2.trans (s1.2.trans s2.2)))
      have h' : (j : Int) < (n : Int) := by omega
      clear s0 s1 s2 hor hor' hgr hml
      go_wp2
      refine ⟨⟨j + 1, z + 1 + 1 + 1, by simp, by simp, Lib.hid (by have := hz.out; omega), by omega, ?_, ?_⟩, by simp [intOf]; omega⟩
      · exact S
      · exact G.out
    · obtain rfl : j = n := by omega
      have h' : ¬ (j : Int) < (j : Int) := by omega
      go_wp2
      go_ret
      exact ⟨ret_int hz.out, by rw [← mixed_all k hxs]; exact hor.out, hgr⟩
set_option maxHeartbeats 1000000 in
theorem markTrack_c (a : Option Addr) (n cap : Nat) (k : Int) (base : Nat) (xs : List Value) (w : World) (hn : n ≤ 4194304) (h0 : 0 ≤ k) (hk : k ≤ 4194304) (ho : w.ownsRow base 32 3 (.slice a n cap) n xs) :
    Calls Try.prog 46 #[.agg #[.slice a n cap], .int .i64 k] w fun e w' => e = .returned (.int .i64 (k + ((n * 3 : Nat) : Int))) ∧ w'.ownsRow base 32 3 (.slice a n cap) n (marks k (n * 3)) ∧ w.grownBy w' (Value.slice a n cap).ownBlock := by
  have HO := Lib.hid ho
  clear ho
  go_enter Try.func46, Try.ntmps46
  go_wp2_with (go_at_call 99; refine (markFixS_c a n cap k base xs _ hn h0 hk (HO.out.alloc _)).mono ?_; rintro e w1 ⟨rfl, ho, hg⟩)
  go_ret
  exact ⟨rfl, ho, (World.grownBy_alloc _ _ _).trans hg⟩
end Go.Proofs.Ytdepdkpehbkcjaa
