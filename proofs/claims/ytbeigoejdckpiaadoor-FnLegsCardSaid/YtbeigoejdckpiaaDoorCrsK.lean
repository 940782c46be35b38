/-
  Rows of points and of marks, marked and compared by the laws. Conditions stand with each.
-/
import Derived.Test.YtbeigoejdckpiaaDoorCrsI
import Derived.Test.YtbeigoejdckpiaaDoorMark
import Derived.Laws.BytesArg
namespace Go.Proofs.YtbeigoejdckpiaaDoor
set_option linter.unusedVariables false
open Go.RowKit Go.Deep

set_option maxRecDepth 100000 in
set_option maxHeartbeats 2000000 in
theorem markText_c (k : Int) (w : World) (h0 : 0 ≤ k) (h1 : k ≤ 33554432) : Calls Tryd.prog 88 #[.int .i64 k] w fun e w' => (∃ s : ByteArray, e = .returned (.string s)) ∧ Below w.heap.size w w' := by
  by_cases hk : k ≤ 0
  · go_enter Tryd.func88, Tryd.ntmps88
    go_wp2_with fail
    go_ret
    exact ⟨⟨_, rfl⟩, Below.refl _ _⟩
  · go_enter Tryd.func88, Tryd.ntmps88
    go_wp2_with fail
    go_loopw [0, 3] (fun x y wr => ∃ (z : Int) (s : ByteArray), x = .int .i64 z ∧ y = .string s ∧ 0 ≤ z ∧ (s.size : Int) + z ≤ 33554432 ∧ Below w.heap.size w wr) (fun x _ _ => (intOf x).toNat)
    case atStart => exact ⟨k, _, rfl, rfl, h0, by first | omega | (simp; omega) | (show ((0 : Nat) : Int) + k ≤ 33554432; omega), Below.refl _ _⟩
    case round =>
      obtain ⟨z, s, rfl, rfl, hz, hs, hbl⟩ := hrel
      by_cases h : 0 < z
      · have m1 : 0 ≤ z % 10 := Int.emod_nonneg _ (by decide)
        have m2 : z % 10 < 10 := Int.emod_lt_of_pos _ (by decide)
        have t1 : z.tmod 10 = z % 10 := Int.tmod_eq_emod_of_nonneg hz
        have t2 : z.tdiv 10 = z / 10 := Int.tdiv_eq_ediv_of_nonneg hz
        have t3 : IntKind.i64.wrap (z % 10) = z % 10 := by rw [IntKind.wrap_i64]; omega
        have t4 : IntKind.i64.wrap (48 + z % 10) = 48 + z % 10 := by rw [IntKind.wrap_i64]; omega
        have t5 : IntKind.u8.wrap (48 + z % 10) = 48 + z % 10 := by simp [IntKind.wrap, IntKind.bits, IntKind.signed]; omega
        have hcv : (convert 43 9 (.slice (some ⟨wr.heap.size, 0, none⟩) 1 1)).run Tryd.prog (wr.alloc (.cells #[.int .u8 (48 + z % 10)] 5)) = .ok (.string (strOfNums [48 + z % 10])) (wr.alloc (.cells #[.int .u8 (48 + z % 10)] 5)) :=
          run_convert_bytes_arg _ _ _ Tryd.underlying43 Tryd.underlying5 _ 0 1 1 [48 + z % 10] rfl (fun i hi => by (have e0 : i = 0 := by omega); subst e0; simp [go_sem]) _ Tryd.underlying9
        have hsd : (strOfNums [48 + z % 10]).size = 1 := rfl
        generalize strOfNums [48 + z % 10] = sd at hcv hsd
        go_wp2_with fail
        · exact ⟨⟨z / 10, _, rfl, rfl, by omega, by rw [ByteArray.size_append]; omega, hbl.trans (((Below.refl _ _).alloc (Nat.le_refl _) _).mono hbl.size)⟩, by simp [intOf]; omega⟩
      · have hz0 : z = 0 := by omega
        subst hz0
        go_wp2_with fail
        go_ret
        exact ⟨⟨_, rfl⟩, hbl⟩
theorem mixed_set2 {xs : List Value} {k : Int} {j : Nat} (h : j * 2 + 1 < xs.length) {z : Int} (hz : z = k + ((j * 2 : Nat) : Int)) :
    ((mixed xs k (j * 2)).set (j * 2) (.int .i64 z)).set (j * 2 + 1) (.int .i64 (z + 1)) = mixed xs k ((j + 1) * 2) := by
  rw [hz, mixed_set (by omega), show k + ((j * 2 : Nat) : Int) + 1 = k + ((j * 2 + 1 : Nat) : Int) by omega, mixed_set (by omega), show (j + 1) * 2 = j * 2 + 1 + 1 by omega]
theorem mixed_set1 {xs : List Value} {k : Int} {j : Nat} (h : j < xs.length) {z : Int} (hz : z = k + ((j * 1 : Nat) : Int)) :
    (mixed xs k (j * 1)).set j (.int .i64 z) = mixed xs k ((j + 1) * 1) := by
  rw [Nat.mul_one] at hz ⊢
  rw [hz, mixed_set (by omega), show (j + 1) * 1 = j + 1 by omega]
theorem below_grown {w w' : World} (h : Below w.heap.size w w') (row : Option Nat) : w.grownBy w' row := ⟨h.os, h.tape, h.output, h.size, fun k hk _ => h.block k hk⟩
set_option maxHeartbeats 2000000 in
theorem markPointS_c (a : Option Addr) (n cap : Nat) (k : Int) (base : Nat) (xs : List Value) (w : World) (hn : n ≤ 4194304) (h0 : 0 ≤ k) (hk : k ≤ 4194304) (ho : w.ownsRow base 31 2 (.slice a n cap) n xs) :
    Calls Tryd.prog 28 #[.slice a n cap, .int .i64 k] w fun e w' => e = .returned (.int .i64 (k + ((n * 2 : Nat) : Int))) ∧ w'.ownsRow base 31 2 (.slice a n cap) n (marks k (n * 2)) ∧ w.grownBy w' (Value.slice a n cap).ownBlock := by
  have hxs : xs.length = n * 2 := ho.1
  have HO := Lib.hid ho
  clear ho
  go_enter Tryd.func28, Tryd.ntmps28
  go_wp2
  go_loopw [1, 5] (fun x y wr => ∃ (j : Nat) (z : Int), x = .int .i64 z ∧ y = .int .i64 j ∧ Hid (z = k + ((j * 2 : Nat) : Int)) ∧ j ≤ n ∧ Hid (wr.ownsRow base 31 2 (.slice a n cap) n (mixed xs k (j * 2))) ∧ w.grownBy wr (Value.slice a n cap).ownBlock) (fun _ y _ => n - (intOf y).toNat)
  case atStart => exact ⟨0, k, rfl, rfl, Lib.hid (by simp), Nat.zero_le _, Lib.hid (by rw [Nat.zero_mul, mixed_zero]; exact HO.out), World.grownBy.refl _ _⟩
  case round =>
    obtain ⟨j, z, rfl, rfl, hz, hj, hor, hgr⟩ := hrel
    have z0 : 0 ≤ z := by have := hz.out; omega
    have z1 : z ≤ 33554432 := by have := hz.out; omega
    by_cases h : j < n
    · have hor' := hor.out
      obtain ⟨g, rfl, hbg, hlt⟩ := own_some hor' (by omega)
      have hml : (mixed xs k (j * 2)).length = n * 2 := by rw [mixed_len (by omega), hxs]
      have g0 := (hor'.cellAt (j * 2) (by omega)).trans (List.getElem?_eq_getElem (by omega))
      have q0 := hor'.frozenAt (j * 2)
      have g1 := (hor'.cellAt (j * 2 + 1) (by omega)).trans (List.getElem?_eq_getElem (by omega))
      have q1 := hor'.frozenAt (j * 2 + 1)
      generalize (mixed xs k (j * 2))[j * 2]'(by omega) = u0 at g0
      generalize (mixed xs k (j * 2))[j * 2 + 1]'(by omega) = u1 at g1
      have s0 := hor'.stored (j * 2) (.int .i64 (z))
      have s1 := s0.1.stored (j * 2 + 1) (.int .i64 (z + 1))
      rw [mixed_set2 (by omega) hz.out] at s1
      have S := Lib.hid s1.1
      have G := Lib.hid (hgr.trans (s0.2.trans (s1.2)))
      have h' : (j : Int) < (n : Int) := by omega
      clear s0 s1 hor hor' hgr hml
      go_wp2
      refine ⟨⟨j + 1, z + 1 + 1, by simp, by simp, Lib.hid (by have := hz.out; omega), by omega, ?_, ?_⟩, by simp [intOf]; omega⟩
      · exact S
      · exact G.out
    · obtain rfl : j = n := by omega
      have h' : ¬ (j : Int) < (j : Int) := by omega
      go_wp2
      go_ret
      exact ⟨ret_int hz.out, by rw [← mixed_all k hxs]; exact hor.out, hgr⟩
set_option maxHeartbeats 2000000 in
theorem heldPointS_c (a : Option Addr) (n cap : Nat) (k : Int) (base : Nat) (w : World) (hn : n ≤ 4194304) (h0 : 0 ≤ k) (hk : k ≤ 4194304) (ho : w.ownsRow base 31 2 (.slice a n cap) n (marks k (n * 2))) :
    Calls Tryd.prog 29 #[.slice a n cap, .int .i64 k] w fun e w' => e = .returned (.int .i64 (k + ((n * 2 : Nat) : Int))) ∧ Below w.heap.size w w' := by
  have HO := Lib.hid ho
  clear ho
  go_enter Tryd.func29, Tryd.ntmps29
  go_wp2
  go_loop [1, 5] (fun x y => ∃ (j : Nat) (z : Int), x = .int .i64 z ∧ y = .int .i64 j ∧ Hid (z = k + ((j * 2 : Nat) : Int)) ∧ j ≤ n) (fun _ y => n - (intOf y).toNat)
  case atStart => exact ⟨0, k, rfl, rfl, Lib.hid (by simp), Nat.zero_le _⟩
  case round =>
    obtain ⟨j, z, rfl, rfl, hz, hj⟩ := hrel
    have z0 : 0 ≤ z := by have := hz.out; omega
    have z1 : z ≤ 33554432 := by have := hz.out; omega
    by_cases h : j < n
    · obtain ⟨g, rfl, hbg, hlt⟩ := own_some HO.out (by omega)
      have g0 : w.cell? ⟨g, j * 2, none⟩ = some (.int .i64 (z)) := by rw [HO.out.cellAt _ (by omega), marks_get (by omega), show k + ((j * 2 : Nat) : Int) = z by have := hz.out; omega]
      have g1 : w.cell? ⟨g, j * 2 + 1, none⟩ = some (.int .i64 (z + 1)) := by rw [HO.out.cellAt _ (by omega), marks_get (by omega), show k + ((j * 2 + 1 : Nat) : Int) = z + 1 by have := hz.out; omega]
      have h' : (j : Int) < (n : Int) := by omega
      go_wp2
      go_round
      case rel => exact ⟨j + 1, z + 1 + 1, by simp, by simp, Lib.hid (by have := hz.out; omega), by omega⟩
      case measure => simp [intOf]; omega
    · obtain rfl : j = n := by omega
      have h' : ¬ (j : Int) < (j : Int) := by omega
      go_wp2
      go_ret
      exact ⟨ret_int hz.out, Below.refl _ _⟩
set_option maxHeartbeats 2000000 in
theorem markInt64S_c (a : Option Addr) (n cap : Nat) (k : Int) (base : Nat) (xs : List Value) (w : World) (hn : n ≤ 4194304) (h0 : 0 ≤ k) (hk : k ≤ 4194304) (ho : w.ownsRow base 2 1 (.slice a n cap) n xs) :
    Calls Tryd.prog 43 #[.slice a n cap, .int .i64 k] w fun e w' => e = .returned (.int .i64 (k + ((n * 1 : Nat) : Int))) ∧ w'.ownsRow base 2 1 (.slice a n cap) n (marks k (n * 1)) ∧ w.grownBy w' (Value.slice a n cap).ownBlock := by
  have hxs : xs.length = n * 1 := ho.1
  have HO := Lib.hid ho
  clear ho
  go_enter Tryd.func43, Tryd.ntmps43
  go_wp2
  go_loopw [1, 5] (fun x y wr => ∃ (j : Nat) (z : Int), x = .int .i64 z ∧ y = .int .i64 j ∧ Hid (z = k + ((j * 1 : Nat) : Int)) ∧ j ≤ n ∧ Hid (wr.ownsRow base 2 1 (.slice a n cap) n (mixed xs k (j * 1))) ∧ w.grownBy wr (Value.slice a n cap).ownBlock) (fun _ y _ => n - (intOf y).toNat)
  case atStart => exact ⟨0, k, rfl, rfl, Lib.hid (by simp), Nat.zero_le _, Lib.hid (by rw [Nat.zero_mul, mixed_zero]; exact HO.out), World.grownBy.refl _ _⟩
  case round =>
    obtain ⟨j, z, rfl, rfl, hz, hj, hor, hgr⟩ := hrel
    have z0 : 0 ≤ z := by have := hz.out; omega
    have z1 : z ≤ 33554432 := by have := hz.out; omega
    by_cases h : j < n
    · have hor' := hor.out
      obtain ⟨g, rfl, hbg, hlt⟩ := own_some hor' (by omega)
      have hml : (mixed xs k (j * 1)).length = n * 1 := by rw [mixed_len (by omega), hxs]
      have g0 := (hor'.cellAt (j) (by omega)).trans (List.getElem?_eq_getElem (by omega))
      have q0 := hor'.frozenAt (j)
      generalize (mixed xs k (j * 1))[j]'(by omega) = u0 at g0
      have s0 := hor'.stored (j) (.int .i64 (z))
      rw [mixed_set1 (by omega) hz.out] at s0
      have S := Lib.hid s0.1
      have G := Lib.hid (hgr.trans (s0.2))
      have h' : (j : Int) < (n : Int) := by omega
      clear s0 hor hor' hgr hml
      go_wp2
      refine ⟨⟨j + 1, z + 1, by simp, by simp, Lib.hid (by have := hz.out; omega), by omega, ?_, ?_⟩, by simp [intOf]; omega⟩
      · exact S
      · exact G.out
    · obtain rfl : j = n := by omega
      have h' : ¬ (j : Int) < (j : Int) := by omega
      go_wp2
      go_ret
      exact ⟨ret_int (by have := hz.out; omega), by have ht := hor.out; rw [mixed_all k hxs, Nat.mul_one] at ht; exact ht, hgr⟩
set_option maxHeartbeats 2000000 in
theorem heldInt64S_c (a : Option Addr) (n cap : Nat) (k : Int) (base : Nat) (w : World) (hn : n ≤ 4194304) (h0 : 0 ≤ k) (hk : k ≤ 4194304) (ho : w.ownsRow base 2 1 (.slice a n cap) n (marks k (n * 1))) :
    Calls Tryd.prog 44 #[.slice a n cap, .int .i64 k] w fun e w' => e = .returned (.int .i64 (k + ((n * 1 : Nat) : Int))) ∧ Below w.heap.size w w' := by
  have HO := Lib.hid ho
  clear ho
  go_enter Tryd.func44, Tryd.ntmps44
  go_wp2
  go_loop [1, 5] (fun x y => ∃ (j : Nat) (z : Int), x = .int .i64 z ∧ y = .int .i64 j ∧ Hid (z = k + ((j * 1 : Nat) : Int)) ∧ j ≤ n) (fun _ y => n - (intOf y).toNat)
  case atStart => exact ⟨0, k, rfl, rfl, Lib.hid (by simp), Nat.zero_le _⟩
  case round =>
    obtain ⟨j, z, rfl, rfl, hz, hj⟩ := hrel
    have z0 : 0 ≤ z := by have := hz.out; omega
    have z1 : z ≤ 33554432 := by have := hz.out; omega
    by_cases h : j < n
    · obtain ⟨g, rfl, hbg, hlt⟩ := own_some HO.out (by omega)
      have g0 : w.cell? ⟨g, j, none⟩ = some (.int .i64 (z)) := by rw [HO.out.cellAt _ (by omega), marks_get (by omega), show k + ((j : Nat) : Int) = z by have := hz.out; omega]
      have h' : (j : Int) < (n : Int) := by omega
      go_wp2
      go_round
      case rel => exact ⟨j + 1, z + 1, by simp, by simp, Lib.hid (by have := hz.out; omega), by omega⟩
      case measure => simp [intOf]; omega
    · obtain rfl : j = n := by omega
      have h' : ¬ (j : Int) < (j : Int) := by omega
      go_wp2
      go_ret
      exact ⟨ret_int (by have := hz.out; omega), Below.refl _ _⟩
set_option maxRecDepth 100000 in
set_option maxHeartbeats 4000000 in
theorem markMarkS_c (a : Option Addr) (n cap : Nat) (k : Int) (base : Nat) (xs : List Value) (w : World) (hn : n ≤ 4194304) (h0 : 0 ≤ k) (hk : k ≤ 4194304) (ho : w.ownsRow base 64 5 (.slice a n cap) n xs) :
    Calls Tryd.prog 64 #[.slice a n cap, .int .i64 k] w fun e w' => e = .returned (.int .i64 (k + ((n * 5 : Nat) : Int))) ∧ w.grownBy w' (Value.slice a n cap).ownBlock := by
  have HO := Lib.hid ho
  clear ho
  go_enter Tryd.func64, Tryd.ntmps64
  go_wp2
  go_loopw [1, 5] (fun x y wr => ∃ (j : Nat) (z : Int) (xs' : List Value), x = .int .i64 z ∧ y = .int .i64 j ∧ Hid (z = k + ((j * 5 : Nat) : Int)) ∧ j ≤ n ∧ Hid (wr.ownsRow base 64 5 (.slice a n cap) n xs') ∧ Hid (w.grownBy wr (Value.slice a n cap).ownBlock)) (fun _ y _ => n - (intOf y).toNat)
  case atStart => exact ⟨0, k, xs, rfl, rfl, Lib.hid (by simp), Nat.zero_le _, HO, Lib.hid (World.grownBy.refl _ _)⟩
  case round =>
    obtain ⟨j, z, xs', rfl, rfl, hz, hj, hor, hgr⟩ := hrel
    have z0 : 0 ≤ z := by have := hz.out; omega
    have z1 : z ≤ 33554432 := by have := hz.out; omega
    by_cases h : j < n
    · obtain ⟨g, rfl, hbg, hlt⟩ := own_some hor.out (by omega)
      have h' : (j : Int) < (n : Int) := by omega
      go_wp2_with (
        go_at_call 88; refine (markText_c z _ z0 z1).mono ?_; rintro e w1 ⟨⟨s, rfl⟩, hb⟩
        have ho1 := pown_below hor.out hb
        have hml : xs'.length = n * 5 := ho1.1
        have g0 := (ho1.cellAt (j * 5) (by omega)).trans (List.getElem?_eq_getElem (by omega))
        have q0 := ho1.frozenAt (j * 5)
        have g1 := (ho1.cellAt (j * 5 + 1) (by omega)).trans (List.getElem?_eq_getElem (by omega))
        have q1 := ho1.frozenAt (j * 5 + 1)
        have g2 := (ho1.cellAt (j * 5 + 2) (by omega)).trans (List.getElem?_eq_getElem (by omega))
        have q2 := ho1.frozenAt (j * 5 + 2)
        have g3 := (ho1.cellAt (j * 5 + 3) (by omega)).trans (List.getElem?_eq_getElem (by omega))
        have q3 := ho1.frozenAt (j * 5 + 3)
        have g4 := (ho1.cellAt (j * 5 + 4) (by omega)).trans (List.getElem?_eq_getElem (by omega))
        have q4 := ho1.frozenAt (j * 5 + 4)
        generalize xs'[j * 5]'(by omega) = u0 at g0
        generalize xs'[j * 5 + 1]'(by omega) = u1 at g1
        generalize xs'[j * 5 + 2]'(by omega) = u2 at g2
        generalize xs'[j * 5 + 3]'(by omega) = u3 at g3
        generalize xs'[j * 5 + 4]'(by omega) = u4 at g4
        have hlt1 := Nat.lt_of_lt_of_le hlt hb.size
        have G0 := Lib.hid (hgr.out.trans (below_grown hb _))
        clear hml hb)
      have s0 := ho1.stored (j * 5) (.string s)
      have s1 := s0.1.stored (j * 5 + 1) (.int .i64 (z + 1))
      have s2 := s1.1.stored (j * 5 + 2) (.int .i64 (z + 1 + 1))
      have s3 := s2.1.stored (j * 5 + 3) (.int .i64 (z + 1 + 1 + 1))
      have s4 := s3.1.stored (j * 5 + 4) (.int .i64 (z + 1 + 1 + 1 + 1))
      exact ⟨⟨j + 1, z + 1 + 1 + 1 + 1 + 1, _, by simp, by simp, Lib.hid (by have := hz.out; omega), by omega, Lib.hid s4.1, Lib.hid (G0.out.trans (s0.2.trans (s1.2.trans (s2.2.trans (s3.2.trans s4.2)))))⟩, by simp [intOf]; omega⟩
    · obtain rfl : j = n := by omega
      have h' : ¬ (j : Int) < (j : Int) := by omega
      go_wp2
      go_ret
      exact ⟨ret_int hz.out, hgr.out⟩
set_option maxRecDepth 100000 in
set_option maxHeartbeats 4000000 in
theorem markCourse_c (x0 x1 x2 x3 x4 x5 x6 x7 : Int) (a : Option Addr) (n cap : Nat) (k : Int) (base : Nat) (xs : List Value) (w : World) (hn : n ≤ 4194304) (h0 : 0 ≤ k) (hk : k ≤ 4194304) (ho : w.ownsRow base 64 5 (.slice a n cap) n xs) :
    Calls Tryd.prog 27 #[.agg #[.int .i64 x0, .int .i64 x1, .int .i64 x2, .int .i64 x3, .int .i64 x4, .int .i64 x5, .int .i64 x6, .int .i64 x7, .slice a n cap], .int .i64 k] w fun e w' => e = .returned (.int .i64 (k + ((n * 5 : Nat) : Int))) ∧ w.grownBy w' (Value.slice a n cap).ownBlock := by
  have HO := Lib.hid ho
  clear ho
  go_enter Tryd.func27, Tryd.ntmps27
  go_wp2_with (go_at_call 64; refine (markMarkS_c a n cap k base xs _ hn h0 hk (HO.out.alloc _)).mono ?_; rintro e w1 ⟨rfl, hg⟩)
  go_ret
  exact ⟨rfl, (World.grownBy_alloc _ _ _).trans hg⟩
theorem pt_cell {w : World} {a : Option Addr} {k : Nat} {L : List (Int × Int)} (h : RowAt w a (pflat L)) (hk : k < L.length) : ∃ b off, a = some ⟨b, off, none⟩ ∧ b < w.heap.size ∧ w.cell? ⟨b, off + k * 2, none⟩ = some (.int .i64 (pt L k).1) ∧ w.cell? ⟨b, off + k * 2 + 1, none⟩ = some (.int .i64 (pt L k).2) := by
  obtain ⟨f0, f1⟩ := pflat_get L k _ (pt_of hk)
  obtain ⟨b, off, rfl, hlt, hc⟩ := h.head (by rw [pflat_length]; omega)
  exact ⟨b, off, rfl, hlt, hc _ _ f0, hc _ _ f1⟩
set_option maxHeartbeats 2000000 in
theorem eqPointS_c (a a' : Option Addr) (cap cap' : Nat) (L : List (Int × Int)) (w : World) (hl : L.length ≤ 4611686018427387904) (hf : RowAt w a (pflat L)) (hf' : RowAt w a' (pflat L)) : Calls Tryd.prog 26 #[.slice a L.length cap, .slice a' L.length cap'] w fun e w' => e = .returned (.bool true) ∧ Below w.heap.size w w' := by
  have ce : ∀ x y w, Calls Tryd.prog 63 #[.agg #[.int .i64 x, .int .i64 y], .agg #[.int .i64 x, .int .i64 y]] w fun e w' => e = .returned (.bool true) ∧ Below w.heap.size w w' := by
    intro x y w
    go_enter Tryd.func63, Tryd.ntmps63
    go_wp2
    go_ret
    exact ⟨rfl, (by repeat (first | with_reducible exact Below.refl _ _ | with_reducible assumption | with_reducible refine Below.drew ?_ | with_reducible refine Below.alloc ?_ (by first | exact Nat.le_refl _ | (simp; done) | (simp; omega) | omega) _ | with_reducible refine Below.setCell ?_ (by first | exact Nat.le_refl _ | (simp; done) | (simp; omega) | omega) _ | with_reducible refine Below.trans ?_ (Below.mono (by with_reducible assumption) (by first | exact Nat.le_refl _ | (simp; done) | (simp; omega) | omega))))⟩
  have CE := Lib.hid ce
  have H0 := Lib.hid hf
  have H1 := Lib.hid hf'
  clear hf hf' ce
  go_enter Tryd.func26, Tryd.ntmps26
  go_wp2
  go_loopw [5] (fun x wr => ∃ k : Nat, x = .int .i64 k ∧ k ≤ L.length ∧ Below w.heap.size w wr) (fun x _ => L.length - (intOf x).toNat)
  case atStart => exact ⟨0, rfl, Nat.zero_le _, Below.refl _ _⟩
  case round =>
    obtain ⟨k, rfl, hk, hbl⟩ := hrel
    by_cases h : k < L.length
    · obtain ⟨b, off, rfl, hlt, c0, c1⟩ := pt_cell (H0.out.below hbl) h
      obtain ⟨b', off', rfl, hlt', d0, d1⟩ := pt_cell (H1.out.below hbl) h
      have h' : (k : Int) < (L.length : Int) := by omega
      generalize pt L k = x at *
      go_wp2
      have HB := Lib.hid hbl
      clear hbl
      refine wp_region_later (by kernel_rfl) (by kernel_rfl) ?_
      repeat (first | go_big_quiet_step ((go_at_call 63; exact later_of _ (CE.out _ _ _))) | quiet_step ((go_at_call 63; exact later_of _ (CE.out _ _ _))))
      refine wpQuiet_nil ?_
      intro _ hw'
      obtain ⟨sk6, hw''⟩ := hw'
      subst hw''
      have hbk6 := sk6.below
      generalize sk6.w = wk6 at hbk6 ⊢
      clear sk6
      try replace hbk6 := below_trans (by with_reducible assumption) hbk6
      obtain ⟨hck6, hfk6⟩ := bcell hbk6
      have hzk6 := hbk6.size
      try simp at hzk6
      try have hzk60 : w.heap.size ≤ wk6.heap.size := by omega
      try have hzk61 : w.heap.size < wk6.heap.size := by omega
      try have hzk62 : w.heap.size + 1 < wk6.heap.size := by omega
      try have hzk63 : w.heap.size + 1 + 1 < wk6.heap.size := by omega
      try have hzk64 : w.heap.size + 1 + 1 + 1 < wk6.heap.size := by omega
      go_wp2
      exact ⟨⟨k + 1, by simp, by omega, HB.out.trans (hbk6.mono HB.out.size)⟩, by simp [intOf]; omega⟩
    · have h' : (L.length : Int) ≤ (k : Int) := by omega
      go_wp2
      go_ret
      exact ⟨rfl, hbl⟩
end Go.Proofs.YtbeigoejdckpiaaDoor
