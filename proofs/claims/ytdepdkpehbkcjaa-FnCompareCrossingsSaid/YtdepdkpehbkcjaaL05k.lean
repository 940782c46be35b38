/-
  The list of crossings, exported; marking such a list and comparing two. Conditions stand with each.
-/
import Derived.Test.YtdepdkpehbkcjaaL05h
import Derived.Test.YtdepdkpehbkcjaaRows2
namespace Go.Proofs.Ytdepdkpehbkcjaa
set_option linter.unusedVariables false
open Go.RowKit Go.Deep

def crsR (l : List Fx) (ax ay bx cy : Int) : List Cr × Int := if isTrk l = true ∧ isSeg ax ay bx cy = true then (crL l ax ay bx cy, 0) else ([], 1)
theorem crsR_len {l : List Fx} {ax ay bx cy : Int} : (crsR l ax ay bx cy).1.length ≤ 39 := by
  unfold crsR
  split
  · rename_i h; exact crL_len h.1
  · simp
theorem row_own {w : World} {a : Option Addr} {base n cap size : Nat} {e : TypeId} {xs : List Value} (h : w.ownsRow base e size (.slice a n cap) n xs) (hs : xs.length = n * size) : RowAt w a xs := fun i v hv => by
  have hi : i < xs.length := (List.getElem?_eq_some_iff.1 hv).1
  obtain ⟨g, rfl, hb, hlt⟩ := own_some h (by rcases Nat.eq_zero_or_pos n with e | e; (rw [e, Nat.zero_mul] at hs; omega); exact e)
  exact rowAt_own h i v hv
theorem row_cell' {w : World} {a : Option Addr} {k : Nat} {L : List Cr} (h : RowAt w a (crFlat L)) (hk : k < L.length) : ∃ b off, a = some ⟨b, off, none⟩ ∧ b < w.heap.size ∧ w.cell? ⟨b, off + k * 5, none⟩ = some (.int .i64 (cr L k).t) ∧ w.cell? ⟨b, off + k * 5 + 1, none⟩ = some (.int .i64 (cr L k).leg) ∧ w.cell? ⟨b, off + k * 5 + 2, none⟩ = some (.int .i64 (cr L k).way) ∧ w.cell? ⟨b, off + k * 5 + 3, none⟩ = some (.int .i64 (cr L k).num) ∧ w.cell? ⟨b, off + k * 5 + 4, none⟩ = some (.int .i64 (cr L k).den) := by
  obtain ⟨f0, f1, f2, f3, f4⟩ := crFlat_get L k _ (cr_of hk)
  obtain ⟨b, off, rfl, hlt, hc⟩ := h.head (by rw [crFlat_length]; omega)
  exact ⟨b, off, rfl, hlt, hc _ _ f0, hc _ _ f1, hc _ _ f2, hc _ _ f3, hc _ _ f4⟩
theorem mixed_set5 {xs : List Value} {k : Int} {j : Nat} (h : j * 5 + 4 < xs.length) {z : Int} (hz : z = k + ((j * 5 : Nat) : Int)) :
    (((((mixed xs k (j * 5)).set (j * 5) (.int .i64 z)).set (j * 5 + 1) (.int .i64 (z + 1))).set (j * 5 + 2) (.int .i64 (z + 1 + 1))).set (j * 5 + 3) (.int .i64 (z + 1 + 1 + 1))).set (j * 5 + 4) (.int .i64 (z + 1 + 1 + 1 + 1)) = mixed xs k ((j + 1) * 5) := by
  subst hz
  rw [mixed_set (by omega), show k + ((j * 5 : Nat) : Int) + 1 = k + ((j * 5 + 1 : Nat) : Int) by omega, mixed_set (by omega),
    show k + ((j * 5 + 1 : Nat) : Int) + 1 = k + ((j * 5 + 2 : Nat) : Int) by omega, mixed_set (by omega), show k + ((j * 5 + 2 : Nat) : Int) + 1 = k + ((j * 5 + 3 : Nat) : Int) by omega, mixed_set (by omega),
    show k + ((j * 5 + 3 : Nat) : Int) + 1 = k + ((j * 5 + 4 : Nat) : Int) by omega, mixed_set (by omega), show (j + 1) * 5 = j * 5 + 4 + 1 by omega]
set_option maxHeartbeats 1000000 in
theorem eqCrossing_sm (t i y n d : Int) (w : World) : Calls Try.prog 40 #[.agg #[.int .i64 t, .int .i64 i, .int .i64 y, .int .i64 n, .int .i64 d], .agg #[.int .i64 t, .int .i64 i, .int .i64 y, .int .i64 n, .int .i64 d]] w fun e w' => e = .returned (.bool true) ∧ Below w.heap.size w w' := by
  go_enter Try.func40, Try.ntmps40
  go_wp2_with (go_at_call 96; refine (eqRatio_same _ _ _).mono ?_; rintro e w1 ⟨rfl, hb⟩; (try replace hb := below_trans (by with_reducible assumption) hb); obtain ⟨hc, hf⟩ := bcell hb; have hz := hb.size; (try simp at hz); (try have hz0 : w.heap.size ≤ w1.heap.size := by omega); (try have hz1 : w.heap.size < w1.heap.size := by omega); (try have hz2 : w.heap.size + 1 < w1.heap.size := by omega); (try have hz3 : w.heap.size + 1 + 1 < w1.heap.size := by omega); (try have hz4 : w.heap.size + 1 + 1 + 1 < w1.heap.size := by omega))
  go_ret
  exact ⟨rfl, (by repeat (first | with_reducible exact Below.refl _ _ | with_reducible assumption | with_reducible refine Below.drew ?_ | with_reducible refine Below.alloc ?_ (by first | exact Nat.le_refl _ | (simp; done) | (simp; omega) | omega) _ | with_reducible refine Below.setCell ?_ (by first | exact Nat.le_refl _ | (simp; done) | (simp; omega) | omega) _ | with_reducible refine Below.trans ?_ (Below.mono (by with_reducible assumption) (by first | exact Nat.le_refl _ | (simp; done) | (simp; omega) | omega))))⟩
set_option maxHeartbeats 1000000 in
theorem eqCrossingS_c (a a' : Option Addr) (cap cap' : Nat) (L : List Cr) (w : World) (hl : L.length ≤ 4611686018427387904) (hf : RowAt w a (crFlat L)) (hf' : RowAt w a' (crFlat L)) : Calls Try.prog 45 #[.slice a L.length cap, .slice a' L.length cap'] w fun e w' => e = .returned (.bool true) ∧ Below w.heap.size w w' := by
  have H0 := Lib.hid hf
  have H1 := Lib.hid hf'
  clear hf hf'
  go_enter Try.func45, Try.ntmps45
  go_wp2
  go_loopw [5] (fun x wr => ∃ k : Nat, x = .int .i64 k ∧ k ≤ L.length ∧ Below w.heap.size w wr) (fun x _ => L.length - (intOf x).toNat)
  case atStart => exact ⟨0, rfl, Nat.zero_le _, Below.refl _ _⟩
  case round =>
    obtain ⟨k, rfl, hk, hbl⟩ := hrel
    by_cases h : k < L.length
    · obtain ⟨b, off, rfl, hlt, c0, c1, c2, c3, c4⟩ := row_cell' (H0.out.below hbl) h
      obtain ⟨b', off', rfl, hlt', d0, d1, d2, d3, d4⟩ := row_cell' (H1.out.below hbl) h
      have h' : (k : Int) < (L.length : Int) := by omega
      generalize cr L k = x at *
      go_wp2
      refine wp_region_later (by kernel_rfl) (by kernel_rfl) ?_
      repeat (first | go_big_quiet_step ((go_at_call 40; exact later_of _ (eqCrossing_sm _ _ _ _ _ _))) | quiet_step ((go_at_call 40; exact later_of _ (eqCrossing_sm _ _ _ _ _ _))))
      refine wpQuiet_nil ?_
      intro _ hw'
      obtain ⟨s1, hw''⟩ := hw'
      subst hw''
      have hb1 := s1.below
      generalize s1.w = w1 at hb1 ⊢
      clear s1
      try replace hb1 := below_trans (by with_reducible assumption) hb1
      obtain ⟨hc1, hf1⟩ := bcell hb1
      have hz1 := hb1.size
      try simp at hz1
      try have hz10 : w.heap.size ≤ w1.heap.size := by omega
      try have hz11 : w.heap.size < w1.heap.size := by omega
      try have hz12 : w.heap.size + 1 < w1.heap.size := by omega
      try have hz13 : w.heap.size + 1 + 1 < w1.heap.size := by omega
      try have hz14 : w.heap.size + 1 + 1 + 1 < w1.heap.size := by omega
      go_wp2
      refine ⟨⟨k + 1, by simp, by omega, ?_⟩, by simp [intOf]; omega⟩
      exact hb1
    · have h' : (L.length : Int) ≤ (k : Int) := by omega
      go_wp2
      go_ret
      exact ⟨rfl, hbl⟩
set_option maxHeartbeats 2000000 in
theorem markCrossingS_c (a : Option Addr) (n cap : Nat) (k : Int) (base : Nat) (xs : List Value) (w : World) (hn : n ≤ 4194304) (h0 : 0 ≤ k) (hk : k ≤ 4194304) (ho : w.ownsRow base 57 5 (.slice a n cap) n xs) :
    Calls Try.prog 47 #[.slice a n cap, .int .i64 k] w fun e w' => e = .returned (.int .i64 (k + ((n * 5 : Nat) : Int))) ∧ w'.ownsRow base 57 5 (.slice a n cap) n (marks k (n * 5)) ∧ w.grownBy w' (Value.slice a n cap).ownBlock := by
  have hxs : xs.length = n * 5 := ho.1
  have HO := Lib.hid ho
  clear ho
  go_enter Try.func47, Try.ntmps47
  go_wp2
  go_loopw [1, 5] (fun x y wr => ∃ (j : Nat) (z : Int), x = .int .i64 z ∧ y = .int .i64 j ∧ Hid (z = k + ((j * 5 : Nat) : Int)) ∧ j ≤ n ∧ Hid (wr.ownsRow base 57 5 (.slice a n cap) n (mixed xs k (j * 5))) ∧ w.grownBy wr (Value.slice a n cap).ownBlock) (fun _ y _ => n - (intOf y).toNat)
  case atStart => exact ⟨0, k, rfl, rfl, Lib.hid (by simp), Nat.zero_le _, Lib.hid (by rw [Nat.zero_mul, mixed_zero]; exact HO.out), World.grownBy.refl _ _⟩
  case round =>
    obtain ⟨j, z, rfl, rfl, hz, hj, hor, hgr⟩ := hrel
    have z0 : 0 ≤ z := by have := hz.out; omega
    have z1 : z ≤ 33554432 := by have := hz.out; omega
    by_cases h : j < n
    · have hor' := hor.out
      obtain ⟨g, rfl, hbg, hlt⟩ := own_some hor' (by omega)
      have hml : (mixed xs k (j * 5)).length = n * 5 := by rw [mixed_len (by omega), hxs]
      have g0 := (hor'.cellAt (j * 5) (by omega)).trans (List.getElem?_eq_getElem (by omega))
      have g1 := (hor'.cellAt (j * 5 + 1) (by omega)).trans (List.getElem?_eq_getElem (by omega))
      have g2 := (hor'.cellAt (j * 5 + 2) (by omega)).trans (List.getElem?_eq_getElem (by omega))
      have g3 := (hor'.cellAt (j * 5 + 3) (by omega)).trans (List.getElem?_eq_getElem (by omega))
      have g4 := (hor'.cellAt (j * 5 + 4) (by omega)).trans (List.getElem?_eq_getElem (by omega))
      have q0 := hor'.frozenAt (j * 5)
      have q1 := hor'.frozenAt (j * 5 + 1)
      have q2 := hor'.frozenAt (j * 5 + 2)
      have q3 := hor'.frozenAt (j * 5 + 3)
      have q4 := hor'.frozenAt (j * 5 + 4)
      generalize (mixed xs k (j * 5))[j * 5]'(by omega) = u0 at g0
      generalize (mixed xs k (j * 5))[j * 5 + 1]'(by omega) = u1 at g1
      generalize (mixed xs k (j * 5))[j * 5 + 2]'(by omega) = u2 at g2
      generalize (mixed xs k (j * 5))[j * 5 + 3]'(by omega) = u3 at g3
      generalize (mixed xs k (j * 5))[j * 5 + 4]'(by omega) = u4 at g4
      have s0 := hor'.stored (j * 5) (.int .i64 (z))
      have s1 := s0.1.stored (j * 5 + 1) (.int .i64 (z + 1))
      have s2 := s1.1.stored (j * 5 + 2) (.int .i64 (z + 1 + 1))
      have s3 := s2.1.stored (j * 5 + 3) (.int .i64 (z + 1 + 1 + 1))
      have s4 := s3.1.stored (j * 5 + 4) (.int .i64 (z + 1 + 1 + 1 + 1))
      rw [mixed_set5 (by omega) hz.out] at s4
      have S := Lib.hid s4.1
      have G := Lib.hid (hgr.trans (s0.2.trans (s1.2.trans (s2.2.trans (s3.2.trans s4.2)))))
      have h' : (j : Int) < (n : Int) := by omega
      clear s0 s1 s2 s3 s4 hor hor' hgr hml
      go_wp2
      refine ⟨⟨j + 1, z + 1 + 1 + 1 + 1 + 1, by simp, by simp, Lib.hid (by have := hz.out; omega), by omega, ?_, ?_⟩, by simp [intOf]; omega⟩
      · exact S
      · exact G.out
    · obtain rfl : j = n := by omega
      have h' : ¬ (j : Int) < (j : Int) := by omega
      go_wp2
      go_ret
      exact ⟨ret_int hz.out, by rw [← mixed_all k hxs]; exact hor.out, hgr⟩
set_option maxHeartbeats 2000000 in
theorem heldCrossingS_c (a : Option Addr) (n cap : Nat) (k : Int) (base : Nat) (w : World) (hn : n ≤ 4194304) (h0 : 0 ≤ k) (hk : k ≤ 4194304) (ho : w.ownsRow base 57 5 (.slice a n cap) n (marks k (n * 5))) :
    Calls Try.prog 48 #[.slice a n cap, .int .i64 k] w fun e w' => e = .returned (.int .i64 (k + ((n * 5 : Nat) : Int))) ∧ Below w.heap.size w w' := by
  have HO := Lib.hid ho
  clear ho
  go_enter Try.func48, Try.ntmps48
  go_wp2
  go_loop [1, 5] (fun x y => ∃ (j : Nat) (z : Int), x = .int .i64 z ∧ y = .int .i64 j ∧ Hid (z = k + ((j * 5 : Nat) : Int)) ∧ j ≤ n) (fun _ y => n - (intOf y).toNat)
  case atStart => exact ⟨0, k, rfl, rfl, Lib.hid (by simp), Nat.zero_le _⟩
  case round =>
    obtain ⟨j, z, rfl, rfl, hz, hj⟩ := hrel
    have z0 : 0 ≤ z := by have := hz.out; omega
    have z1 : z ≤ 33554432 := by have := hz.out; omega
    by_cases h : j < n
    · obtain ⟨g, rfl, hbg, hlt⟩ := own_some HO.out (by omega)
      have g0 : w.cell? ⟨g, j * 5, none⟩ = some (.int .i64 (z)) := by rw [HO.out.cellAt _ (by omega), marks_get (by omega), show k + ((j * 5 : Nat) : Int) = z by have := hz.out; omega]
      have g1 : w.cell? ⟨g, j * 5 + 1, none⟩ = some (.int .i64 (z + 1)) := by rw [HO.out.cellAt _ (by omega), marks_get (by omega), show k + ((j * 5 + 1 : Nat) : Int) = z + 1 by have := hz.out; omega]
      have g2 : w.cell? ⟨g, j * 5 + 2, none⟩ = some (.int .i64 (z + 1 + 1)) := by rw [HO.out.cellAt _ (by omega), marks_get (by omega), show k + ((j * 5 + 2 : Nat) : Int) = z + 1 + 1 by have := hz.out; omega]
      have g3 : w.cell? ⟨g, j * 5 + 3, none⟩ = some (.int .i64 (z + 1 + 1 + 1)) := by rw [HO.out.cellAt _ (by omega), marks_get (by omega), show k + ((j * 5 + 3 : Nat) : Int) = z + 1 + 1 + 1 by have := hz.out; omega]
      have g4 : w.cell? ⟨g, j * 5 + 4, none⟩ = some (.int .i64 (z + 1 + 1 + 1 + 1)) := by rw [HO.out.cellAt _ (by omega), marks_get (by omega), show k + ((j * 5 + 4 : Nat) : Int) = z + 1 + 1 + 1 + 1 by have := hz.out; omega]
      have h' : (j : Int) < (n : Int) := by omega
      go_wp2
      go_round
      case rel => exact ⟨j + 1, z + 1 + 1 + 1 + 1 + 1, by simp, by simp, Lib.hid (by have := hz.out; omega), by omega⟩
      case measure => simp [intOf]; omega
    · obtain rfl : j = n := by omega
      have h' : ¬ (j : Int) < (j : Int) := by omega
      go_wp2
      go_ret
      exact ⟨ret_int hz.out, Below.refl _ _⟩
set_option maxRecDepth 100000 in
set_option maxHeartbeats 1000000 in
theorem CrossingsOf_c (a : Option Addr) (cap : Nat) (l : List Fx) (ax ay bx cy : Int) (w : World) (hl : l.length ≤ 4611686018427387904) (hf : FixAt w a l) : Calls Try.prog 43 #[.agg #[.slice a l.length cap], .agg #[.int .i64 ax, .int .i64 ay, .int .i64 bx, .int .i64 cy]] w fun e w' => (∃ (a' : Option Addr) (cap' : Nat), e = .returned (.tuple #[.slice a' (crsR l ax ay bx cy).1.length cap', .int .i64 (crsR l ax ay bx cy).2]) ∧ w'.ownsRow w.heap.size 57 5 (.slice a' (crsR l ax ay bx cy).1.length cap') (crsR l ax ay bx cy).1.length (crFlat (crsR l ax ay bx cy).1)) ∧ Below w.heap.size w w' := by
  have hF0 := Lib.hid hf
  clear hf
  go_enter Try.func43, Try.ntmps43
  go_wp2_with fail
  obtain ⟨W, hW⟩ : ∃ W, W = ((w.alloc (.cells #[.slice a l.length cap] 26)).alloc (.cells #[.int .i64 ax, .int .i64 ay, .int .i64 bx, .int .i64 cy] 66)) := ⟨_, rfl⟩
  have HD : Below w.heap.size w W := by subst hW; exact (by repeat (first | with_reducible exact Below.refl _ _ | with_reducible assumption | with_reducible refine Below.drew ?_ | with_reducible refine Below.alloc ?_ (by first | exact Nat.le_refl _ | (simp; done) | (simp; omega) | omega) _ | with_reducible refine Below.setCell ?_ (by first | exact Nat.le_refl _ | (simp; done) | (simp; omega) | omega) _ | with_reducible refine Below.trans ?_ (Below.mono (by with_reducible assumption) (by first | exact Nat.le_refl _ | (simp; done) | (simp; omega) | omega))))
  have b00 : W.cell? ⟨w.heap.size, 0, none⟩ = some (.slice a l.length cap) := by subst hW; simp [go_sem]
  have L0 : w.heap.size < W.heap.size := by subst hW; first | (simp; done) | (simp; omega)
  have b10 : W.cell? ⟨w.heap.size + 1, 0, none⟩ = some (.int .i64 ax) := by subst hW; simp [go_sem]
  have b11 : W.cell? ⟨w.heap.size + 1, 1, none⟩ = some (.int .i64 ay) := by subst hW; simp [go_sem]
  have b12 : W.cell? ⟨w.heap.size + 1, 2, none⟩ = some (.int .i64 bx) := by subst hW; simp [go_sem]
  have b13 : W.cell? ⟨w.heap.size + 1, 3, none⟩ = some (.int .i64 cy) := by subst hW; simp [go_sem]
  have L1 : w.heap.size + 1 < W.heap.size := by subst hW; first | (simp; done) | (simp; omega)
  rw [← hW]
  clear hW
  generalize w.heap.size + 1 = B1 at *
  obtain ⟨B0, hB0⟩ : ∃ B, B = w.heap.size := ⟨_, rfl⟩
  rw [← hB0] at b00 L0
  try rw [← hB0]
  replace hB0 := Lib.hid hB0
  have FV := Lib.hid (FixAt.below hF0.out HD)
  by_cases e : isTrk l = true ∧ isSeg ax ay bx cy = true
  case neg =>
    have HF := Lib.hid (show crsR l ax ay bx cy = ([], 1) by simp only [crsR, if_neg e])
    have cc := lineCode_c a cap l ax ay bx cy W hl FV.out
    rw [if_neg e] at cc
    clear e
    refine (cc).mono ?_
    rintro e V1 ⟨rfl, hb⟩
    clear cc
    replace HD := HD.trans (hb.mono HD.size)
    obtain ⟨hc, hf⟩ := bcell hb
    have hz := hb.size
    replace b00 := (hc _ 0 L0).trans b00
    replace b10 := (hc _ 0 L1).trans b10
    replace b11 := (hc _ 1 L1).trans b11
    replace b12 := (hc _ 2 L1).trans b12
    replace b13 := (hc _ 3 L1).trans b13
    replace FV := Lib.hid (FixAt.below FV.out hb)
    replace L0 := Nat.lt_of_lt_of_le L0 hz
    replace L1 := Nat.lt_of_lt_of_le L1 hz
    clear hc hf hz hb
    go_wp2_with fail
    exact bodyPost_ret (v := .tuple #[.slice none 0 0, .int .i64 1]) (by simp [results, Try.results43, go_sem]) rfl ⟨⟨none, 0, by rw [HF.out]; rfl, by rw [HF.out]; exact World.ownsRow_nil _ _ _ _⟩, HD⟩
  have cc := lineCode_c a cap l ax ay bx cy W hl FV.out
  rw [if_pos e] at cc
  obtain ⟨e1, es⟩ := e
  refine (cc).mono ?_
  rintro e V1 ⟨rfl, hb⟩
  clear cc
  replace HD := HD.trans (hb.mono HD.size)
  obtain ⟨hc, hf⟩ := bcell hb
  have hz := hb.size
  replace b00 := (hc _ 0 L0).trans b00
  replace b10 := (hc _ 0 L1).trans b10
  replace b11 := (hc _ 1 L1).trans b11
  replace b12 := (hc _ 2 L1).trans b12
  replace b13 := (hc _ 3 L1).trans b13
  replace FV := Lib.hid (FixAt.below FV.out hb)
  replace L0 := Nat.lt_of_lt_of_le L0 hz
  replace L1 := Nat.lt_of_lt_of_le L1 hz
  clear hc hf hz hb
  go_wp2_with fail
  have HF := Lib.hid (show crsR l ax ay bx cy = (crL l ax ay bx cy, 0) by simp [crsR, e1, es])
  have cc := crossingsOf_c a cap l ax ay bx cy V1 hl e1 es FV.out
  rw [show crs l ax ay bx cy (l.length - 1) = crL l ax ay bx cy from rfl] at cc
  generalize crL l ax ay bx cy = L at *
  have hs1 := HD.size
  refine cc.mono ?_
  rintro e V2 ⟨⟨g, cp, rfl, ho, hgg⟩, hb⟩
  have HO := Lib.hid (own_mono ho hs1)
  clear ho cc hgg
  replace HD := HD.trans (hb.mono HD.size)
  obtain ⟨hc, hf⟩ := bcell hb
  have hz := hb.size
  replace b00 := (hc _ 0 L0).trans b00
  replace b10 := (hc _ 0 L1).trans b10
  replace b11 := (hc _ 1 L1).trans b11
  replace b12 := (hc _ 2 L1).trans b12
  replace b13 := (hc _ 3 L1).trans b13
  replace FV := Lib.hid (FixAt.below FV.out hb)
  replace L0 := Nat.lt_of_lt_of_le L0 hz
  replace L1 := Nat.lt_of_lt_of_le L1 hz
  clear hc hf hz hb
  go_wp2_with fail
  exact bodyPost_ret (v := .tuple #[.slice (some ⟨g, 0, none⟩) L.length cp, .int .i64 0]) (by simp [results, Try.results43, go_sem]) rfl ⟨⟨some ⟨g, 0, none⟩, cp, by rw [HF.out], by rw [HF.out]; exact HO.out⟩, HD⟩
set_option maxRecDepth 100000 in
set_option maxHeartbeats 1000000 in
theorem CrossingsOfS_c (a : Option Addr) (cap : Nat) (l : List Fx) (ax ay bx cy : Int) (w : World) (hl : l.length ≤ 4611686018427387904) (hf : FixAt w a l) : Calls Try.prog 44 #[.agg #[.slice a l.length cap], .agg #[.int .i64 ax, .int .i64 ay, .int .i64 bx, .int .i64 cy]] w fun e w' => (∃ (a' : Option Addr) (cap' : Nat), e = .returned (.tuple #[.slice a' (crsR l ax ay bx cy).1.length cap', .int .i64 (crsR l ax ay bx cy).2]) ∧ w'.ownsRow w.heap.size 57 5 (.slice a' (crsR l ax ay bx cy).1.length cap') (crsR l ax ay bx cy).1.length (crFlat (crsR l ax ay bx cy).1)) ∧ Below w.heap.size w w' := by
  have hF0 := Lib.hid hf
  clear hf
  go_enter Try.func44, Try.ntmps44
  go_wp2_with fail
  obtain ⟨W, hW⟩ : ∃ W, W = ((w.alloc (.cells #[.slice a l.length cap] 26)).alloc (.cells #[.int .i64 ax, .int .i64 ay, .int .i64 bx, .int .i64 cy] 66)) := ⟨_, rfl⟩
  have HD : Below w.heap.size w W := by subst hW; exact (by repeat (first | with_reducible exact Below.refl _ _ | with_reducible assumption | with_reducible refine Below.drew ?_ | with_reducible refine Below.alloc ?_ (by first | exact Nat.le_refl _ | (simp; done) | (simp; omega) | omega) _ | with_reducible refine Below.setCell ?_ (by first | exact Nat.le_refl _ | (simp; done) | (simp; omega) | omega) _ | with_reducible refine Below.trans ?_ (Below.mono (by with_reducible assumption) (by first | exact Nat.le_refl _ | (simp; done) | (simp; omega) | omega))))
  have b00 : W.cell? ⟨w.heap.size, 0, none⟩ = some (.slice a l.length cap) := by subst hW; simp [go_sem]
  have L0 : w.heap.size < W.heap.size := by subst hW; first | (simp; done) | (simp; omega)
  have b10 : W.cell? ⟨w.heap.size + 1, 0, none⟩ = some (.int .i64 ax) := by subst hW; simp [go_sem]
  have b11 : W.cell? ⟨w.heap.size + 1, 1, none⟩ = some (.int .i64 ay) := by subst hW; simp [go_sem]
  have b12 : W.cell? ⟨w.heap.size + 1, 2, none⟩ = some (.int .i64 bx) := by subst hW; simp [go_sem]
  have b13 : W.cell? ⟨w.heap.size + 1, 3, none⟩ = some (.int .i64 cy) := by subst hW; simp [go_sem]
  have L1 : w.heap.size + 1 < W.heap.size := by subst hW; first | (simp; done) | (simp; omega)
  rw [← hW]
  clear hW
  generalize w.heap.size + 1 = B1 at *
  obtain ⟨B0, hB0⟩ : ∃ B, B = w.heap.size := ⟨_, rfl⟩
  rw [← hB0] at b00 L0
  try rw [← hB0]
  replace hB0 := Lib.hid hB0
  have FV := Lib.hid (FixAt.below hF0.out HD)
  cases e1 : isTrk l
  case false =>
    have HF := Lib.hid (show crsR l ax ay bx cy = ([], 1) by simp [crsR, e1])
    have cc := IsTrackS_c a cap l W hl FV.out
    rw [e1] at cc
    refine (cc).mono ?_
    rintro e V1 ⟨rfl, hb⟩
    clear cc
    replace HD := HD.trans (hb.mono HD.size)
    obtain ⟨hc, hf⟩ := bcell hb
    have hz := hb.size
    replace b00 := (hc _ 0 L0).trans b00
    replace b10 := (hc _ 0 L1).trans b10
    replace b11 := (hc _ 1 L1).trans b11
    replace b12 := (hc _ 2 L1).trans b12
    replace b13 := (hc _ 3 L1).trans b13
    replace FV := Lib.hid (FixAt.below FV.out hb)
    replace L0 := Nat.lt_of_lt_of_le L0 hz
    replace L1 := Nat.lt_of_lt_of_le L1 hz
    clear hc hf hz hb
    go_wp2_with fail
    exact bodyPost_ret (v := .tuple #[.slice (some ⟨V1.heap.size, 0, none⟩) 0 0, .int .i64 1]) (by simp [results, Try.results44, go_sem]) rfl ⟨⟨some ⟨V1.heap.size, 0, none⟩, 0, by rw [HF.out]; rfl, by rw [HF.out]; exact own_mono (World.ownsRow_lit V1 #[] 0 (Nat.le_refl _) (by unfold maxLen; omega) rfl) HD.size⟩, HD.alloc HD.size _⟩
  have cc := IsTrackS_c a cap l W hl FV.out
  rw [e1] at cc
  refine (cc).mono ?_
  rintro e V0 ⟨rfl, hb⟩
  clear cc
  replace HD := HD.trans (hb.mono HD.size)
  obtain ⟨hc, hf⟩ := bcell hb
  have hz := hb.size
  replace b00 := (hc _ 0 L0).trans b00
  replace b10 := (hc _ 0 L1).trans b10
  replace b11 := (hc _ 1 L1).trans b11
  replace b12 := (hc _ 2 L1).trans b12
  replace b13 := (hc _ 3 L1).trans b13
  replace FV := Lib.hid (FixAt.below FV.out hb)
  replace L0 := Nat.lt_of_lt_of_le L0 hz
  replace L1 := Nat.lt_of_lt_of_le L1 hz
  clear hc hf hz hb
  go_wp2_with fail
  cases es : isSeg ax ay bx cy
  case false =>
    have HF := Lib.hid (show crsR l ax ay bx cy = ([], 1) by simp [crsR, e1, es])
    have cc := isLineS_c ax ay bx cy V0
    rw [es] at cc
    refine (cc).mono ?_
    rintro e V1 ⟨rfl, hb⟩
    clear cc
    replace HD := HD.trans (hb.mono HD.size)
    obtain ⟨hc, hf⟩ := bcell hb
    have hz := hb.size
    replace b00 := (hc _ 0 L0).trans b00
    replace b10 := (hc _ 0 L1).trans b10
    replace b11 := (hc _ 1 L1).trans b11
    replace b12 := (hc _ 2 L1).trans b12
    replace b13 := (hc _ 3 L1).trans b13
    replace FV := Lib.hid (FixAt.below FV.out hb)
    replace L0 := Nat.lt_of_lt_of_le L0 hz
    replace L1 := Nat.lt_of_lt_of_le L1 hz
    clear hc hf hz hb
    go_wp2_with fail
    exact bodyPost_ret (v := .tuple #[.slice (some ⟨V1.heap.size, 0, none⟩) 0 0, .int .i64 1]) (by simp [results, Try.results44, go_sem]) rfl ⟨⟨some ⟨V1.heap.size, 0, none⟩, 0, by rw [HF.out]; rfl, by rw [HF.out]; exact own_mono (World.ownsRow_lit V1 #[] 0 (Nat.le_refl _) (by unfold maxLen; omega) rfl) HD.size⟩, HD.alloc HD.size _⟩
  have cc := isLineS_c ax ay bx cy V0
  rw [es] at cc
  refine (cc).mono ?_
  rintro e V1 ⟨rfl, hb⟩
  clear cc
  replace HD := HD.trans (hb.mono HD.size)
  obtain ⟨hc, hf⟩ := bcell hb
  have hz := hb.size
  replace b00 := (hc _ 0 L0).trans b00
  replace b10 := (hc _ 0 L1).trans b10
  replace b11 := (hc _ 1 L1).trans b11
  replace b12 := (hc _ 2 L1).trans b12
  replace b13 := (hc _ 3 L1).trans b13
  replace FV := Lib.hid (FixAt.below FV.out hb)
  replace L0 := Nat.lt_of_lt_of_le L0 hz
  replace L1 := Nat.lt_of_lt_of_le L1 hz
  clear hc hf hz hb
  go_wp2_with fail
  have HF := Lib.hid (show crsR l ax ay bx cy = (crL l ax ay bx cy, 0) by simp [crsR, e1, es])
  have cc := l05Crossings_c a cap l ax ay bx cy V1 hl e1 es FV.out
  rw [show crs l ax ay bx cy (l.length - 1) = crL l ax ay bx cy from rfl] at cc
  generalize crL l ax ay bx cy = L at *
  have hs1 := HD.size
  refine cc.mono ?_
  rintro e V2 ⟨⟨g, cp, rfl, ho, hgg⟩, hb⟩
  have HO := Lib.hid (own_mono ho hs1)
  clear ho cc hgg
  replace HD := HD.trans (hb.mono HD.size)
  obtain ⟨hc, hf⟩ := bcell hb
  have hz := hb.size
  replace b00 := (hc _ 0 L0).trans b00
  replace b10 := (hc _ 0 L1).trans b10
  replace b11 := (hc _ 1 L1).trans b11
  replace b12 := (hc _ 2 L1).trans b12
  replace b13 := (hc _ 3 L1).trans b13
  replace FV := Lib.hid (FixAt.below FV.out hb)
  replace L0 := Nat.lt_of_lt_of_le L0 hz
  replace L1 := Nat.lt_of_lt_of_le L1 hz
  clear hc hf hz hb
  go_wp2_with fail
  exact bodyPost_ret (v := .tuple #[.slice (some ⟨g, 0, none⟩) L.length cp, .int .i64 0]) (by simp [results, Try.results44, go_sem]) rfl ⟨⟨some ⟨g, 0, none⟩, cp, by rw [HF.out], by rw [HF.out]; exact HO.out⟩, HD⟩
end Go.Proofs.Ytdepdkpehbkcjaa
