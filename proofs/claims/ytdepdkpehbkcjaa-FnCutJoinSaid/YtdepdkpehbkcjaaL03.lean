/-
  What the functions on tracks return: contracts of the program's, the reference's and the laws' functions. Their conditions stand with each.
-/
import Derived.Test.YtdepdkpehbkcjaaL02e
import Derived.Test.YtdepdkpehbkcjaaTrk
namespace Go.Proofs.Ytdepdkpehbkcjaa
set_option linter.unusedVariables false
open Go.RowKit Go.Deep

set_option maxHeartbeats 400000 in
theorem szFixS_c (a : Option Addr) (n cap : Nat) (left : Int) (w : World) (hn : n ≤ 9223372036854775807) (h0 : 0 ≤ left) (h1 : left ≤ 1048576) : Calls Try.prog 75 #[.slice a n cap, .int .i64 left] w fun e w' => e = .returned (.int .i64 (if (n : Int) ≤ left then left - n else -1)) ∧ w = w' := by
  by_cases h : (n : Int) ≤ left
  · go_enter Try.func75, Try.ntmps75
    go_wp2
    go_ret
    exact ⟨ret_int (by first | rfl | simp [h]), rfl⟩
  · go_enter Try.func75, Try.ntmps75
    go_wp2
    go_ret
    exact ⟨ret_int (by first | rfl | simp [h]), rfl⟩
set_option maxHeartbeats 400000 in
theorem szTrack_c (a : Option Addr) (n cap : Nat) (left : Int) (w : World) (hn : n ≤ 9223372036854775807) (h0 : 0 ≤ left) (h1 : left ≤ 1048576) : Calls Try.prog 26 #[.agg #[.slice a n cap], .int .i64 left] w fun e w' => e = .returned (.int .i64 (if (n : Int) ≤ left then left - n else -1)) ∧ Below w.heap.size w w' := by
  have cz := fun w => szFixS_c a n cap left w hn h0 h1
  by_cases h : (n : Int) ≤ left
  · rw [if_pos h] at cz ⊢
    have CZ := Lib.hid cz
    clear cz
    go_enter Try.func26, Try.ntmps26
    go_wp2_with (go_at_call 75; refine (CZ.out _).mono ?_; rintro e w' ⟨rfl, rfl⟩)
    go_ret
    exact ⟨rfl, (by repeat (first | with_reducible exact Below.refl _ _ | with_reducible assumption | with_reducible refine Below.drew ?_ | with_reducible refine Below.alloc ?_ (by first | exact Nat.le_refl _ | (simp; done) | (simp; omega) | omega) _ | with_reducible refine Below.setCell ?_ (by first | exact Nat.le_refl _ | (simp; done) | (simp; omega) | omega) _ | with_reducible refine Below.trans ?_ (Below.mono (by with_reducible assumption) (by first | exact Nat.le_refl _ | (simp; done) | (simp; omega) | omega))))⟩
  · rw [if_neg h] at cz ⊢
    have CZ := Lib.hid cz
    clear cz
    go_enter Try.func26, Try.ntmps26
    go_wp2_with (go_at_call 75; refine (CZ.out _).mono ?_; rintro e w' ⟨rfl, rfl⟩)
    go_ret
    exact ⟨rfl, (by repeat (first | with_reducible exact Below.refl _ _ | with_reducible assumption | with_reducible refine Below.drew ?_ | with_reducible refine Below.alloc ?_ (by first | exact Nat.le_refl _ | (simp; done) | (simp; omega) | omega) _ | with_reducible refine Below.setCell ?_ (by first | exact Nat.le_refl _ | (simp; done) | (simp; omega) | omega) _ | with_reducible refine Below.trans ?_ (Below.mono (by with_reducible assumption) (by first | exact Nat.le_refl _ | (simp; done) | (simp; omega) | omega))))⟩
set_option maxHeartbeats 400000 in
theorem toFix_c (t x y : Int) (w : World) : Calls Try.prog 113 #[.agg #[.int .i64 t, .int .i64 x, .int .i64 y]] w fun e w' => e = .returned (.agg #[.int .i64 t, .int .i64 x, .int .i64 y]) ∧ Below w.heap.size w w' := by
  go_enter Try.func113, Try.ntmps113
  go_wp2
  exact bodyPost_ret (v := .agg #[.int .i64 t, .int .i64 x, .int .i64 y]) (by simp [results, Try.results113, go_sem]) rfl ⟨rfl, (by repeat (first | with_reducible exact Below.refl _ _ | with_reducible assumption | with_reducible refine Below.drew ?_ | with_reducible refine Below.alloc ?_ (by first | exact Nat.le_refl _ | (simp; done) | (simp; omega) | omega) _ | with_reducible refine Below.setCell ?_ (by first | exact Nat.le_refl _ | (simp; done) | (simp; omega) | omega) _ | with_reducible refine Below.trans ?_ (Below.mono (by with_reducible assumption) (by first | exact Nat.le_refl _ | (simp; done) | (simp; omega) | omega))))⟩
theorem FixBlk.set {w : World} {g : Nat} {T : TypeId} {l : List Fx} (h : FixBlk w g T l) (a : Addr) (v : Value) (hne : g ≠ a.block) : FixBlk (w.setCell a v) g T l := (heap_setCell_other w a g v hne).trans h
theorem infoFix : (Try.prog.info? 32).map (fun i => (i.zero, i.size, i.bytes)) = some (some (.agg #[.int .i64 0, .int .i64 0, .int .i64 0]), 3, 24) := by kernel_rfl
theorem made_fix (n : Nat) : (madeCells (Value.cells (.agg #[.int .i64 0, .int .i64 0, .int .i64 0])) (n * 3)).toList = List.replicate (n * 3) (.int .i64 0) := by
  apply List.ext_getElem?
  intro j
  by_cases hj : j < n * 3
  · have : j % 3 = 0 ∨ j % 3 = 1 ∨ j % 3 = 2 := by omega
    rcases this with h | h | h <;> simp [madeCells, Value.cells, hj, h]
  · simp [madeCells, Value.cells, hj]
set_option maxHeartbeats 2000000 in
theorem toFixS_c (a : Option Addr) (cap : Nat) (l : List Fx) (w : World) (hl : l.length ≤ 1048576) (hf : FixAt w a l) : Calls Try.prog 78 #[.slice a l.length cap] w fun e w' => (∃ g : Nat, e = .returned (.slice (some ⟨g, 0, none⟩) l.length l.length) ∧ FixBlk w' g 32 l ∧ w.heap.size ≤ g) ∧ Below w.heap.size w w' := by
  obtain ⟨i0, hi, hz0, hz1, hz2⟩ := info_parts infoFix
  go_enter Try.func78, Try.ntmps78
  go_wp2_with (at_make; refine wpList_make_full _ rfl _ _ 24 rfl w.heap.size 32 i0 _ 3 Try.underlying24 hi hz0 hz1 .i64 .i64 _ _ l.length rfl rfl rfl rfl (by rw [hz2]; omega) (by unfold maxLen; omega) (Nat.le_refl _) ?_; intro w1 hown hgrow)
  rw [made_fix, ← filled_zero] at hown
  have hb0 : Below w.heap.size w w1 := ⟨hgrow.os, hgrow.tape, hgrow.output, hgrow.size, fun k hk => hgrow.block k hk (by simp)⟩
  clear hgrow
  go_loopw [4] (fun a wr => ∃ k : Nat, a = .int .i64 k ∧ k ≤ l.length ∧ wr.ownsRow w.heap.size 32 3 (.slice (some ⟨w.heap.size, 0, none⟩) l.length l.length) l.length (filled l k) ∧ Below w.heap.size w wr) (fun a _ => l.length - (intOf a).toNat)
  case atStart => exact ⟨0, rfl, Nat.zero_le _, hown, hb0⟩
  case round =>
    obtain ⟨k, rfl, hk, ho, hbl⟩ := hrel
    by_cases h : k < l.length
    · obtain ⟨b, off, rfl, hlt, hcs⟩ := (hf.below hbl).head (by omega)
      obtain ⟨c0, c1, c2⟩ := hcs k h
      have h' : (k : Int) < (l.length : Int) := by omega
      clear hcs
      go_wp2_with (
        go_at_call 113; refine (toFix_c _ _ _ _).mono ?_; rintro e w2 ⟨rfl, hb⟩
        have ho2 := ownsRow_below ho hb
        have hb2 := hbl.trans (hb.mono hbl.size)
        have g0 := (ho2.cellAt (k * 3) (by omega)).trans (filled_get h).1
        have g1 := (ho2.cellAt (k * 3 + 1) (by omega)).trans (filled_get h).2.1
        have g2 := (ho2.cellAt (k * 3 + 2) (by omega)).trans (filled_get h).2.2
        have q0 := ho2.frozenAt (k * 3)
        have q1 := ho2.frozenAt (k * 3 + 1)
        have q2 := ho2.frozenAt (k * 3 + 2)
        clear ho c0 c1 c2)
      refine ⟨⟨k + 1, by simp, by omega, ?_, ?_⟩, by simp [intOf]; omega⟩
      · have s3 := ((ho2.stored (k * 3) (.int .i64 (fx l k).t)).1.stored (k * 3 + 1) (.int .i64 (fx l k).x)).1.stored (k * 3 + 2) (.int .i64 (fx l k).y)
        rw [filled_succ h] at s3
        exact s3.1
      · exact (by repeat (first | with_reducible exact Below.refl _ _ | with_reducible assumption | with_reducible refine Below.drew ?_ | with_reducible refine Below.alloc ?_ (by first | exact Nat.le_refl _ | (simp; done) | (simp; omega) | omega) _ | with_reducible refine Below.setCell ?_ (by first | exact Nat.le_refl _ | (simp; done) | (simp; omega) | omega) _ | with_reducible refine Below.trans ?_ (Below.mono (by with_reducible assumption) (by first | exact Nat.le_refl _ | (simp; done) | (simp; omega) | omega))))
    · obtain rfl : k = l.length := by omega
      rw [filled_all] at ho
      go_wp2
      exact bodyPost_ret (v := .slice (some ⟨w.heap.size, 0, none⟩) l.length l.length) (by simp [results, Try.results78, go_sem]) rfl ⟨⟨_, rfl, fixBlk_of_own ho, Nat.le_refl _⟩, hbl⟩
set_option maxHeartbeats 1000000 in
theorem toTrack_c (a : Option Addr) (cap : Nat) (l : List Fx) (w : World) (hl : l.length ≤ 1048576) (hf : FixAt w a l) : Calls Try.prog 28 #[.agg #[.slice a l.length cap]] w fun e w' => (∃ g : Nat, e = .returned (.agg #[.slice (some ⟨g, 0, none⟩) l.length l.length]) ∧ FixBlk w' g 32 l ∧ w.heap.size ≤ g) ∧ Below w.heap.size w w' := by
  go_enter Try.func28, Try.ntmps28
  go_wp2_with (go_at_call 78; refine (toFixS_c a cap l _ hl (hf.below (by repeat (first | with_reducible exact Below.refl _ _ | with_reducible assumption | with_reducible refine Below.drew ?_ | with_reducible refine Below.alloc ?_ (by first | exact Nat.le_refl _ | (simp; done) | (simp; omega) | omega) _ | with_reducible refine Below.setCell ?_ (by first | exact Nat.le_refl _ | (simp; done) | (simp; omega) | omega) _ | with_reducible refine Below.trans ?_ (Below.mono (by with_reducible assumption) (by first | exact Nat.le_refl _ | (simp; done) | (simp; omega) | omega)))))).mono ?_; rintro e w2 ⟨⟨g, rfl, hg, hlg⟩, hb⟩; obtain ⟨hc, hf⟩ := bcell hb; have hz := hb.size; (try simp at hz hlg))
  exact bodyPost_ret (v := .agg #[.slice (some ⟨g, 0, none⟩) l.length l.length]) (by simp [results, Try.results28, go_sem, *]) rfl ⟨⟨g, rfl, (hg.set _ _ (by simp; omega)).set _ _ (by simp; omega), by omega⟩, (by repeat (first | with_reducible exact Below.refl _ _ | with_reducible assumption | with_reducible refine Below.drew ?_ | with_reducible refine Below.alloc ?_ (by first | exact Nat.le_refl _ | (simp; done) | (simp; omega) | omega) _ | with_reducible refine Below.setCell ?_ (by first | exact Nat.le_refl _ | (simp; done) | (simp; omega) | omega) _ | with_reducible refine Below.trans ?_ (Below.mono (by with_reducible assumption) (by first | exact Nat.le_refl _ | (simp; done) | (simp; omega) | omega))))⟩
set_option maxHeartbeats 400000 in
theorem pointOf_c (t x y : Int) (w : World) : Calls Try.prog 73 #[.agg #[.int .i64 t, .int .i64 x, .int .i64 y]] w fun e w' => e = .returned (.agg #[.int .i64 x, .int .i64 y]) ∧ Below w.heap.size w w' := by
  go_enter Try.func73, Try.ntmps73
  go_wp2
  exact bodyPost_ret (v := .agg #[.int .i64 x, .int .i64 y]) (by simp [results, Try.results73, go_sem]) rfl ⟨rfl, (by repeat (first | with_reducible exact Below.refl _ _ | with_reducible assumption | with_reducible refine Below.drew ?_ | with_reducible refine Below.alloc ?_ (by first | exact Nat.le_refl _ | (simp; done) | (simp; omega) | omega) _ | with_reducible refine Below.setCell ?_ (by first | exact Nat.le_refl _ | (simp; done) | (simp; omega) | omega) _ | with_reducible refine Below.trans ?_ (Below.mono (by with_reducible assumption) (by first | exact Nat.le_refl _ | (simp; done) | (simp; omega) | omega))))⟩
set_option maxHeartbeats 400000 in
theorem l03Point_c (t x y : Int) (w : World) : Calls Try.prog 90 #[.agg #[.int .i64 t, .int .i64 x, .int .i64 y]] w fun e w' => e = .returned (.agg #[.int .i64 x, .int .i64 y]) ∧ Below w.heap.size w w' := by
  go_enter Try.func90, Try.ntmps90
  go_wp2
  exact bodyPost_ret (v := .agg #[.int .i64 x, .int .i64 y]) (by simp [results, Try.results90, go_sem]) rfl ⟨rfl, (by repeat (first | with_reducible exact Below.refl _ _ | with_reducible assumption | with_reducible refine Below.drew ?_ | with_reducible refine Below.alloc ?_ (by first | exact Nat.le_refl _ | (simp; done) | (simp; omega) | omega) _ | with_reducible refine Below.setCell ?_ (by first | exact Nat.le_refl _ | (simp; done) | (simp; omega) | omega) _ | with_reducible refine Below.trans ?_ (Below.mono (by with_reducible assumption) (by first | exact Nat.le_refl _ | (simp; done) | (simp; omega) | omega))))⟩
set_option maxHeartbeats 400000 in
theorem isTime_c (t : Int) (w : World) : Calls Try.prog 72 #[.int .i64 t] w fun e w' => e = .returned (.bool (inR t 0 1000000000)) ∧ w = w' := by
  go_enter Try.func72, Try.ntmps72
  go_wp2_with (go_at_call 65; refine (within_c _ _ _ _).mono ?_; rintro e w' ⟨rfl, rfl⟩)
  go_ret
  exact ⟨rfl, rfl⟩
set_option maxHeartbeats 4000000 in
theorem IsTrackS_c (a : Option Addr) (cap : Nat) (l : List Fx) (w : World) (hl : l.length ≤ 4611686018427387904) (hf : FixAt w a l) : Calls Try.prog 59 #[.agg #[.slice a l.length cap]] w fun e w' => e = .returned (.bool (isTrk l)) ∧ Below w.heap.size w w' := by
  by_cases h1 : (l.length : Int) < 2
  · have E := Lib.hid (show isTrk l = false by simp [isTrk]; omega)
    go_enter Try.func59, Try.ntmps59
    go_wp2
    go_ret
    exact ⟨ret_bool E.out.symm, (by repeat (first | with_reducible exact Below.refl _ _ | with_reducible assumption | with_reducible refine Below.drew ?_ | with_reducible refine Below.alloc ?_ (by first | exact Nat.le_refl _ | (simp; done) | (simp; omega) | omega) _ | with_reducible refine Below.setCell ?_ (by first | exact Nat.le_refl _ | (simp; done) | (simp; omega) | omega) _ | with_reducible refine Below.trans ?_ (Below.mono (by with_reducible assumption) (by first | exact Nat.le_refl _ | (simp; done) | (simp; omega) | omega))))⟩
  by_cases h2 : (40 : Int) < (l.length : Int)
  · have E := Lib.hid (show isTrk l = false by simp [isTrk]; omega)
    go_enter Try.func59, Try.ntmps59
    go_wp2
    go_ret
    exact ⟨ret_bool E.out.symm, (by repeat (first | with_reducible exact Below.refl _ _ | with_reducible assumption | with_reducible refine Below.drew ?_ | with_reducible refine Below.alloc ?_ (by first | exact Nat.le_refl _ | (simp; done) | (simp; omega) | omega) _ | with_reducible refine Below.setCell ?_ (by first | exact Nat.le_refl _ | (simp; done) | (simp; omega) | omega) _ | with_reducible refine Below.trans ?_ (Below.mono (by with_reducible assumption) (by first | exact Nat.le_refl _ | (simp; done) | (simp; omega) | omega))))⟩
  go_enter Try.func59, Try.ntmps59
  go_wp2
  go_loopw [4] (fun x wr => ∃ k : Nat, x = .int .i64 k ∧ k ≤ l.length ∧ Hid (okUpto l k = true) ∧ Below (w.heap.size + 1) (w.alloc (.cells #[.slice a l.length cap] 26)) wr) (fun x _ => l.length - (intOf x).toNat)
  case atStart => exact ⟨0, rfl, Nat.zero_le _, Lib.hid rfl, Below.refl _ _⟩
  case round =>
    obtain ⟨k, rfl, hk, ho, hbl⟩ := hrel
    have cb := hbl.cell (p := ⟨w.heap.size, 0, none⟩) (by simp)
    have hz := hbl.size
    simp at cb hz
    have hlx : w.heap.size < wr.heap.size := by omega
    have HB : Below w.heap.size w wr := ((Below.refl _ _).alloc (Nat.le_refl _) _).trans (hbl.mono (Nat.le_succ _))
    by_cases h : k < l.length
    · obtain ⟨b, off, rfl, hlt, hcs⟩ := (hf.below HB).head (by omega)
      obtain ⟨c0, c1, c2⟩ := hcs k h
      have h' : (k : Int) < (l.length : Int) := by omega
      cases e1 : inR (fx l k).t 0 1000000000
      · have HF := Lib.hid (isTrk_no (okAt_1 e1) h)
        clear hcs
        go_wp2
        refine wp_region_later (by kernel_rfl) (by kernel_rfl) ?_
        repeat (first | go_big_quiet_step ((first | (go_at_call 60; exact later_of_same _ (l01In_c _ _ _ _)) | (go_at_call 90; exact later_of _ (l03Point_c _ _ _ _)) | (go_at_call 104; exact later_of _ (isPointS_c _ _ _)))) | quiet_step ((first | (go_at_call 60; exact later_of_same _ (l01In_c _ _ _ _)) | (go_at_call 90; exact later_of _ (l03Point_c _ _ _ _)) | (go_at_call 104; exact later_of _ (isPointS_c _ _ _)))))
        refine wpQuiet_nil ?_
        intro _ hw'
        obtain ⟨s1, hw''⟩ := hw'
        subst hw''
        have hb1 := s1.below
        generalize s1.w = w1 at hb1 ⊢
        clear s1
        try replace hb1 := below_trans (by with_reducible assumption) hb1
        obtain ⟨hc1, hf1⟩ := bcell hb1
        have hz1 := hb1.size
        try simp at hz1
        try have hz10 : w.heap.size ≤ w1.heap.size := by omega
        try have hz11 : w.heap.size < w1.heap.size := by omega
        try have hz12 : w.heap.size + 1 < w1.heap.size := by omega
        try have hz13 : w.heap.size + 1 + 1 < w1.heap.size := by omega
        try have hz14 : w.heap.size + 1 + 1 + 1 < w1.heap.size := by omega
        go_wp2
        go_ret
        exact ⟨ret_bool HF.out.symm, (by repeat (first | with_reducible exact Below.refl _ _ | with_reducible assumption | with_reducible refine Below.drew ?_ | with_reducible refine Below.alloc ?_ (by first | exact Nat.le_refl _ | (simp; done) | (simp; omega) | omega) _ | with_reducible refine Below.setCell ?_ (by first | exact Nat.le_refl _ | (simp; done) | (simp; omega) | omega) _ | with_reducible refine Below.trans ?_ (Below.mono (by with_reducible assumption) (by first | exact Nat.le_refl _ | (simp; done) | (simp; omega) | omega))))⟩
      cases e2 : isPt (fx l k).x (fx l k).y
      · have HF := Lib.hid (isTrk_no (okAt_2 e2) h)
        clear hcs
        go_wp2
        refine wp_region_later (by kernel_rfl) (by kernel_rfl) ?_
        repeat (first | go_big_quiet_step ((first | (go_at_call 60; exact later_of_same _ (l01In_c _ _ _ _)) | (go_at_call 90; exact later_of _ (l03Point_c _ _ _ _)) | (go_at_call 104; exact later_of _ (isPointS_c _ _ _)))) | quiet_step ((first | (go_at_call 60; exact later_of_same _ (l01In_c _ _ _ _)) | (go_at_call 90; exact later_of _ (l03Point_c _ _ _ _)) | (go_at_call 104; exact later_of _ (isPointS_c _ _ _)))))
        refine wpQuiet_nil ?_
        intro _ hw'
        obtain ⟨s1, hw''⟩ := hw'
        subst hw''
        have hb1 := s1.below
        generalize s1.w = w1 at hb1 ⊢
        clear s1
        try replace hb1 := below_trans (by with_reducible assumption) hb1
        obtain ⟨hc1, hf1⟩ := bcell hb1
        have hz1 := hb1.size
        try simp at hz1
        try have hz10 : w.heap.size ≤ w1.heap.size := by omega
        try have hz11 : w.heap.size < w1.heap.size := by omega
        try have hz12 : w.heap.size + 1 < w1.heap.size := by omega
        try have hz13 : w.heap.size + 1 + 1 < w1.heap.size := by omega
        try have hz14 : w.heap.size + 1 + 1 + 1 < w1.heap.size := by omega
        go_wp2
        go_ret
        exact ⟨ret_bool HF.out.symm, (by repeat (first | with_reducible exact Below.refl _ _ | with_reducible assumption | with_reducible refine Below.drew ?_ | with_reducible refine Below.alloc ?_ (by first | exact Nat.le_refl _ | (simp; done) | (simp; omega) | omega) _ | with_reducible refine Below.setCell ?_ (by first | exact Nat.le_refl _ | (simp; done) | (simp; omega) | omega) _ | with_reducible refine Below.trans ?_ (Below.mono (by with_reducible assumption) (by first | exact Nat.le_refl _ | (simp; done) | (simp; omega) | omega))))⟩
      rcases Nat.eq_zero_or_pos k with hk0 | hk0
      · subst hk0
        have HK := Lib.hid (okAt_4 e1 e2 (.inl rfl))
        clear hcs
        simp only [Nat.zero_mul, Nat.add_zero] at c0 c1 c2
        go_wp2
        refine wp_region_later (by kernel_rfl) (by kernel_rfl) ?_
        repeat (first | go_big_quiet_step ((first | (go_at_call 60; exact later_of_same _ (l01In_c _ _ _ _)) | (go_at_call 90; exact later_of _ (l03Point_c _ _ _ _)) | (go_at_call 104; exact later_of _ (isPointS_c _ _ _)))) | quiet_step ((first | (go_at_call 60; exact later_of_same _ (l01In_c _ _ _ _)) | (go_at_call 90; exact later_of _ (l03Point_c _ _ _ _)) | (go_at_call 104; exact later_of _ (isPointS_c _ _ _)))))
        refine wpQuiet_nil ?_
        intro _ hw'
        obtain ⟨s1, hw''⟩ := hw'
        subst hw''
        have hb1 := s1.below
        generalize s1.w = w1 at hb1 ⊢
        clear s1
        try replace hb1 := below_trans (by with_reducible assumption) hb1
        obtain ⟨hc1, hf1⟩ := bcell hb1
        have hz1 := hb1.size
        try simp at hz1
        try have hz10 : w.heap.size ≤ w1.heap.size := by omega
        try have hz11 : w.heap.size < w1.heap.size := by omega
        try have hz12 : w.heap.size + 1 < w1.heap.size := by omega
        try have hz13 : w.heap.size + 1 + 1 < w1.heap.size := by omega
        try have hz14 : w.heap.size + 1 + 1 + 1 < w1.heap.size := by omega
        go_wp2
        refine ⟨⟨1, by simp, by omega, Lib.hid (by simp [okUpto, HK.out]), ?_⟩, by simp [intOf]; omega⟩
        exact hbl.trans ((((Below.refl _ _).alloc (Nat.le_refl _) _).trans (hb1.mono (by simp))).mono hz)
      obtain ⟨j, rfl⟩ : ∃ j, k = j + 1 := ⟨k - 1, by omega⟩
      obtain ⟨d0, _, _⟩ := hcs j (by omega)
      clear hcs
      have hj : ((j + 1 : Nat) : Int) = (j : Int) + 1 := by omega
      by_cases h3 : (fx l (j + 1)).t ≤ (fx l j).t
      · have HF := Lib.hid (isTrk_no (okAt_3 (l := l) (i := j + 1) (Nat.succ_pos j) (by simpa using h3)) h)
        simp only [hj] at h' ⊢
        go_wp2
        refine wp_region_later (by kernel_rfl) (by kernel_rfl) ?_
        repeat (first | go_big_quiet_step ((first | (go_at_call 60; exact later_of_same _ (l01In_c _ _ _ _)) | (go_at_call 90; exact later_of _ (l03Point_c _ _ _ _)) | (go_at_call 104; exact later_of _ (isPointS_c _ _ _)))) | quiet_step ((first | (go_at_call 60; exact later_of_same _ (l01In_c _ _ _ _)) | (go_at_call 90; exact later_of _ (l03Point_c _ _ _ _)) | (go_at_call 104; exact later_of _ (isPointS_c _ _ _)))))
        refine wpQuiet_nil ?_
        intro _ hw'
        obtain ⟨s1, hw''⟩ := hw'
        subst hw''
        have hb1 := s1.below
        generalize s1.w = w1 at hb1 ⊢
        clear s1
        try replace hb1 := below_trans (by with_reducible assumption) hb1
        obtain ⟨hc1, hf1⟩ := bcell hb1
        have hz1 := hb1.size
        try simp at hz1
        try have hz10 : w.heap.size ≤ w1.heap.size := by omega
        try have hz11 : w.heap.size < w1.heap.size := by omega
        try have hz12 : w.heap.size + 1 < w1.heap.size := by omega
        try have hz13 : w.heap.size + 1 + 1 < w1.heap.size := by omega
        try have hz14 : w.heap.size + 1 + 1 + 1 < w1.heap.size := by omega
        go_wp2
        go_ret
        exact ⟨ret_bool HF.out.symm, (by repeat (first | with_reducible exact Below.refl _ _ | with_reducible assumption | with_reducible refine Below.drew ?_ | with_reducible refine Below.alloc ?_ (by first | exact Nat.le_refl _ | (simp; done) | (simp; omega) | omega) _ | with_reducible refine Below.setCell ?_ (by first | exact Nat.le_refl _ | (simp; done) | (simp; omega) | omega) _ | with_reducible refine Below.trans ?_ (Below.mono (by with_reducible assumption) (by first | exact Nat.le_refl _ | (simp; done) | (simp; omega) | omega))))⟩
      · have HK := Lib.hid (okAt_4 (l := l) (i := j + 1) e1 e2 (.inr (by simpa using h3)))
        simp only [hj] at h' ⊢
        go_wp2
        refine wp_region_later (by kernel_rfl) (by kernel_rfl) ?_
        repeat (first | go_big_quiet_step ((first | (go_at_call 60; exact later_of_same _ (l01In_c _ _ _ _)) | (go_at_call 90; exact later_of _ (l03Point_c _ _ _ _)) | (go_at_call 104; exact later_of _ (isPointS_c _ _ _)))) | quiet_step ((first | (go_at_call 60; exact later_of_same _ (l01In_c _ _ _ _)) | (go_at_call 90; exact later_of _ (l03Point_c _ _ _ _)) | (go_at_call 104; exact later_of _ (isPointS_c _ _ _)))))
        refine wpQuiet_nil ?_
        intro _ hw'
        obtain ⟨s1, hw''⟩ := hw'
        subst hw''
        have hb1 := s1.below
        generalize s1.w = w1 at hb1 ⊢
        clear s1
        try replace hb1 := below_trans (by with_reducible assumption) hb1
        obtain ⟨hc1, hf1⟩ := bcell hb1
        have hz1 := hb1.size
        try simp at hz1
        try have hz10 : w.heap.size ≤ w1.heap.size := by omega
        try have hz11 : w.heap.size < w1.heap.size := by omega
        try have hz12 : w.heap.size + 1 < w1.heap.size := by omega
        try have hz13 : w.heap.size + 1 + 1 < w1.heap.size := by omega
        try have hz14 : w.heap.size + 1 + 1 + 1 < w1.heap.size := by omega
        go_wp2
        refine ⟨⟨j + 1 + 1, by simp, by omega, Lib.hid (by simp [okUpto, HK.out, show okUpto l j = true ∧ okAt l j = true by simpa [okUpto] using ho.out]), ?_⟩, by simp [intOf]; omega⟩
        exact hbl.trans ((((Below.refl _ _).alloc (Nat.le_refl _) _).trans (hb1.mono (by simp))).mono hz)
    · obtain rfl : k = l.length := by omega
      have E := Lib.hid (show isTrk l = true by simp [isTrk, ho.out]; omega)
      go_wp2
      go_ret
      exact ⟨ret_bool E.out.symm, HB⟩
set_option maxHeartbeats 4000000 in
theorem IsTrack_c (a : Option Addr) (cap : Nat) (l : List Fx) (w : World) (hl : l.length ≤ 4611686018427387904) (hf : FixAt w a l) : Calls Try.prog 24 #[.agg #[.slice a l.length cap]] w fun e w' => e = .returned (.bool (isTrk l)) ∧ Below w.heap.size w w' := by
  go_enter Try.func24, Try.ntmps24
  go_wp2
  go_loopw [8] (fun x wr => ∃ k : Nat, x = .int .i64 k ∧ k ≤ l.length ∧ Hid (okUpto l k = true) ∧ Below (w.heap.size + 1) (w.alloc (.cells #[.slice a l.length cap] 26)) wr) (fun x _ => l.length - (intOf x).toNat)
  case atStart => exact ⟨0, rfl, Nat.zero_le _, Lib.hid rfl, Below.refl _ _⟩
  case round =>
    obtain ⟨k, rfl, hk, ho, hbl⟩ := hrel
    have cb := hbl.cell (p := ⟨w.heap.size, 0, none⟩) (by simp)
    have hz := hbl.size
    simp at cb hz
    have hlx : w.heap.size < wr.heap.size := by omega
    have HB : Below w.heap.size w wr := ((Below.refl _ _).alloc (Nat.le_refl _) _).trans (hbl.mono (Nat.le_succ _))
    by_cases h : k < l.length
    · obtain ⟨b, off, rfl, hlt, hcs⟩ := (hf.below HB).head (by omega)
      obtain ⟨c0, c1, c2⟩ := hcs k h
      have h' : (k : Int) < (l.length : Int) := by omega
      cases e1 : inR (fx l k).t 0 1000000000
      · have HF := Lib.hid (isTrk_no (okAt_1 e1) h)
        clear hcs
        go_wp2
        refine wp_region_later (by kernel_rfl) (by kernel_rfl) ?_
        repeat (first | go_big_quiet_step ((first | (go_at_call 72; exact later_of_same _ (isTime_c _ _)) | (go_at_call 73; exact later_of _ (pointOf_c _ _ _ _)) | (go_at_call 64; exact later_of _ (isPoint_c _ _ _)))) | quiet_step ((first | (go_at_call 72; exact later_of_same _ (isTime_c _ _)) | (go_at_call 73; exact later_of _ (pointOf_c _ _ _ _)) | (go_at_call 64; exact later_of _ (isPoint_c _ _ _)))))
        refine wpQuiet_nil ?_
        intro _ hw'
        obtain ⟨s1, hw''⟩ := hw'
        subst hw''
        have hb1 := s1.below
        generalize s1.w = w1 at hb1 ⊢
        clear s1
        try replace hb1 := below_trans (by with_reducible assumption) hb1
        obtain ⟨hc1, hf1⟩ := bcell hb1
        have hz1 := hb1.size
        try simp at hz1
        try have hz10 : w.heap.size ≤ w1.heap.size := by omega
        try have hz11 : w.heap.size < w1.heap.size := by omega
        try have hz12 : w.heap.size + 1 < w1.heap.size := by omega
        try have hz13 : w.heap.size + 1 + 1 < w1.heap.size := by omega
        try have hz14 : w.heap.size + 1 + 1 + 1 < w1.heap.size := by omega
        go_wp2
        go_ret
        exact ⟨ret_bool HF.out.symm, (by repeat (first | with_reducible exact Below.refl _ _ | with_reducible assumption | with_reducible refine Below.drew ?_ | with_reducible refine Below.alloc ?_ (by first | exact Nat.le_refl _ | (simp; done) | (simp; omega) | omega) _ | with_reducible refine Below.setCell ?_ (by first | exact Nat.le_refl _ | (simp; done) | (simp; omega) | omega) _ | with_reducible refine Below.trans ?_ (Below.mono (by with_reducible assumption) (by first | exact Nat.le_refl _ | (simp; done) | (simp; omega) | omega))))⟩
      cases e2 : isPt (fx l k).x (fx l k).y
      · have HF := Lib.hid (isTrk_no (okAt_2 e2) h)
        clear hcs
        go_wp2
        refine wp_region_later (by kernel_rfl) (by kernel_rfl) ?_
        repeat (first | go_big_quiet_step ((first | (go_at_call 72; exact later_of_same _ (isTime_c _ _)) | (go_at_call 73; exact later_of _ (pointOf_c _ _ _ _)) | (go_at_call 64; exact later_of _ (isPoint_c _ _ _)))) | quiet_step ((first | (go_at_call 72; exact later_of_same _ (isTime_c _ _)) | (go_at_call 73; exact later_of _ (pointOf_c _ _ _ _)) | (go_at_call 64; exact later_of _ (isPoint_c _ _ _)))))
        refine wpQuiet_nil ?_
        intro _ hw'
        obtain ⟨s1, hw''⟩ := hw'
        subst hw''
        have hb1 := s1.below
        generalize s1.w = w1 at hb1 ⊢
        clear s1
        try replace hb1 := below_trans (by with_reducible assumption) hb1
        obtain ⟨hc1, hf1⟩ := bcell hb1
        have hz1 := hb1.size
        try simp at hz1
        try have hz10 : w.heap.size ≤ w1.heap.size := by omega
        try have hz11 : w.heap.size < w1.heap.size := by omega
        try have hz12 : w.heap.size + 1 < w1.heap.size := by omega
        try have hz13 : w.heap.size + 1 + 1 < w1.heap.size := by omega
        try have hz14 : w.heap.size + 1 + 1 + 1 < w1.heap.size := by omega
        go_wp2
        go_ret
        exact ⟨ret_bool HF.out.symm, (by repeat (first | with_reducible exact Below.refl _ _ | with_reducible assumption | with_reducible refine Below.drew ?_ | with_reducible refine Below.alloc ?_ (by first | exact Nat.le_refl _ | (simp; done) | (simp; omega) | omega) _ | with_reducible refine Below.setCell ?_ (by first | exact Nat.le_refl _ | (simp; done) | (simp; omega) | omega) _ | with_reducible refine Below.trans ?_ (Below.mono (by with_reducible assumption) (by first | exact Nat.le_refl _ | (simp; done) | (simp; omega) | omega))))⟩
      rcases Nat.eq_zero_or_pos k with hk0 | hk0
      · subst hk0
        have HK := Lib.hid (okAt_4 e1 e2 (.inl rfl))
        clear hcs
        simp only [Nat.zero_mul, Nat.add_zero] at c0 c1 c2
        go_wp2
        refine wp_region_later (by kernel_rfl) (by kernel_rfl) ?_
        repeat (first | go_big_quiet_step ((first | (go_at_call 72; exact later_of_same _ (isTime_c _ _)) | (go_at_call 73; exact later_of _ (pointOf_c _ _ _ _)) | (go_at_call 64; exact later_of _ (isPoint_c _ _ _)))) | quiet_step ((first | (go_at_call 72; exact later_of_same _ (isTime_c _ _)) | (go_at_call 73; exact later_of _ (pointOf_c _ _ _ _)) | (go_at_call 64; exact later_of _ (isPoint_c _ _ _)))))
        refine wpQuiet_nil ?_
        intro _ hw'
        obtain ⟨s1, hw''⟩ := hw'
        subst hw''
        have hb1 := s1.below
        generalize s1.w = w1 at hb1 ⊢
        clear s1
        try replace hb1 := below_trans (by with_reducible assumption) hb1
        obtain ⟨hc1, hf1⟩ := bcell hb1
        have hz1 := hb1.size
        try simp at hz1
        try have hz10 : w.heap.size ≤ w1.heap.size := by omega
        try have hz11 : w.heap.size < w1.heap.size := by omega
        try have hz12 : w.heap.size + 1 < w1.heap.size := by omega
        try have hz13 : w.heap.size + 1 + 1 < w1.heap.size := by omega
        try have hz14 : w.heap.size + 1 + 1 + 1 < w1.heap.size := by omega
        go_wp2
        refine ⟨⟨1, by simp, by omega, Lib.hid (by simp [okUpto, HK.out]), ?_⟩, by simp [intOf]; omega⟩
        exact hbl.trans ((((Below.refl _ _).alloc (Nat.le_refl _) _).trans (hb1.mono (by simp))).mono hz)
      obtain ⟨j, rfl⟩ : ∃ j, k = j + 1 := ⟨k - 1, by omega⟩
      obtain ⟨d0, _, _⟩ := hcs j (by omega)
      clear hcs
      have hj : ((j + 1 : Nat) : Int) = (j : Int) + 1 := by omega
      by_cases h3 : (fx l (j + 1)).t ≤ (fx l j).t
      · have HF := Lib.hid (isTrk_no (okAt_3 (l := l) (i := j + 1) (Nat.succ_pos j) (by simpa using h3)) h)
        simp only [hj] at h' ⊢
        go_wp2
        refine wp_region_later (by kernel_rfl) (by kernel_rfl) ?_
        repeat (first | go_big_quiet_step ((first | (go_at_call 72; exact later_of_same _ (isTime_c _ _)) | (go_at_call 73; exact later_of _ (pointOf_c _ _ _ _)) | (go_at_call 64; exact later_of _ (isPoint_c _ _ _)))) | quiet_step ((first | (go_at_call 72; exact later_of_same _ (isTime_c _ _)) | (go_at_call 73; exact later_of _ (pointOf_c _ _ _ _)) | (go_at_call 64; exact later_of _ (isPoint_c _ _ _)))))
        refine wpQuiet_nil ?_
        intro _ hw'
        obtain ⟨s1, hw''⟩ := hw'
        subst hw''
        have hb1 := s1.below
        generalize s1.w = w1 at hb1 ⊢
        clear s1
        try replace hb1 := below_trans (by with_reducible assumption) hb1
        obtain ⟨hc1, hf1⟩ := bcell hb1
        have hz1 := hb1.size
        try simp at hz1
        try have hz10 : w.heap.size ≤ w1.heap.size := by omega
        try have hz11 : w.heap.size < w1.heap.size := by omega
        try have hz12 : w.heap.size + 1 < w1.heap.size := by omega
        try have hz13 : w.heap.size + 1 + 1 < w1.heap.size := by omega
        try have hz14 : w.heap.size + 1 + 1 + 1 < w1.heap.size := by omega
        go_wp2
        go_ret
        exact ⟨ret_bool HF.out.symm, (by repeat (first | with_reducible exact Below.refl _ _ | with_reducible assumption | with_reducible refine Below.drew ?_ | with_reducible refine Below.alloc ?_ (by first | exact Nat.le_refl _ | (simp; done) | (simp; omega) | omega) _ | with_reducible refine Below.setCell ?_ (by first | exact Nat.le_refl _ | (simp; done) | (simp; omega) | omega) _ | with_reducible refine Below.trans ?_ (Below.mono (by with_reducible assumption) (by first | exact Nat.le_refl _ | (simp; done) | (simp; omega) | omega))))⟩
      · have HK := Lib.hid (okAt_4 (l := l) (i := j + 1) e1 e2 (.inr (by simpa using h3)))
        simp only [hj] at h' ⊢
        go_wp2
        refine wp_region_later (by kernel_rfl) (by kernel_rfl) ?_
        repeat (first | go_big_quiet_step ((first | (go_at_call 72; exact later_of_same _ (isTime_c _ _)) | (go_at_call 73; exact later_of _ (pointOf_c _ _ _ _)) | (go_at_call 64; exact later_of _ (isPoint_c _ _ _)))) | quiet_step ((first | (go_at_call 72; exact later_of_same _ (isTime_c _ _)) | (go_at_call 73; exact later_of _ (pointOf_c _ _ _ _)) | (go_at_call 64; exact later_of _ (isPoint_c _ _ _)))))
        refine wpQuiet_nil ?_
        intro _ hw'
        obtain ⟨s1, hw''⟩ := hw'
        subst hw''
        have hb1 := s1.below
        generalize s1.w = w1 at hb1 ⊢
        clear s1
        try replace hb1 := below_trans (by with_reducible assumption) hb1
        obtain ⟨hc1, hf1⟩ := bcell hb1
        have hz1 := hb1.size
        try simp at hz1
        try have hz10 : w.heap.size ≤ w1.heap.size := by omega
        try have hz11 : w.heap.size < w1.heap.size := by omega
        try have hz12 : w.heap.size + 1 < w1.heap.size := by omega
        try have hz13 : w.heap.size + 1 + 1 < w1.heap.size := by omega
        try have hz14 : w.heap.size + 1 + 1 + 1 < w1.heap.size := by omega
        go_wp2
        refine ⟨⟨j + 1 + 1, by simp, by omega, Lib.hid (by simp [okUpto, HK.out, show okUpto l j = true ∧ okAt l j = true by simpa [okUpto] using ho.out]), ?_⟩, by simp [intOf]; omega⟩
        exact hbl.trans ((((Below.refl _ _).alloc (Nat.le_refl _) _).trans (hb1.mono (by simp))).mono hz)
    · obtain rfl : k = l.length := by omega
      by_cases h1 : (2 : Int) ≤ (l.length : Int)
      · by_cases h2 : (l.length : Int) ≤ 40
        · have E := Lib.hid (show isTrk l = true by simp [isTrk, ho.out]; omega)
          go_wp2
          go_ret
          exact ⟨ret_bool E.out.symm, HB⟩
        · have E := Lib.hid (show isTrk l = false by simp [isTrk]; omega)
          go_wp2
          go_ret
          exact ⟨ret_bool E.out.symm, HB⟩
      · have E := Lib.hid (show isTrk l = false by simp [isTrk]; omega)
        go_wp2
        go_ret
        exact ⟨ret_bool E.out.symm, HB⟩
end Go.Proofs.Ytdepdkpehbkcjaa
