/-
  Rows of points and of marks, marked and compared by the laws. Conditions stand with each.
  The stations of a course, both sides. Conditions: where its marks lie.
  Marks of a course marked by the laws, with what they hold then; and held. Conditions stand with each.
-/
import Derived.Test.YtjgndfphbmkhaaaGreatDoorCrsI
import Derived.Test.YtjgndfphbmkhaaaGreatDoorMark
import Derived.Laws.BytesArg
import Derived.Test.YtjgndfphbmkhaaaGreatDoorCrsG
namespace Go.Proofs.YtjgndfphbmkhaaaGreatDoor
section
set_option linter.unusedVariables false
open Go.RowKit Go.Deep

set_option maxRecDepth 100000 in
set_option maxHeartbeats 2000000 in
theorem markText_c (k : Int) (w : World) (h0 : 0 ≤ k) (h1 : k ≤ 33554432) : Calls Tryz.prog 45 #[.int .i64 k] w fun e w' => (∃ s : ByteArray, e = .returned (.string s)) ∧ Below w.heap.size w w' := by
  by_cases hk : k ≤ 0
  · go_enter Tryz.func45, Tryz.ntmps45
    go_wp2_with fail
    go_ret
    exact ⟨⟨_, rfl⟩, Below.refl _ _⟩
  · go_enter Tryz.func45, Tryz.ntmps45
    go_wp2_with fail
    go_loopw [0, 3] (fun x y wr => ∃ (z : Int) (s : ByteArray), x = .int .i64 z ∧ y = .string s ∧ 0 ≤ z ∧ (s.size : Int) + z ≤ 33554432 ∧ Below w.heap.size w wr) (fun x _ _ => (intOf x).toNat)
    case atStart => exact ⟨k, _, rfl, rfl, h0, by first | omega | (simp; omega) | (show ((0 : Nat) : Int) + k ≤ 33554432; omega), Below.refl _ _⟩
    case round =>
      obtain ⟨z, s, rfl, rfl, hz, hs, hbl⟩ := hrel
      by_cases h : 0 < z
      · have m1 : 0 ≤ z % 10 := Int.emod_nonneg _ (by decide)
        have m2 : z % 10 < 10 := Int.emod_lt_of_pos _ (by decide)
        have t1 : z.tmod 10 = z % 10 := Int.tmod_eq_emod_of_nonneg hz
        have t2 : z.tdiv 10 = z / 10 := Int.tdiv_eq_ediv_of_nonneg hz
        have t3 : IntKind.i64.wrap (z % 10) = z % 10 := by rw [IntKind.wrap_i64]; omega
        have t4 : IntKind.i64.wrap (48 + z % 10) = 48 + z % 10 := by rw [IntKind.wrap_i64]; omega
        have t5 : IntKind.u8.wrap (48 + z % 10) = 48 + z % 10 := by simp [IntKind.wrap, IntKind.bits, IntKind.signed]; omega
        have hcv : (convert 34 9 (.slice (some ⟨wr.heap.size, 0, none⟩) 1 1)).run Tryz.prog (wr.alloc (.cells #[.int .u8 (48 + z % 10)] 5)) = .ok (.string (strOfNums [48 + z % 10])) (wr.alloc (.cells #[.int .u8 (48 + z % 10)] 5)) :=
          run_convert_bytes_arg _ _ _ Tryz.underlying34 Tryz.underlying5 _ 0 1 1 [48 + z % 10] rfl (fun i hi => by (have e0 : i = 0 := by omega); subst e0; simp [go_sem]) _ Tryz.underlying9
        have hsd : (strOfNums [48 + z % 10]).size = 1 := rfl
        generalize strOfNums [48 + z % 10] = sd at hcv hsd
        go_wp2_with fail
        · exact ⟨⟨z / 10, _, rfl, rfl, by omega, by rw [ByteArray.size_append]; omega, hbl.trans (((Below.refl _ _).alloc (Nat.le_refl _) _).mono hbl.size)⟩, by simp [intOf]; omega⟩
      · have hz0 : z = 0 := by omega
        subst hz0
        go_wp2_with fail
        go_ret
        exact ⟨⟨_, rfl⟩, hbl⟩
theorem mixed_set2 {xs : List Value} {k : Int} {j : Nat} (h : j * 2 + 1 < xs.length) {z : Int} (hz : z = k + ((j * 2 : Nat) : Int)) :
    ((mixed xs k (j * 2)).set (j * 2) (.int .i64 z)).set (j * 2 + 1) (.int .i64 (z + 1)) = mixed xs k ((j + 1) * 2) := by
  rw [hz, mixed_set (by omega), show k + ((j * 2 : Nat) : Int) + 1 = k + ((j * 2 + 1 : Nat) : Int) by omega, mixed_set (by omega), show (j + 1) * 2 = j * 2 + 1 + 1 by omega]
theorem mixed_set1 {xs : List Value} {k : Int} {j : Nat} (h : j < xs.length) {z : Int} (hz : z = k + ((j * 1 : Nat) : Int)) :
    (mixed xs k (j * 1)).set j (.int .i64 z) = mixed xs k ((j + 1) * 1) := by
  rw [Nat.mul_one] at hz ⊢
  rw [hz, mixed_set (by omega), show (j + 1) * 1 = j + 1 by omega]
theorem below_grown {w w' : World} (h : Below w.heap.size w w') (row : Option Nat) : w.grownBy w' row := ⟨h.os, h.tape, h.output, h.size, fun k hk _ => h.block k hk⟩
set_option maxRecDepth 100000 in
set_option maxHeartbeats 4000000 in
theorem markMarkS_c (a : Option Addr) (n cap : Nat) (k : Int) (base : Nat) (xs : List Value) (w : World) (hn : n ≤ 4194304) (h0 : 0 ≤ k) (hk : k ≤ 4194304) (ho : w.ownsRow base 47 5 (.slice a n cap) n xs) :
    Calls Tryz.prog 26 #[.slice a n cap, .int .i64 k] w fun e w' => e = .returned (.int .i64 (k + ((n * 5 : Nat) : Int))) ∧ w.grownBy w' (Value.slice a n cap).ownBlock := by
  have HO := Lib.hid ho
  clear ho
  go_enter Tryz.func26, Tryz.ntmps26
  go_wp2
  go_loopw [1, 5] (fun x y wr => ∃ (j : Nat) (z : Int) (xs' : List Value), x = .int .i64 z ∧ y = .int .i64 j ∧ Hid (z = k + ((j * 5 : Nat) : Int)) ∧ j ≤ n ∧ Hid (wr.ownsRow base 47 5 (.slice a n cap) n xs') ∧ Hid (w.grownBy wr (Value.slice a n cap).ownBlock)) (fun _ y _ => n - (intOf y).toNat)
  case atStart => exact ⟨0, k, xs, rfl, rfl, Lib.hid (by simp), Nat.zero_le _, HO, Lib.hid (World.grownBy.refl _ _)⟩
  case round =>
    obtain ⟨j, z, xs', rfl, rfl, hz, hj, hor, hgr⟩ := hrel
    have z0 : 0 ≤ z := by have := hz.out; omega
    have z1 : z ≤ 33554432 := by have := hz.out; omega
    by_cases h : j < n
    · obtain ⟨g, rfl, hbg, hlt⟩ := own_some hor.out (by omega)
      have h' : (j : Int) < (n : Int) := by omega
      go_wp2_with (
        go_at_call 45; refine (markText_c z _ z0 z1).mono ?_; rintro e w1 ⟨⟨s, rfl⟩, hb⟩
        have ho1 := pown_below hor.out hb
        have hml : xs'.length = n * 5 := ho1.1
        have g0 := (ho1.cellAt (j * 5) (by omega)).trans (List.getElem?_eq_getElem (by omega))
        have q0 := ho1.frozenAt (j * 5)
        have g1 := (ho1.cellAt (j * 5 + 1) (by omega)).trans (List.getElem?_eq_getElem (by omega))
        have q1 := ho1.frozenAt (j * 5 + 1)
        have g2 := (ho1.cellAt (j * 5 + 2) (by omega)).trans (List.getElem?_eq_getElem (by omega))
        have q2 := ho1.frozenAt (j * 5 + 2)
        have g3 := (ho1.cellAt (j * 5 + 3) (by omega)).trans (List.getElem?_eq_getElem (by omega))
        have q3 := ho1.frozenAt (j * 5 + 3)
        have g4 := (ho1.cellAt (j * 5 + 4) (by omega)).trans (List.getElem?_eq_getElem (by omega))
        have q4 := ho1.frozenAt (j * 5 + 4)
        generalize xs'[j * 5]'(by omega) = u0 at g0
        generalize xs'[j * 5 + 1]'(by omega) = u1 at g1
        generalize xs'[j * 5 + 2]'(by omega) = u2 at g2
        generalize xs'[j * 5 + 3]'(by omega) = u3 at g3
        generalize xs'[j * 5 + 4]'(by omega) = u4 at g4
        have hlt1 := Nat.lt_of_lt_of_le hlt hb.size
        have G0 := Lib.hid (hgr.out.trans (below_grown hb _))
        clear hml hb)
      have s0 := ho1.stored (j * 5) (.string s)
      have s1 := s0.1.stored (j * 5 + 1) (.int .i64 (z + 1))
      have s2 := s1.1.stored (j * 5 + 2) (.int .i64 (z + 1 + 1))
      have s3 := s2.1.stored (j * 5 + 3) (.int .i64 (z + 1 + 1 + 1))
      have s4 := s3.1.stored (j * 5 + 4) (.int .i64 (z + 1 + 1 + 1 + 1))
      exact ⟨⟨j + 1, z + 1 + 1 + 1 + 1 + 1, _, by simp, by simp, Lib.hid (by have := hz.out; omega), by omega, Lib.hid s4.1, Lib.hid (G0.out.trans (s0.2.trans (s1.2.trans (s2.2.trans (s3.2.trans s4.2)))))⟩, by simp [intOf]; omega⟩
    · obtain rfl : j = n := by omega
      have h' : ¬ (j : Int) < (j : Int) := by omega
      go_wp2
      go_ret
      exact ⟨ret_int hz.out, hgr.out⟩
set_option maxRecDepth 100000 in
set_option maxHeartbeats 4000000 in
theorem markCourse_c (x0 x1 x2 x3 x4 x5 x6 x7 : Int) (a : Option Addr) (n cap : Nat) (k : Int) (base : Nat) (xs : List Value) (w : World) (hn : n ≤ 4194304) (h0 : 0 ≤ k) (hk : k ≤ 4194304) (ho : w.ownsRow base 47 5 (.slice a n cap) n xs) :
    Calls Tryz.prog 8 #[.agg #[.int .i64 x0, .int .i64 x1, .int .i64 x2, .int .i64 x3, .int .i64 x4, .int .i64 x5, .int .i64 x6, .int .i64 x7, .slice a n cap], .int .i64 k] w fun e w' => e = .returned (.int .i64 (k + ((n * 5 : Nat) : Int))) ∧ w.grownBy w' (Value.slice a n cap).ownBlock := by
  have HO := Lib.hid ho
  clear ho
  go_enter Tryz.func8, Tryz.ntmps8
  go_wp2_with (go_at_call 26; refine (markMarkS_c a n cap k base xs _ hn h0 hk (HO.out.alloc _)).mono ?_; rintro e w1 ⟨rfl, hg⟩)
  go_ret
  exact ⟨rfl, (World.grownBy_alloc _ _ _).trans hg⟩
theorem pt_cell {w : World} {a : Option Addr} {k : Nat} {L : List (Int × Int)} (h : RowAt w a (pflat L)) (hk : k < L.length) : ∃ b off, a = some ⟨b, off, none⟩ ∧ b < w.heap.size ∧ w.cell? ⟨b, off + k * 2, none⟩ = some (.int .i64 (pt L k).1) ∧ w.cell? ⟨b, off + k * 2 + 1, none⟩ = some (.int .i64 (pt L k).2) := by
  obtain ⟨f0, f1⟩ := pflat_get L k _ (pt_of hk)
  obtain ⟨b, off, rfl, hlt, hc⟩ := h.head (by rw [pflat_length]; omega)
  exact ⟨b, off, rfl, hlt, hc _ _ f0, hc _ _ f1⟩
end

section
set_option linter.unusedVariables false
open Go.RowKit Go.Deep

noncomputable def stnR (x0 x1 x2 x3 x4 x5 x6 x7 : Int) (l : List Mk) : List (Int × Int) × Int := if courseOK x0 x1 x2 x3 x4 x5 x6 x7 l = true then (stn x0 x1 x2 x3 x4 x5 x6 x7 l, 0) else ([], 1)
theorem stnR_len (x0 x1 x2 x3 x4 x5 x6 x7 : Int) (l : List Mk) : (stnR x0 x1 x2 x3 x4 x5 x6 x7 l).1.length ≤ 10 := by
  unfold stnR
  split
  · rename_i h
    have := (courseOK_true h).2.2.2.1
    rw [stn_len]
    omega
  · exact Nat.zero_le _
theorem row_ownP {w : World} {a : Option Addr} {base n cap size : Nat} {e : TypeId} {xs : List Value} (h : w.ownsRow base e size (.slice a n cap) n xs) (hs : xs.length = n * size) : RowAt w a xs := fun i v hv => by
  have hi : i < n * size := by rw [← hs]; exact (List.getElem?_eq_some_iff.1 hv).1
  have hn : 0 < n := by rcases Nat.eq_zero_or_pos n with h' | h'; subst h'; omega; exact h'
  obtain ⟨g, rfl, h1, h2⟩ := own_some h hn
  exact ⟨g, 0, rfl, h2, by rw [Nat.zero_add]; exact (h.cellAt i hi).trans hv⟩
theorem own_keptP {w w' : World} {base size n : Nat} {e : TypeId} {v : Value} {xs : List Value} {row : Option Nat} (h : w.ownsRow base e size v n xs) (hg : w.grownBy w' row) (hne : ∀ k, v.ownBlock = some k → row ≠ some k) : w'.ownsRow base e size v n xs := by
  refine h.kept hg ?_
  cases hv : v.ownBlock with
  | none => exact .inl rfl
  | some k => exact .inr fun e => hne k hv e.symm
end

section
set_option linter.unusedVariables false
open Go.RowKit Go.Deep

/-- digits put ahead of a string -/
def tB (n : Nat) (s : ByteArray) : ByteArray := if h : n = 0 then s else tB (n / 10) (strOfNums [48 + ((n % 10 : Nat) : Int)] ++ s)
termination_by n
decreasing_by omega
theorem tB_step {n : Nat} (h : n ≠ 0) (s : ByteArray) : tB n s = tB (n / 10) (strOfNums [48 + ((n % 10 : Nat) : Int)] ++ s) := by
  conv => lhs; rw [tB]
  rw [dif_neg h]
theorem tB_zero (s : ByteArray) : tB 0 s = s := by
  rw [tB]
  rw [dif_pos rfl]
/-- the text of a number's mark -/
def mtB (k : Nat) : ByteArray := if k = 0 then ⟨#[109, 48]⟩ else ⟨#[109]⟩ ++ tB k ⟨#[]⟩
/-- marks that bear their numbers -/
def mkM (k : Nat) (j : Nat) : Mk := ⟨mtB (k + 5 * j), ((k + 5 * j + 1 : Nat) : Int), ((k + 5 * j + 2 : Nat) : Int), ((k + 5 * j + 3 : Nat) : Int), ((k + 5 * j + 4 : Nat) : Int)⟩
def mkMs (k : Nat) (n : Nat) : List Mk := (List.range n).map (mkM k)
theorem mkMs_len (k n : Nat) : (mkMs k n).length = n := by simp [mkMs]
theorem mkMs_get {k n j : Nat} (h : j < n) : mk (mkMs k n) j = mkM k j := by simp [mk, mkMs, h]
theorem mk_next {k j : Nat} {L : List Mk} (h : j < L.length) : (mkMs k j ++ L.drop j).set j (mkM k j) = mkMs k (j + 1) ++ L.drop (j + 1) := by
  rw [List.set_append_right _ _ (by rw [mkMs_len]; omega), mkMs_len, Nat.sub_self, List.drop_eq_getElem_cons h, List.set_cons_zero]
  simp [mkMs, List.range_succ]
set_option maxRecDepth 100000 in
set_option maxHeartbeats 2000000 in
theorem markText2_c (k : Nat) (w : World) (h1 : k ≤ 33554432) : Calls Tryz.prog 45 #[.int .i64 (k : Int)] w fun e w' => e = .returned (.string (mtB k)) ∧ Below w.heap.size w w' := by
  by_cases hk : k = 0
  · subst hk
    have HE := Lib.hid (show mtB 0 = ⟨#[109, 48]⟩ from rfl)
    go_enter Tryz.func45, Tryz.ntmps45
    go_wp2_with fail
    go_ret
    exact ⟨by rw [HE.out]; rfl, Below.refl _ _⟩
  · have HE := Lib.hid (show mtB k = ⟨#[109]⟩ ++ tB k ⟨#[]⟩ by unfold mtB; rw [if_neg hk])
    have h0 : ¬ (k : Int) ≤ 0 := by omega
    have zm : (⟨#[109]⟩ : ByteArray).size = 1 := rfl
    go_enter Tryz.func45, Tryz.ntmps45
    go_wp2_with fail
    go_loopw [0, 3] (fun x y wr => ∃ (z : Nat) (s : ByteArray), x = .int .i64 (z : Int) ∧ y = .string s ∧ Hid (tB z s = tB k ⟨#[]⟩) ∧ s.size + z ≤ 33554432 ∧ Below w.heap.size w wr) (fun x _ _ => (intOf x).toNat)
    case atStart => exact ⟨k, ⟨#[]⟩, rfl, rfl, Lib.hid rfl, (by show 0 + k ≤ 33554432; omega), Below.refl _ _⟩
    case round =>
      obtain ⟨z, s, rfl, rfl, hq, hs, hbl⟩ := hrel
      by_cases h : 0 < z
      · have h' : (0 : Int) < (z : Int) := by omega
        have HN := Lib.hid ((tB_step (show z ≠ 0 by omega) s).symm.trans hq.out)
        have t1 : (z : Int).tmod 10 = ((z % 10 : Nat) : Int) := by rw [Int.tmod_eq_emod_of_nonneg (by omega)]; omega
        have t2 : (z : Int).tdiv 10 = ((z / 10 : Nat) : Int) := by rw [Int.tdiv_eq_ediv_of_nonneg (by omega)]; omega
        have hm9 : z % 10 < 10 := by omega
        have hq9 : z / 10 + 1 ≤ z := by omega
        generalize z % 10 = m at *
        generalize z / 10 = q at *
        have t3 : IntKind.i64.wrap (m : Int) = (m : Int) := by rw [IntKind.wrap_i64]; omega
        have t6 : IntKind.i64.wrap (q : Int) = (q : Int) := by rw [IntKind.wrap_i64]; omega
        have t4 : IntKind.i64.wrap (48 + (m : Int)) = 48 + (m : Int) := by rw [IntKind.wrap_i64]; omega
        have t5 : IntKind.u8.wrap (48 + (m : Int)) = 48 + (m : Int) := by simp [IntKind.wrap, IntKind.bits, IntKind.signed]; omega
        have hcv : (convert 34 9 (.slice (some ⟨wr.heap.size, 0, none⟩) 1 1)).run Tryz.prog (wr.alloc (.cells #[.int .u8 (48 + (m : Int))] 5)) = .ok (.string (strOfNums [48 + (m : Int)])) (wr.alloc (.cells #[.int .u8 (48 + (m : Int))] 5)) :=
          run_convert_bytes_arg _ _ _ Tryz.underlying34 Tryz.underlying5 _ 0 1 1 [48 + (m : Int)] rfl (fun i hi => by (have e0 : i = 0 := by omega); subst e0; simp [go_sem]) _ Tryz.underlying9
        have hsd : (strOfNums [48 + (m : Int)]).size = 1 := rfl
        generalize strOfNums [48 + (m : Int)] = sd at *
        go_wp2_with fail
        exact ⟨⟨q, _, rfl, rfl, HN, by rw [ByteArray.size_append]; omega, hbl.alloc hbl.size _⟩, by simp [intOf]; omega⟩
      · have hz0 : z = 0 := by omega
        subst hz0
        rw [tB_zero] at hq
        have hq2 := Lib.hid hq.out
        have h' : ¬ (0 : Int) < ((0 : Nat) : Int) := by decide
        clear hq
        go_wp2_with fail
        go_ret
        exact ⟨by rw [HE.out, ← hq2.out]; rfl, hbl⟩
set_option maxRecDepth 100000 in
set_option maxHeartbeats 4000000 in
theorem markMarkS2_c (a : Option Addr) (n cap : Nat) (k : Nat) (base : Nat) (L : List Mk) (w : World) (hn : n ≤ 4194304) (hk : k ≤ 4194304) (hL : L.length = n) (ho : w.ownsRow base 47 5 (.slice a n cap) n (mflat L)) :
    Calls Tryz.prog 26 #[.slice a n cap, .int .i64 (k : Int)] w fun e w' => e = .returned (.int .i64 ((k + 5 * n : Nat) : Int)) ∧ w'.ownsRow base 47 5 (.slice a n cap) n (mflat (mkMs k n)) ∧ w.grownBy w' (Value.slice a n cap).ownBlock := by
  have HO := Lib.hid ho
  clear ho
  go_enter Tryz.func26, Tryz.ntmps26
  go_wp2
  go_loopw [1, 5] (fun x y wr => ∃ (j : Nat) (z : Nat), x = .int .i64 (z : Int) ∧ y = .int .i64 (j : Int) ∧ Hid (z = k + 5 * j) ∧ j ≤ n ∧ Hid (wr.ownsRow base 47 5 (.slice a n cap) n (mflat (mkMs k j ++ L.drop j))) ∧ Hid (w.grownBy wr (Value.slice a n cap).ownBlock)) (fun _ y _ => n - (intOf y).toNat)
  case atStart => exact ⟨0, k, rfl, rfl, Lib.hid (by simp), Nat.zero_le _, Lib.hid (by simpa [mkMs] using HO.out), Lib.hid (World.grownBy.refl _ _)⟩
  case round =>
    obtain ⟨j, z, rfl, rfl, hz, hj, hor, hgr⟩ := hrel
    have z1 : z ≤ 33554432 := by have := hz.out; omega
    by_cases h : j < n
    · obtain ⟨g, rfl, hbg, hlt⟩ := own_some hor.out (by omega)
      have h' : (j : Int) < (n : Int) := by omega
      have hNX := Lib.hid (mk_next (k := k) (j := j) (L := L) (by omega))
      have hQl : (mkMs k j ++ L.drop j).length = n := by rw [List.length_append, mkMs_len, List.length_drop, hL]; omega
      have hMS := Lib.hid (mflat_set (mkMs k j ++ L.drop j) j ⟨mtB z, ((z + 1 : Nat) : Int), ((z + 1 + 1 : Nat) : Int), ((z + 1 + 1 + 1 : Nat) : Int), ((z + 1 + 1 + 1 + 1 : Nat) : Int)⟩ (by omega))
      have hME := Lib.hid (show (⟨mtB z, ((z + 1 : Nat) : Int), ((z + 1 + 1 : Nat) : Int), ((z + 1 + 1 + 1 : Nat) : Int), ((z + 1 + 1 + 1 + 1 : Nat) : Int)⟩ : Mk) = mkM k j by rw [hz.out]; rfl)
      generalize mkMs k j ++ L.drop j = Q at *
      generalize mflat Q = xs' at *
      go_wp2_with (
        go_at_call 45; refine (markText2_c z _ z1).mono ?_; rintro e w1 ⟨rfl, hb⟩
        have ho1 := pown_below hor.out hb
        have hml : xs'.length = n * 5 := ho1.1
        have g0 := (ho1.cellAt (j * 5) (by omega)).trans (List.getElem?_eq_getElem (by omega))
        have q0 := ho1.frozenAt (j * 5)
        have g1 := (ho1.cellAt (j * 5 + 1) (by omega)).trans (List.getElem?_eq_getElem (by omega))
        have q1 := ho1.frozenAt (j * 5 + 1)
        have g2 := (ho1.cellAt (j * 5 + 2) (by omega)).trans (List.getElem?_eq_getElem (by omega))
        have q2 := ho1.frozenAt (j * 5 + 2)
        have g3 := (ho1.cellAt (j * 5 + 3) (by omega)).trans (List.getElem?_eq_getElem (by omega))
        have q3 := ho1.frozenAt (j * 5 + 3)
        have g4 := (ho1.cellAt (j * 5 + 4) (by omega)).trans (List.getElem?_eq_getElem (by omega))
        have q4 := ho1.frozenAt (j * 5 + 4)
        generalize xs'[j * 5]'(by omega) = u0 at g0
        generalize xs'[j * 5 + 1]'(by omega) = u1 at g1
        generalize xs'[j * 5 + 2]'(by omega) = u2 at g2
        generalize xs'[j * 5 + 3]'(by omega) = u3 at g3
        generalize xs'[j * 5 + 4]'(by omega) = u4 at g4
        have hlt1 := Nat.lt_of_lt_of_le hlt hb.size
        have G0 := Lib.hid (hgr.out.trans (below_grown hb _))
        clear hml hb)
      have s0 := ho1.stored (j * 5) (.string (mtB z))
      have s1 := s0.1.stored (j * 5 + 1) (.int .i64 ((z + 1 : Nat) : Int))
      have s2 := s1.1.stored (j * 5 + 2) (.int .i64 ((z + 1 + 1 : Nat) : Int))
      have s3 := s2.1.stored (j * 5 + 3) (.int .i64 ((z + 1 + 1 + 1 : Nat) : Int))
      have s4 := s3.1.stored (j * 5 + 4) (.int .i64 ((z + 1 + 1 + 1 + 1 : Nat) : Int))
      have s5 := s4.1
      rw [hMS.out, hME.out, hNX.out] at s5
      exact ⟨⟨j + 1, z + 1 + 1 + 1 + 1 + 1, by simp, by simp, Lib.hid (by have := hz.out; omega), by omega, Lib.hid s5, Lib.hid (G0.out.trans (s0.2.trans (s1.2.trans (s2.2.trans (s3.2.trans s4.2)))))⟩, by simp [intOf]; omega⟩
    · obtain rfl : j = n := by omega
      have h' : ¬ (j : Int) < (j : Int) := by omega
      have hOF := Lib.hid (show wr.ownsRow base 47 5 (.slice a j cap) j (mflat (mkMs k j)) by have := hor.out; rw [List.drop_eq_nil_of_le (by omega), List.append_nil] at this; exact this)
      clear hor
      go_wp2
      go_ret
      exact ⟨ret_int (by have := hz.out; omega), hOF.out, hgr.out⟩
set_option maxRecDepth 100000 in
set_option maxHeartbeats 4000000 in
theorem heldMarkS_c (a : Option Addr) (n cap : Nat) (k : Nat) (w : World) (hn : n ≤ 4194304) (hk : k ≤ 4194304) (ho : RowAt w a (mflat (mkMs k n))) :
    Calls Tryz.prog 27 #[.slice a n cap, .int .i64 (k : Int)] w fun e w' => e = .returned (.int .i64 ((k + 5 * n : Nat) : Int)) ∧ Below w.heap.size w w' := by
  have HO := Lib.hid ho
  clear ho
  go_enter Tryz.func27, Tryz.ntmps27
  go_wp2
  go_loopw [1, 5] (fun x y wr => ∃ (j : Nat) (z : Nat), x = .int .i64 (z : Int) ∧ y = .int .i64 (j : Int) ∧ Hid (z = k + 5 * j) ∧ j ≤ n ∧ Below w.heap.size w wr) (fun _ y _ => n - (intOf y).toNat)
  case atStart => exact ⟨0, k, rfl, rfl, Lib.hid (by simp), Nat.zero_le _, Below.refl _ _⟩
  case round =>
    obtain ⟨j, z, rfl, rfl, hz, hj, hbl⟩ := hrel
    have z1 : z ≤ 33554432 := by have := hz.out; omega
    by_cases h : j < n
    · have hl9 := mkMs_len k n
      obtain ⟨b, off, rfl, hlt, d0, d1, d2, d3, d4⟩ := mark_cell (HO.out.below hbl) (show j < (mkMs k n).length by omega)
      rw [mkMs_get h] at d0 d1 d2 d3 d4
      simp only [mkM] at d0 d1 d2 d3 d4
      rw [← hz.out] at d0 d1 d2 d3 d4
      have h' : (j : Int) < (n : Int) := by omega
      have CM := Lib.hid (fun w => markText2_c z w z1)
      have d1' : wr.cell? ⟨b, off + j * 5 + 1, none⟩ = some (.int .i64 ((z : Int) + 1)) := by simpa using d1
      have d2' : wr.cell? ⟨b, off + j * 5 + 2, none⟩ = some (.int .i64 ((z : Int) + 1 + 1)) := by rw [d2]; simp; omega
      have d3' : wr.cell? ⟨b, off + j * 5 + 3, none⟩ = some (.int .i64 ((z : Int) + 1 + 1 + 1)) := by rw [d3]; simp; omega
      have d4' : wr.cell? ⟨b, off + j * 5 + 4, none⟩ = some (.int .i64 ((z : Int) + 1 + 1 + 1 + 1)) := by rw [d4]; simp; omega
      have w1 : IntKind.i64.wrap ((z : Int) + 1) = (z : Int) + 1 := by rw [IntKind.wrap_i64]; omega
      have w2 : IntKind.i64.wrap ((z : Int) + 1 + 1) = (z : Int) + 1 + 1 := by rw [IntKind.wrap_i64]; omega
      have w3 : IntKind.i64.wrap ((z : Int) + 1 + 1 + 1) = (z : Int) + 1 + 1 + 1 := by rw [IntKind.wrap_i64]; omega
      have w4 : IntKind.i64.wrap ((z : Int) + 1 + 1 + 1 + 1) = (z : Int) + 1 + 1 + 1 + 1 := by rw [IntKind.wrap_i64]; omega
      have w5 : IntKind.i64.wrap ((z : Int) + 1 + 1 + 1 + 1 + 1) = (z : Int) + 1 + 1 + 1 + 1 + 1 := by rw [IntKind.wrap_i64]; omega
      clear d1 d2 d3 d4
      generalize mtB z = S at *
      have hblh := Lib.hid hbl
      clear hbl
      go_wp2
      refine wp_region_later (by kernel_rfl) (by kernel_rfl) ?_
      repeat (first | go_big_quiet_step ((first | (go_at_call 45; exact later_of _ (CM.out _)))) | quiet_step ((first | (go_at_call 45; exact later_of _ (CM.out _)))))
      refine wpQuiet_nil ?_
      intro _ hw'
      obtain ⟨sk4, hw''⟩ := hw'
      subst hw''
      have hbk4 := sk4.below
      generalize sk4.w = wk4 at hbk4 ⊢
      clear sk4
      try replace hbk4 := below_trans (by with_reducible assumption) hbk4
      obtain ⟨hck4, hfk4⟩ := bcell hbk4
      have hzk4 := hbk4.size
      try simp at hzk4
      try have hzk40 : w.heap.size ≤ wk4.heap.size := by omega
      try have hzk41 : w.heap.size < wk4.heap.size := by omega
      try have hzk42 : w.heap.size + 1 < wk4.heap.size := by omega
      try have hzk43 : w.heap.size + 1 + 1 < wk4.heap.size := by omega
      try have hzk44 : w.heap.size + 1 + 1 + 1 < wk4.heap.size := by omega
      go_wp2
      exact ⟨⟨j + 1, z + 1 + 1 + 1 + 1 + 1, by simp, by simp, Lib.hid (by have := hz.out; omega), by omega, hblh.out.trans (hbk4.mono hblh.out.size)⟩, by simp [intOf]; omega⟩
    · obtain rfl : j = n := by omega
      have h' : ¬ (j : Int) < (j : Int) := by omega
      go_wp2
      go_ret
      exact ⟨ret_int (by have := hz.out; omega), hbl⟩
set_option maxHeartbeats 1000000 in
theorem markCourse2_c (x0 x1 x2 x3 x4 x5 x6 x7 : Int) (a : Option Addr) (n cap : Nat) (k : Nat) (base : Nat) (L : List Mk) (w : World) (hn : n ≤ 4194304) (hk : k ≤ 4194304) (hL : L.length = n) (ho : w.ownsRow base 47 5 (.slice a n cap) n (mflat L)) :
    Calls Tryz.prog 8 #[.agg #[.int .i64 x0, .int .i64 x1, .int .i64 x2, .int .i64 x3, .int .i64 x4, .int .i64 x5, .int .i64 x6, .int .i64 x7, .slice a n cap], .int .i64 (k : Int)] w fun e w' => e = .returned (.int .i64 ((k + 5 * n : Nat) : Int)) ∧ w'.ownsRow base 47 5 (.slice a n cap) n (mflat (mkMs k n)) ∧ w.grownBy w' (Value.slice a n cap).ownBlock := by
  have HO := Lib.hid ho
  clear ho
  go_enter Tryz.func8, Tryz.ntmps8
  go_wp2_with (go_at_call 26; refine (markMarkS2_c a n cap k base L _ hn hk hL (HO.out.alloc _)).mono ?_; rintro e w1 ⟨rfl, hm, hg⟩)
  have HM := Lib.hid hm
  go_ret
  exact ⟨rfl, HM.out, (World.grownBy_alloc _ _ _).trans hg⟩
set_option maxHeartbeats 1000000 in
theorem heldCourse_c (x0 x1 x2 x3 x4 x5 x6 x7 : Int) (a : Option Addr) (n cap : Nat) (k : Nat) (w : World) (hn : n ≤ 4194304) (hk : k ≤ 4194304) (ho : RowAt w a (mflat (mkMs k n))) :
    Calls Tryz.prog 9 #[.agg #[.int .i64 x0, .int .i64 x1, .int .i64 x2, .int .i64 x3, .int .i64 x4, .int .i64 x5, .int .i64 x6, .int .i64 x7, .slice a n cap], .int .i64 (k : Int)] w fun e w' => e = .returned (.int .i64 ((k + 5 * n : Nat) : Int)) ∧ Below w.heap.size w w' := by
  have HO := Lib.hid (ho.below ((Below.refl w.heap.size w).alloc (Nat.le_refl _) (.cells #[.int .i64 x0, .int .i64 x1, .int .i64 x2, .int .i64 x3, .int .i64 x4, .int .i64 x5, .int .i64 x6, .int .i64 x7, .slice a n cap] 28)))
  have h9 : ¬ (((k + 5 * n : Nat) : Int) < 0) := by omega
  have CH := Lib.hid (heldMarkS_c a n cap k _ hn hk HO.out)
  clear ho HO
  generalize ((k + 5 * n : Nat) : Int) = Q at *
  go_enter Tryz.func9, Tryz.ntmps9
  go_wp2_with fail
  refine CH.out.mono ?_
  rintro e w1 ⟨rfl, hb⟩
  go_wp2_with fail
  go_ret
  exact ⟨rfl, ((Below.refl w.heap.size w).alloc (Nat.le_refl _) _).trans (hb.mono (by simp))⟩
end
end Go.Proofs.YtjgndfphbmkhaaaGreatDoor
