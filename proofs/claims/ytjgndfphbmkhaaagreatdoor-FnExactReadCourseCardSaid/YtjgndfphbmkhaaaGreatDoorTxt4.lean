/-
  Decimal texts: the reference's and the program's. Conditions stand with each.
  The texts of times, both sides. Conditions stand with each; a table of the library's is laid in the world.
  The text of a time, both sides. Conditions: the library's table is laid in the world.
  Texts of signed numbers and of points, both sides. Conditions stand with each.
-/
import Derived.Test.YtjgndfphbmkhaaaGreatDoorShelf
import Derived.Test.YtjgndfphbmkhaaaGreatDoorHeld
import Derived.Laws.BytesArg
import Derived.Lib.ItoaLen
import Derived.Lib.ItoaMem
import Derived.Lib.LaidTab
import Derived.Test.YtjgndfphbmkhaaaGreatDoorL02
namespace Go.Proofs.YtjgndfphbmkhaaaGreatDoor
section
set_option linter.unusedVariables false
open Go.RowKit Go.Deep

/-- the decimal text of a number -/
def dgB (n : Nat) : ByteArray := ⟨(Lib.decDigits n).toArray⟩
theorem ba_append (a b : List UInt8) : (⟨a.toArray⟩ : ByteArray) ++ ⟨b.toArray⟩ = ⟨(a ++ b).toArray⟩ := by
  apply ByteArray.ext
  simp [ByteArray.data_append]
theorem one_num (m : Nat) : strOfNums [48 + (m : Int)] = ⟨[UInt8.ofNat (48 + m)].toArray⟩ := by
  unfold strOfNums
  simp only [List.map_cons, List.map_nil]
  rw [show (48 + (m : Int)).toNat = 48 + m by omega]
theorem dgB_small {n : Nat} (h : n < 10) : dgB n = strOfNums [48 + (n : Int)] := by
  rw [one_num, dgB, Lib.decDigits_one h]
theorem dgB_step {n : Nat} (h : ¬ n < 10) : dgB (n / 10) ++ strOfNums [48 + ((n % 10 : Nat) : Int)] = dgB n := by
  rw [one_num, dgB, dgB, ba_append]
  congr 2
  conv => rhs; rw [Lib.decDigits]
  rw [dif_neg h]
theorem convB (d : Int) (g : Nat) (u : World) (h : u.cell? ⟨g, 0, none⟩ = some (.int .u8 d)) : (convert 34 9 (.slice (some ⟨g, 0, none⟩) 1 1)).run Tryz.prog u = .ok (.string (strOfNums [d])) u :=
  run_convert_bytes_arg _ _ _ Tryz.underlying34 Tryz.underlying5 _ 0 1 1 [d] rfl (fun i hi => by (have e0 : i = 0 := by omega); subst e0; simpa using h) _ Tryz.underlying9
/-- the last digits of a number -/
def lastD (n : Nat) : Nat → List UInt8
  | 0 => []
  | k + 1 => UInt8.ofNat (48 + n / 10 ^ k % 10) :: lastD n k
def lastB (n k : Nat) : ByteArray := ⟨(lastD n k).toArray⟩
theorem lastB_step (n k : Nat) : strOfNums [48 + ((n / 10 ^ k % 10 : Nat) : Int)] ++ lastB n k = lastB n (k + 1) := by
  rw [one_num, lastB, lastB, ba_append]; rfl
theorem lastD_len (n : Nat) : ∀ k, (lastD n k).length = k
  | 0 => rfl
  | k + 1 => by simp [lastD, lastD_len n k]
theorem lastB_size (n k : Nat) : (lastB n k).size = k := by
  have := lastD_len n k
  simpa [lastB, ByteArray.size] using this
theorem dgB_size {n : Nat} (h : n ≤ 9223372036854775807) : (dgB n).size ≤ 21 := by
  have := Lib.itoa_length_le (n : Int) (by omega) (by omega)
  rw [Lib.itoa_nonneg] at this
  simpa [dgB, ByteArray.size] using this
theorem one_size (d : Int) : (strOfNums [d]).size = 1 := rfl
set_option maxRecDepth 100000 in
set_option maxHeartbeats 2000000 in
theorem l01Number_c : ∀ (n : Nat) (w : World), n ≤ 9223372036854775807 → Calls Tryz.prog 49 #[.int .i64 (n : Int)] w fun e w' => e = .returned (.string (dgB n)) ∧ Below w.heap.size w w' := by
  intro n
  induction n using Nat.strongRecOn with
  | _ n ih =>
    intro w hn
    by_cases h : n < 10
    · have h' : (n : Int) < 10 := by omega
      have t4 : IntKind.i64.wrap (48 + (n : Int)) = 48 + (n : Int) := by rw [IntKind.wrap_i64]; omega
      have t5 : IntKind.u8.wrap (48 + (n : Int)) = 48 + (n : Int) := by simp [IntKind.wrap, IntKind.bits, IntKind.signed]; omega
      have hcv := convB (48 + (n : Int)) w.heap.size (w.alloc (.cells #[.int .u8 (48 + (n : Int))] 5)) (by simp [go_sem])
      have HE := Lib.hid (dgB_small h)
      clear ih
      generalize strOfNums [48 + (n : Int)] = sd at *
      go_enter Tryz.func49, Tryz.ntmps49
      go_wp2_with fail
      go_ret
      exact ⟨by rw [HE.out]; rfl, (by repeat (first | with_reducible exact Below.refl _ _ | with_reducible assumption | with_reducible refine Below.drew ?_ | with_reducible refine Below.alloc ?_ (by first | exact Nat.le_refl _ | (simp; done) | (simp; omega) | omega) _ | with_reducible refine Below.setCell ?_ (by first | exact Nat.le_refl _ | (simp; done) | (simp; omega) | omega) _ | with_reducible refine Below.trans ?_ (Below.mono (by with_reducible assumption) (by first | exact Nat.le_refl _ | (simp; done) | (simp; omega) | omega))))⟩
    · have h' : ¬ (n : Int) < 10 := by omega
      have IH := Lib.hid (fun w => ih (n / 10) (by omega) w (by omega))
      have HE := Lib.hid (dgB_step h)
      have t1 : (n : Int).tmod 10 = ((n % 10 : Nat) : Int) := by rw [Int.tmod_eq_emod_of_nonneg (by omega)]; omega
      have t2 : (n : Int).tdiv 10 = ((n / 10 : Nat) : Int) := by rw [Int.tdiv_eq_ediv_of_nonneg (by omega)]; omega
      have hm9 : n % 10 < 10 := by omega
      have hq9 : n / 10 ≤ 9223372036854775807 := by omega
      have hDz := dgB_size hq9
      clear ih
      generalize n % 10 = m at *
      generalize n / 10 = q at *
      have t3 : IntKind.i64.wrap (m : Int) = (m : Int) := by rw [IntKind.wrap_i64]; omega
      have t6 : IntKind.i64.wrap (q : Int) = (q : Int) := by rw [IntKind.wrap_i64]; omega
      have t4 : IntKind.i64.wrap (48 + (m : Int)) = 48 + (m : Int) := by rw [IntKind.wrap_i64]; omega
      have t5 : IntKind.u8.wrap (48 + (m : Int)) = 48 + (m : Int) := by simp [IntKind.wrap, IntKind.bits, IntKind.signed]; omega
      have hcv := fun g u => convB (48 + (m : Int)) g u
      have hsd := one_size (48 + (m : Int))
      generalize strOfNums [48 + (m : Int)] = sd at *
      go_enter Tryz.func49, Tryz.ntmps49
      go_wp2_with fail
      rw [show Op.convert 34 9 (Operand.tmp 17) = id (Op.convert 34 9 (Operand.tmp 17)) from rfl]
      rw [show Op.binOp BinOp.add 9 (Operand.tmp 12) (Operand.tmp 18) 9 = id (Op.binOp BinOp.add 9 (Operand.tmp 12) (Operand.tmp 18) 9) from rfl]
      go_region_held3 (fun wx => Below w.heap.size w wx ∧ ∀ b o, b < w.heap.size → wx.cell? ⟨b, o, none⟩ = w.cell? ⟨b, o, none⟩)
        (repeat (first | with_reducible assumption | with_reducible exact held_step (by assumption) hb | with_reducible refine held_alloc ?_ _ | with_reducible exact held_start _ _ | with_reducible exact held_begin _))
        (first | (go_at_call 49; refine (IH.out _).mono ?_; rintro e w1 ⟨rfl, hb⟩; have hz := held_size (by with_reducible assumption) hb; (try simp at hz); have hs := hb.size; (try simp at hs); obtain ⟨hc, hf⟩ := bcell hb))
      all_goals go_wp2_with fail
      all_goals go_ret
      all_goals exact ⟨by rw [← HE.out]; rfl, (held_of (by with_reducible exact And.left (by with_reducible assumption))).1⟩
end

section
set_option linter.unusedVariables false
open Go.RowKit Go.Deep

theorem lastD_snoc (n : Nat) : ∀ k, lastD n (k + 1) = lastD (n / 10) k ++ [UInt8.ofNat (48 + n % 10)]
  | 0 => by simp [lastD]
  | k + 1 => by
    rw [lastD, lastD_snoc n k, lastD, Nat.pow_succ, Nat.mul_comm, ← Nat.div_div_eq_div_mul]; rfl
theorem pad_eq : ∀ (d n : Nat), n < 10 ^ (d + 1) → List.replicate (d + 1 - (Lib.decDigits n).length) (48 : UInt8) ++ Lib.decDigits n = lastD n (d + 1)
  | 0, n, h => by
    have h : n < 10 := by simpa using h
    rw [Lib.decDigits_one h, lastD_snoc]
    simp [lastD, Nat.mod_eq_of_lt h]
  | d + 1, n, h => by
    have hq : n / 10 < 10 ^ (d + 1) := by rw [Nat.pow_succ] at h; omega
    have ih := pad_eq d (n / 10) hq
    rw [lastD_snoc, ← ih]
    by_cases hn : n < 10
    · rw [show n / 10 = 0 by omega, Lib.decDigits_one hn, Lib.decDigits_one (by omega), Nat.mod_eq_of_lt hn]
      simp only [List.length_cons, List.length_nil, Nat.zero_add, Nat.add_sub_cancel]
      rw [List.replicate_succ', List.append_assoc, List.append_assoc]; rfl
    · have e : Lib.decDigits n = Lib.decDigits (n / 10) ++ [UInt8.ofNat (48 + n % 10)] := by
        conv => lhs; rw [Lib.decDigits]
        rw [dif_neg hn]
      rw [e, List.length_append, List.length_singleton, ← List.append_assoc]
      congr 3
      omega
theorem rep_one : ∀ c, Lib.repeatL [48] c = List.replicate c (48 : UInt8)
  | 0 => rfl
  | c + 1 => by rw [Lib.repeatL, rep_one c, List.replicate_succ]; rfl
theorem pad_B {n d : Nat} (h : n < 10 ^ (d + 1)) : (⟨(Lib.repeatL ((⟨#[48]⟩ : ByteArray).data.toList) (d + 1 - (dgB n).size)).toArray⟩ : ByteArray) ++ dgB n = lastB n (d + 1) := by
  have e : (dgB n).size = (Lib.decDigits n).length := by simp [dgB, ByteArray.size]
  have e2 : (⟨#[48]⟩ : ByteArray).data.toList = [48] := rfl
  rw [e, e2, rep_one, dgB, ba_append, pad_eq d n h, lastB]
theorem rep_size (c : Nat) : (⟨(Lib.repeatL ((⟨#[48]⟩ : ByteArray).data.toList) c).toArray⟩ : ByteArray).size = c := by
  have e2 : (⟨#[48]⟩ : ByteArray).data.toList = [48] := rfl
  rw [e2, rep_one]
  simp [ByteArray.size]
theorem last3 (n : Nat) : lastB n 3 = lastB (n % 1000) 3 := by
  have h1 : n % 10 = n % 1000 % 10 := by omega
  have h2 : n / 10 % 10 = n % 1000 / 10 % 10 := by omega
  have h3 : n / 100 % 10 = n % 1000 / 100 % 10 := by omega
  simp only [lastB, lastD, show (10 : Nat) ^ 2 = 100 from rfl, show (10 : Nat) ^ 1 = 10 from rfl, show (10 : Nat) ^ 0 = 1 from rfl, Nat.div_one]
  rw [h1, h2, h3]
/-- the table of the powers of ten, as the library lays it -/
def Tab (w : World) : Prop := Lib.TabIs Tryz.prog w "internal/strconv.uint64pow10" .u64 Lib.pow10Tab
theorem Tab.below {w w' : World} (h : Tab w) (hb : Below w.heap.size w w') : Tab w' := by
  have hgn : Tryz.prog.globalNamed "internal/strconv.uint64pow10" = some 1 := by kernel_rfl
  unfold Tab Lib.TabIs World.var? at h ⊢
  rw [hgn] at h ⊢
  simp only [Option.bind_some] at h ⊢
  have hlt : 1 < w.heap.size := by
    rcases Nat.lt_or_ge 1 w.heap.size with h' | h'
    · exact h'
    · rw [Array.getElem?_eq_none h'] at h; cases h
  rw [hb.block _ hlt]
  exact h
theorem below_lib {w : World} (k : Nat) (os : Array Obj) : Below w.heap.size w (Go.Sort.grow (w.drewN k) os) :=
  ⟨rfl, rfl, rfl, by simp [Go.Sort.grow], fun b hb => by
    show (w.heap ++ os)[b]? = w.heap[b]?
    rw [Array.getElem?_append_left hb]⟩
set_option maxHeartbeats 400000 in
theorem text_c (n : Nat) (w : World) (hn : n ≤ 9223372036854775807) (ht : Tab w) : Calls Tryz.prog 31 #[.int .i64 (n : Int)] w fun e w' => e = .returned (.string (dgB n)) ∧ Below w.heap.size w w' := by
  have CT := Lib.hid (Tryz.strconv_FormatInt_10 (n : Int) (by omega) (by omega) w ht)
  have HE := Lib.hid (show (⟨(Lib.itoa (n : Int)).toArray⟩ : ByteArray) = dgB n by rw [Lib.itoa_nonneg]; rfl)
  clear ht
  generalize (⟨(Lib.itoa (n : Int)).toArray⟩ : ByteArray) = S at *
  go_enter Tryz.func31, Tryz.ntmps31
  go_wp2_with (go_at_call 50; refine CT.out.mono ?_; rintro e w' ⟨rfl, k, os, rfl⟩; have hb := below_lib (w := w) k os)
  go_ret
  exact ⟨by rw [← HE.out]; rfl, below_lib _ _⟩
end

section
set_option linter.unusedVariables false
open Go.RowKit Go.Deep

/-- minutes, seconds, thousandths -/
def ttB (n : Nat) : ByteArray := dgB (n / 60000) ++ ⟨#[58]⟩ ++ lastB (n / 1000 % 60) 2 ++ ⟨#[46]⟩ ++ lastB (n % 1000) 3
def ttR (t : Int) : ByteArray := if inR t 0 1000000000 = true then ttB t.toNat else ⟨#[]⟩
theorem ba_size1 (x : UInt8) : (⟨#[x]⟩ : ByteArray).size = 1 := rfl
end

section
set_option linter.unusedVariables false
open Go.RowKit Go.Deep

/-- the decimal text of a signed number -/
def sgB (n : Int) : ByteArray := ⟨(Lib.itoa n).toArray⟩
theorem sgB_size {n : Int} (h0 : -9223372036854775808 ≤ n) (h1 : n ≤ 9223372036854775807) : (sgB n).size ≤ 21 := by
  have := Lib.itoa_length_le n h0 h1
  simpa [sgB, ByteArray.size] using this
theorem sgB_nat (n : Nat) : sgB (n : Int) = dgB n := by unfold sgB dgB; rw [Lib.itoa_nonneg]
theorem sgB_neg {n : Nat} (h : 1 ≤ n) : (⟨#[45]⟩ : ByteArray) ++ dgB n = sgB (-(n : Int)) := by
  unfold sgB dgB
  rw [Lib.itoa_neg n h, show (⟨#[45]⟩ : ByteArray) = ⟨[45].toArray⟩ from rfl, ba_append]; rfl
def sp : ByteArray := ⟨#[32]⟩
/-- four numbers, blanks between -/
def lineB (a b c d : Int) : ByteArray := sgB a ++ ⟨#[32]⟩ ++ sgB b ++ ⟨#[32]⟩ ++ sgB c ++ ⟨#[32]⟩ ++ sgB d
/-- a blank ahead of each of two numbers -/
def pointB (a b : Int) : ByteArray := ⟨#[32]⟩ ++ sgB a ++ ⟨#[32]⟩ ++ sgB b
theorem lineB_size {a b c d : Int} (ha : (sgB a).size ≤ 21) (hb : (sgB b).size ≤ 21) (hc : (sgB c).size ≤ 21) (hd : (sgB d).size ≤ 21) : (lineB a b c d).size ≤ 90 := by
  unfold lineB
  simp only [ByteArray.size_append, ba_size1]
  omega
theorem pointB_size {a b : Int} (ha : (sgB a).size ≤ 21) (hb : (sgB b).size ≤ 21) : (pointB a b).size ≤ 44 := by
  unfold pointB
  simp only [ByteArray.size_append, ba_size1]
  omega
set_option maxHeartbeats 400000 in
theorem textI_c (n : Int) (w : World) (h0 : -9223372036854775808 ≤ n) (h1 : n ≤ 9223372036854775807) (ht : Tab w) : Calls Tryz.prog 31 #[.int .i64 n] w fun e w' => e = .returned (.string (sgB n)) ∧ Below w.heap.size w w' := by
  have CT := Lib.hid (Tryz.strconv_FormatInt_10 n h0 h1 w ht)
  have HE := Lib.hid (show (⟨(Lib.itoa n).toArray⟩ : ByteArray) = sgB n from rfl)
  clear ht
  generalize (⟨(Lib.itoa n).toArray⟩ : ByteArray) = S at *
  go_enter Tryz.func31, Tryz.ntmps31
  go_wp2_with (go_at_call 50; refine CT.out.mono ?_; rintro e w' ⟨rfl, k, os, rfl⟩; have hb := below_lib (w := w) k os)
  go_ret
  exact ⟨by rw [← HE.out]; rfl, below_lib _ _⟩
set_option maxHeartbeats 400000 in
theorem l01Signed_c (n : Int) (w : World) (h0 : -9223372036854775807 ≤ n) (h1 : n ≤ 9223372036854775807) : Calls Tryz.prog 40 #[.int .i64 n] w fun e w' => e = .returned (.string (sgB n)) ∧ Below w.heap.size w w' := by
  by_cases h : n < 0
  · obtain ⟨m, rfl⟩ : ∃ m : Nat, n = -(m : Int) := ⟨n.natAbs, by omega⟩
    have CN := Lib.hid (fun w => l01Number_c m w (by omega))
    have HE := Lib.hid (sgB_neg (n := m) (by omega))
    have hz := dgB_size (n := m) (by omega)
    have hw : IntKind.i64.wrap (-(-(m : Int))) = (m : Int) := by rw [IntKind.wrap_i64]; omega
    have hw2 : IntKind.i64.wrap (m : Int) = (m : Int) := by rw [IntKind.wrap_i64]; omega
    have zc := ba_size1 45
    generalize dgB m = S at *
    go_enter Tryz.func40, Tryz.ntmps40
    go_wp2_with (go_at_call 49; refine (CN.out _).mono ?_; rintro e w1 ⟨rfl, hb⟩)
    go_ret
    exact ⟨by rw [← HE.out]; rfl, hb⟩
  · obtain ⟨m, rfl⟩ : ∃ m : Nat, n = (m : Int) := ⟨n.toNat, by omega⟩
    have CN := Lib.hid (fun w => l01Number_c m w (by omega))
    have HE := Lib.hid (sgB_nat m)
    generalize dgB m = S at *
    go_enter Tryz.func40, Tryz.ntmps40
    go_wp2_with (go_at_call 49; refine (CN.out _).mono ?_; rintro e w1 ⟨rfl, hb⟩)
    go_ret
    exact ⟨by rw [HE.out]; rfl, hb⟩
set_option maxRecDepth 100000 in
set_option maxHeartbeats 2000000 in
theorem lineText_c (x0 x1 x2 x3 : Int) (w : World) (hA : isPt x0 x1 = true) (hB : isPt x2 x3 = true) (ht : Tab w) : Calls Tryz.prog 30 #[.agg #[.int .i64 x0, .int .i64 x1, .int .i64 x2, .int .i64 x3]] w fun e w' => e = .returned (.string (lineB x0 x1 x2 x3)) ∧ Below w.heap.size w w' := by
  obtain ⟨a1, a2, a3, a4⟩ := isPt_true hA
  obtain ⟨b1, b2, b3, b4⟩ := isPt_true hB
  have HE := Lib.hid (show lineB x0 x1 x2 x3 = sgB x0 ++ ⟨#[32]⟩ ++ sgB x1 ++ ⟨#[32]⟩ ++ sgB x2 ++ ⟨#[32]⟩ ++ sgB x3 from rfl)
  have z0 := sgB_size (n := x0) (by omega) (by omega)
  have z1 := sgB_size (n := x1) (by omega) (by omega)
  have z2 := sgB_size (n := x2) (by omega) (by omega)
  have z3 := sgB_size (n := x3) (by omega) (by omega)
  have C0 := Lib.hid (fun w ht => textI_c x0 w (by omega) (by omega) ht)
  have C1 := Lib.hid (fun w ht => textI_c x1 w (by omega) (by omega) ht)
  have C2 := Lib.hid (fun w ht => textI_c x2 w (by omega) (by omega) ht)
  have C3 := Lib.hid (fun w ht => textI_c x3 w (by omega) (by omega) ht)
  obtain ⟨W, hW⟩ : ∃ W, W = w.alloc (.cells #[.int .i64 x0, .int .i64 x1, .int .i64 x2, .int .i64 x3] 25) := ⟨_, rfl⟩
  have HD : Below w.heap.size w W := by subst hW; exact (by repeat (first | with_reducible exact Below.refl _ _ | with_reducible assumption | with_reducible refine Below.drew ?_ | with_reducible refine Below.alloc ?_ (by first | exact Nat.le_refl _ | (simp; done) | (simp; omega) | omega) _ | with_reducible refine Below.setCell ?_ (by first | exact Nat.le_refl _ | (simp; done) | (simp; omega) | omega) _ | with_reducible refine Below.trans ?_ (Below.mono (by with_reducible assumption) (by first | exact Nat.le_refl _ | (simp; done) | (simp; omega) | omega))))
  have HT := Lib.hid (ht.below HD)
  have q0 : W.cell? ⟨w.heap.size, 0, none⟩ = some (.int .i64 x0) := by subst hW; simp [go_sem]
  have q1 : W.cell? ⟨w.heap.size, 1, none⟩ = some (.int .i64 x1) := by subst hW; simp [go_sem]
  have q2 : W.cell? ⟨w.heap.size, 2, none⟩ = some (.int .i64 x2) := by subst hW; simp [go_sem]
  have q3 : W.cell? ⟨w.heap.size, 3, none⟩ = some (.int .i64 x3) := by subst hW; simp [go_sem]
  have LW : w.heap.size < W.heap.size := by subst hW; simp
  have zc := ba_size1 32
  clear ht hA hB a1 a2 a3 a4 b1 b2 b3 b4
  generalize sgB x0 = S0 at *
  generalize sgB x1 = S1 at *
  generalize sgB x2 = S2 at *
  generalize sgB x3 = S3 at *
  go_enter Tryz.func30, Tryz.ntmps30
  go_wp2_with fail
  rw [← hW]
  clear hW
  refine wp_region_later (by kernel_rfl) (by kernel_rfl) ?_
  repeat (first | go_big_quiet_step ((first | (go_at_call_of 31 (x0); exact later_of _ (C0.out _ (HT.out.below (Later.below _)))) | (go_at_call_of 31 (x1); exact later_of _ (C1.out _ (HT.out.below (Later.below _)))) | (go_at_call_of 31 (x2); exact later_of _ (C2.out _ (HT.out.below (Later.below _)))) | (go_at_call_of 31 (x3); exact later_of _ (C3.out _ (HT.out.below (Later.below _)))))) | quiet_step ((first | (go_at_call_of 31 (x0); exact later_of _ (C0.out _ (HT.out.below (Later.below _)))) | (go_at_call_of 31 (x1); exact later_of _ (C1.out _ (HT.out.below (Later.below _)))) | (go_at_call_of 31 (x2); exact later_of _ (C2.out _ (HT.out.below (Later.below _)))) | (go_at_call_of 31 (x3); exact later_of _ (C3.out _ (HT.out.below (Later.below _)))))))
  refine wpQuiet_nil ?_
  intro _ hw'
  obtain ⟨sk1, hw''⟩ := hw'
  subst hw''
  have hbk1 := sk1.below
  generalize sk1.w = wk1 at hbk1 ⊢
  clear sk1
  try replace hbk1 := below_trans (by with_reducible assumption) hbk1
  obtain ⟨hck1, hfk1⟩ := bcell hbk1
  have hzk1 := hbk1.size
  try simp at hzk1
  try have hzk10 : w.heap.size ≤ wk1.heap.size := by omega
  try have hzk11 : w.heap.size < wk1.heap.size := by omega
  try have hzk12 : w.heap.size + 1 < wk1.heap.size := by omega
  try have hzk13 : w.heap.size + 1 + 1 < wk1.heap.size := by omega
  try have hzk14 : w.heap.size + 1 + 1 + 1 < wk1.heap.size := by omega
  go_wp2_with fail
  go_ret
  exact ⟨by rw [HE.out]; rfl, by first | exact hbk1 | exact HD.trans (hbk1.mono HD.size)⟩
set_option maxRecDepth 100000 in
set_option maxHeartbeats 2000000 in
theorem l04Point_c (x0 x1 : Int) (w : World) (hA : isPt x0 x1 = true) : Calls Tryz.prog 55 #[.agg #[.int .i64 x0, .int .i64 x1]] w fun e w' => e = .returned (.string (pointB x0 x1)) ∧ Below w.heap.size w w' := by
  obtain ⟨a1, a2, a3, a4⟩ := isPt_true hA
  have HE := Lib.hid (show pointB x0 x1 = ⟨#[32]⟩ ++ sgB x0 ++ ⟨#[32]⟩ ++ sgB x1 from rfl)
  have z0 := sgB_size (n := x0) (by omega) (by omega)
  have z1 := sgB_size (n := x1) (by omega) (by omega)
  have C0 := Lib.hid (fun w => l01Signed_c x0 w (by omega) (by omega))
  have C1 := Lib.hid (fun w => l01Signed_c x1 w (by omega) (by omega))
  obtain ⟨W, hW⟩ : ∃ W, W = w.alloc (.cells #[.int .i64 x0, .int .i64 x1] 23) := ⟨_, rfl⟩
  have HD : Below w.heap.size w W := by subst hW; exact (by repeat (first | with_reducible exact Below.refl _ _ | with_reducible assumption | with_reducible refine Below.drew ?_ | with_reducible refine Below.alloc ?_ (by first | exact Nat.le_refl _ | (simp; done) | (simp; omega) | omega) _ | with_reducible refine Below.setCell ?_ (by first | exact Nat.le_refl _ | (simp; done) | (simp; omega) | omega) _ | with_reducible refine Below.trans ?_ (Below.mono (by with_reducible assumption) (by first | exact Nat.le_refl _ | (simp; done) | (simp; omega) | omega))))
  have q0 : W.cell? ⟨w.heap.size, 0, none⟩ = some (.int .i64 x0) := by subst hW; simp [go_sem]
  have q1 : W.cell? ⟨w.heap.size, 1, none⟩ = some (.int .i64 x1) := by subst hW; simp [go_sem]
  have LW : w.heap.size < W.heap.size := by subst hW; simp
  have zc := ba_size1 32
  clear hA a1 a2 a3 a4
  generalize sgB x0 = S0 at *
  generalize sgB x1 = S1 at *
  go_enter Tryz.func55, Tryz.ntmps55
  go_wp2_with fail
  rw [← hW]
  clear hW
  refine wp_region_later (by kernel_rfl) (by kernel_rfl) ?_
  repeat (first | go_big_quiet_step ((first | (go_at_call_of 40 (x0); exact later_of _ (C0.out _)) | (go_at_call_of 40 (x1); exact later_of _ (C1.out _)))) | quiet_step ((first | (go_at_call_of 40 (x0); exact later_of _ (C0.out _)) | (go_at_call_of 40 (x1); exact later_of _ (C1.out _)))))
  refine wpQuiet_nil ?_
  intro _ hw'
  obtain ⟨sk1, hw''⟩ := hw'
  subst hw''
  have hbk1 := sk1.below
  generalize sk1.w = wk1 at hbk1 ⊢
  clear sk1
  try replace hbk1 := below_trans (by with_reducible assumption) hbk1
  obtain ⟨hck1, hfk1⟩ := bcell hbk1
  have hzk1 := hbk1.size
  try simp at hzk1
  try have hzk10 : w.heap.size ≤ wk1.heap.size := by omega
  try have hzk11 : w.heap.size < wk1.heap.size := by omega
  try have hzk12 : w.heap.size + 1 < wk1.heap.size := by omega
  try have hzk13 : w.heap.size + 1 + 1 < wk1.heap.size := by omega
  try have hzk14 : w.heap.size + 1 + 1 + 1 < wk1.heap.size := by omega
  go_wp2_with fail
  go_ret
  exact ⟨by rw [HE.out]; rfl, by first | exact hbk1 | exact HD.trans (hbk1.mono HD.size)⟩
end
end Go.Proofs.YtjgndfphbmkhaaaGreatDoor
