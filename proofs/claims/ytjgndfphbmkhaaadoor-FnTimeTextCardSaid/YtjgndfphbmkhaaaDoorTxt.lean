/-
  Decimal texts: the reference's and the program's. Conditions stand with each.
-/
import Derived.Test.YtjgndfphbmkhaaaDoorShelf
import Derived.Test.YtjgndfphbmkhaaaDoorHeld
import Derived.Laws.BytesArg
import Derived.Lib.ItoaLen
import Derived.Lib.ItoaMem
namespace Go.Proofs.YtjgndfphbmkhaaaDoor
set_option linter.unusedVariables false
open Go.RowKit Go.Deep

/-- the decimal text of a number -/
def dgB (n : Nat) : ByteArray := ⟨(Lib.decDigits n).toArray⟩
theorem ba_append (a b : List UInt8) : (⟨a.toArray⟩ : ByteArray) ++ ⟨b.toArray⟩ = ⟨(a ++ b).toArray⟩ := by
  apply ByteArray.ext
  simp [ByteArray.data_append]
theorem one_num (m : Nat) : strOfNums [48 + (m : Int)] = ⟨[UInt8.ofNat (48 + m)].toArray⟩ := by
  unfold strOfNums
  simp only [List.map_cons, List.map_nil]
  rw [show (48 + (m : Int)).toNat = 48 + m by omega]
theorem dgB_small {n : Nat} (h : n < 10) : dgB n = strOfNums [48 + (n : Int)] := by
  rw [one_num, dgB, Lib.decDigits_one h]
theorem dgB_step {n : Nat} (h : ¬ n < 10) : dgB (n / 10) ++ strOfNums [48 + ((n % 10 : Nat) : Int)] = dgB n := by
  rw [one_num, dgB, dgB, ba_append]
  congr 2
  conv => rhs; rw [Lib.decDigits]
  rw [dif_neg h]
theorem convB (d : Int) (g : Nat) (u : World) (h : u.cell? ⟨g, 0, none⟩ = some (.int .u8 d)) : (convert 27 9 (.slice (some ⟨g, 0, none⟩) 1 1)).run Tryd.prog u = .ok (.string (strOfNums [d])) u :=
  run_convert_bytes_arg _ _ _ Tryd.underlying27 Tryd.underlying5 _ 0 1 1 [d] rfl (fun i hi => by (have e0 : i = 0 := by omega); subst e0; simpa using h) _ Tryd.underlying9
/-- the last digits of a number -/
def lastD (n : Nat) : Nat → List UInt8
  | 0 => []
  | k + 1 => UInt8.ofNat (48 + n / 10 ^ k % 10) :: lastD n k
def lastB (n k : Nat) : ByteArray := ⟨(lastD n k).toArray⟩
theorem lastB_step (n k : Nat) : strOfNums [48 + ((n / 10 ^ k % 10 : Nat) : Int)] ++ lastB n k = lastB n (k + 1) := by
  rw [one_num, lastB, lastB, ba_append]; rfl
theorem lastD_len (n : Nat) : ∀ k, (lastD n k).length = k
  | 0 => rfl
  | k + 1 => by simp [lastD, lastD_len n k]
theorem lastB_size (n k : Nat) : (lastB n k).size = k := by
  have := lastD_len n k
  simpa [lastB, ByteArray.size] using this
theorem dgB_size {n : Nat} (h : n ≤ 9223372036854775807) : (dgB n).size ≤ 21 := by
  have := Lib.itoa_length_le (n : Int) (by omega) (by omega)
  rw [Lib.itoa_nonneg] at this
  simpa [dgB, ByteArray.size] using this
theorem one_size (d : Int) : (strOfNums [d]).size = 1 := rfl
set_option maxRecDepth 100000 in
set_option maxHeartbeats 2000000 in
theorem l01Number_c : ∀ (n : Nat) (w : World), n ≤ 9223372036854775807 → Calls Tryd.prog 42 #[.int .i64 (n : Int)] w fun e w' => e = .returned (.string (dgB n)) ∧ Below w.heap.size w w' := by
  intro n
  induction n using Nat.strongRecOn with
  | _ n ih =>
    intro w hn
    by_cases h : n < 10
    · have h' : (n : Int) < 10 := by omega
      have t4 : IntKind.i64.wrap (48 + (n : Int)) = 48 + (n : Int) := by rw [IntKind.wrap_i64]; omega
      have t5 : IntKind.u8.wrap (48 + (n : Int)) = 48 + (n : Int) := by simp [IntKind.wrap, IntKind.bits, IntKind.signed]; omega
      have hcv := convB (48 + (n : Int)) w.heap.size (w.alloc (.cells #[.int .u8 (48 + (n : Int))] 5)) (by simp [go_sem])
      have HE := Lib.hid (dgB_small h)
      clear ih
      generalize strOfNums [48 + (n : Int)] = sd at *
      go_enter Tryd.func42, Tryd.ntmps42
      go_wp2_with fail
      go_ret
      exact ⟨by rw [HE.out]; rfl, (by repeat (first | with_reducible exact Below.refl _ _ | with_reducible assumption | with_reducible refine Below.drew ?_ | with_reducible refine Below.alloc ?_ (by first | exact Nat.le_refl _ | (simp; done) | (simp; omega) | omega) _ | with_reducible refine Below.setCell ?_ (by first | exact Nat.le_refl _ | (simp; done) | (simp; omega) | omega) _ | with_reducible refine Below.trans ?_ (Below.mono (by with_reducible assumption) (by first | exact Nat.le_refl _ | (simp; done) | (simp; omega) | omega))))⟩
    · have h' : ¬ (n : Int) < 10 := by omega
      have IH := Lib.hid (fun w => ih (n / 10) (by omega) w (by omega))
      have HE := Lib.hid (dgB_step h)
      have t1 : (n : Int).tmod 10 = ((n % 10 : Nat) : Int) := by rw [Int.tmod_eq_emod_of_nonneg (by omega)]; omega
      have t2 : (n : Int).tdiv 10 = ((n / 10 : Nat) : Int) := by rw [Int.tdiv_eq_ediv_of_nonneg (by omega)]; omega
      have hm9 : n % 10 < 10 := by omega
      have hq9 : n / 10 ≤ 9223372036854775807 := by omega
      have hDz := dgB_size hq9
      clear ih
      generalize n % 10 = m at *
      generalize n / 10 = q at *
      have t3 : IntKind.i64.wrap (m : Int) = (m : Int) := by rw [IntKind.wrap_i64]; omega
      have t6 : IntKind.i64.wrap (q : Int) = (q : Int) := by rw [IntKind.wrap_i64]; omega
      have t4 : IntKind.i64.wrap (48 + (m : Int)) = 48 + (m : Int) := by rw [IntKind.wrap_i64]; omega
      have t5 : IntKind.u8.wrap (48 + (m : Int)) = 48 + (m : Int) := by simp [IntKind.wrap, IntKind.bits, IntKind.signed]; omega
      have hcv := fun g u => convB (48 + (m : Int)) g u
      have hsd := one_size (48 + (m : Int))
      generalize strOfNums [48 + (m : Int)] = sd at *
      go_enter Tryd.func42, Tryd.ntmps42
      go_wp2_with fail
      rw [show Op.convert 27 9 (Operand.tmp 17) = id (Op.convert 27 9 (Operand.tmp 17)) from rfl]
      rw [show Op.binOp BinOp.add 9 (Operand.tmp 12) (Operand.tmp 18) 9 = id (Op.binOp BinOp.add 9 (Operand.tmp 12) (Operand.tmp 18) 9) from rfl]
      go_region_held3 (fun wx => Below w.heap.size w wx ∧ ∀ b o, b < w.heap.size → wx.cell? ⟨b, o, none⟩ = w.cell? ⟨b, o, none⟩)
        (repeat (first | with_reducible assumption | with_reducible exact held_step (by assumption) hb | with_reducible refine held_alloc ?_ _ | with_reducible exact held_start _ _ | with_reducible exact held_begin _))
        (first | (go_at_call 42; refine (IH.out _).mono ?_; rintro e w1 ⟨rfl, hb⟩; have hz := held_size (by with_reducible assumption) hb; (try simp at hz); have hs := hb.size; (try simp at hs); obtain ⟨hc, hf⟩ := bcell hb))
      all_goals go_wp2_with fail
      all_goals go_ret
      all_goals exact ⟨by rw [← HE.out]; rfl, (held_of (by with_reducible exact And.left (by with_reducible assumption))).1⟩
set_option maxRecDepth 100000 in
set_option maxHeartbeats 2000000 in
theorem l01Digits_c (n d : Nat) (w : World) (hn : n ≤ 9223372036854775807) (hd : d ≤ 100) : Calls Tryd.prog 43 #[.int .i64 (n : Int), .int .i64 (d : Int)] w fun e w' => e = .returned (.string (lastB n d)) ∧ Below w.heap.size w w' := by
  go_enter Tryd.func43, Tryd.ntmps43
  go_wp2_with fail
  go_loopw [0, 5, 6] (fun x s i wr => ∃ k : Nat, x = .int .i64 ((n / 10 ^ k : Nat) : Int) ∧ s = .string (lastB n k) ∧ i = .int .i64 (k : Int) ∧ k ≤ d ∧ Below w.heap.size w wr) (fun _ _ i _ => d - (intOf i).toNat)
  case atStart => exact ⟨0, by simp, rfl, rfl, Nat.zero_le _, (by repeat (first | with_reducible exact Below.refl _ _ | with_reducible assumption | with_reducible refine Below.drew ?_ | with_reducible refine Below.alloc ?_ (by first | exact Nat.le_refl _ | (simp; done) | (simp; omega) | omega) _ | with_reducible refine Below.setCell ?_ (by first | exact Nat.le_refl _ | (simp; done) | (simp; omega) | omega) _ | with_reducible refine Below.trans ?_ (Below.mono (by with_reducible assumption) (by first | exact Nat.le_refl _ | (simp; done) | (simp; omega) | omega))))⟩
  case round =>
    obtain ⟨k, rfl, rfl, rfl, hk, hbl⟩ := hrel
    by_cases h : k < d
    · have h' : (k : Int) < (d : Int) := by omega
      have HE := Lib.hid (lastB_step n k)
      have hN : n / 10 ^ k ≤ 9223372036854775807 := Nat.le_trans (Nat.div_le_self _ _) hn
      have HS := Lib.hid (show n / 10 ^ (k + 1) = n / 10 ^ k / 10 by rw [Nat.pow_succ, Nat.div_div_eq_div_mul])
      generalize n / 10 ^ k = N at *
      have hSz := lastB_size n k
      generalize lastB n k = S at *
      have t1 : (N : Int).tmod 10 = ((N % 10 : Nat) : Int) := by rw [Int.tmod_eq_emod_of_nonneg (by omega)]; omega
      have t2 : (N : Int).tdiv 10 = ((N / 10 : Nat) : Int) := by rw [Int.tdiv_eq_ediv_of_nonneg (by omega)]; omega
      have hm9 : N % 10 < 10 := by omega
      have hq9 : N / 10 ≤ 9223372036854775807 := by omega
      generalize N % 10 = m at *
      generalize N / 10 = q at *
      have t3 : IntKind.i64.wrap (m : Int) = (m : Int) := by rw [IntKind.wrap_i64]; omega
      have t6 : IntKind.i64.wrap (q : Int) = (q : Int) := by rw [IntKind.wrap_i64]; omega
      have t4 : IntKind.i64.wrap (48 + (m : Int)) = 48 + (m : Int) := by rw [IntKind.wrap_i64]; omega
      have t5 : IntKind.u8.wrap (48 + (m : Int)) = 48 + (m : Int) := by simp [IntKind.wrap, IntKind.bits, IntKind.signed]; omega
      have hcv := convB (48 + (m : Int)) wr.heap.size (wr.alloc (.cells #[.int .u8 (48 + (m : Int))] 5)) (by simp [go_sem])
      have hsd := one_size (48 + (m : Int))
      generalize strOfNums [48 + (m : Int)] = sd at *
      go_wp2_with fail
      exact ⟨⟨k + 1, by rw [HS.out], by rw [← HE.out], by simp, by omega, hbl.alloc hbl.size _⟩, by simp [intOf]; omega⟩
    · have hkd := Lib.hid (show k = d by omega)
      have h' : ¬ (k : Int) < (d : Int) := by omega
      go_wp2_with fail
      go_ret
      exact ⟨by rw [← hkd.out]; rfl, hbl⟩
end Go.Proofs.YtjgndfphbmkhaaaDoor
