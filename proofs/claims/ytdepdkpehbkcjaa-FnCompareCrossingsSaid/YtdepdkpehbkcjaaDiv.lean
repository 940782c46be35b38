/-
  Division of two words by one, where the quotient is small. Conditions stand with each.
-/
import Derived.Test.YtdepdkpehbkcjaaL02e
import Derived.Shelf.Small.Bits
namespace Go.Proofs.Ytdepdkpehbkcjaa
set_option linter.unusedVariables false
open Go.RowKit Go.Deep Go.Lib Go.Shelf

def rhoL : Ren := ⟨fun n => if n = 134 then 139 else if n = 129 then 145 else 0, fun n => if n = 3 then 3 else if n = 4 then 4 else if n = 5 then 5 else if n = 9 then 9 else if n = 46 then 165 else if n = 53 then 157 else 0, fun n => n⟩
theorem laysL : Lays.n134 Try.prog rhoL where
  mixed := by kernel_rfl
  f129 := by kernel_rfl
  f134 := by kernel_rfl
  t3 := Try.underlying3
  a3 := Try.isAgg3
  z3 := Try.sizeOf3
  v3 := Try.zeroValue3
  t4 := Try.underlying4
  a4 := Try.isAgg4
  z4 := Try.sizeOf4
  v4 := Try.zeroValue4
  t5 := Try.underlying5
  a5 := Try.isAgg5
  z5 := Try.sizeOf5
  v5 := Try.zeroValue5
  t9 := Try.underlying9
  a9 := Try.isAgg9
  z9 := Try.sizeOf9
  v9 := Try.zeroValue9
  t46 := Try.underlying165
  a46 := Try.isAgg165
  z46 := Try.sizeOf165
  v46 := Try.zeroValue165
  t53 := Try.underlying157
  a53 := Try.isAgg157
  z53 := Try.sizeOf157
  v53 := Try.zeroValue157
theorem LeadingZeros64_c (x : Nat) (w : World) (hx : x < 18446744073709551616) :
    Calls Try.prog 139 #[.int .u64 x] w fun e w' => e = .returned (.int .i64 (64 - (Lib.bitLen x : Int))) ∧ w = w' :=
  (Any.bits_LeadingZeros64 laysL (x : Int) w (by omega) (by omega)).mono fun e w' h => ⟨h.1, h.2.symm⟩
theorem pow_cast (s : Nat) : ((2 : Int) ^ s) = ((2 ^ s : Nat) : Int) := by push_cast; rfl
theorem low_lt (lo s : Nat) (hs : s ≤ 63) (hlo : lo < 18446744073709551616) : lo / 2 ^ (64 - s) < 2 ^ s := by
  apply Nat.div_lt_of_lt_mul
  rw [← Nat.pow_add, show 64 - s + s = 64 by omega]
  exact hlo
theorem div_or (hi lo s : Nat) (hs : s ≤ 63) (hlo : lo < 18446744073709551616) (hhs : hi * 2 ^ s < 2147483648) :
    bits .or .u64 (IntKind.u64.wrap ((hi : Int) * 2 ^ s)) ((lo : Int) / 2 ^ (64 - s)) = ((hi * 2 ^ s + lo / 2 ^ (64 - s) : Nat) : Int) := by
  have hb := low_lt lo s hs hlo
  have e1 : IntKind.u64.wrap ((hi : Int) * 2 ^ s) = ((hi * 2 ^ s : Nat) : Int) := by
    rw [pow_cast, Mul64.mulN, Mul64.wrapN _ (by omega)]
  have e2 : (lo : Int) / 2 ^ (64 - s) = ((lo / 2 ^ (64 - s) : Nat) : Int) := by
    rw [pow_cast]; exact (Int.natCast_ediv _ _).symm
  have hl2 : lo / 2 ^ (64 - s) < 18446744073709551616 := Nat.lt_of_le_of_lt (Nat.div_le_self _ _) hlo
  rw [e1, e2, bits_or_u64_nat _ _ (by omega) hl2]
  rw [← Nat.shiftLeft_eq, Nat.shiftLeft_add_eq_or_of_lt hb]
theorem low_split (lo s : Nat) (hs : s ≤ 63) : lo * 2 ^ s = lo / 2 ^ (64 - s) * 18446744073709551616 + lo * 2 ^ s % 18446744073709551616 := by
  have h : lo * 2 ^ s / 18446744073709551616 = lo / 2 ^ (64 - s) := by
    rw [show (18446744073709551616 : Nat) = 2 ^ (64 - s) * 2 ^ s by rw [← Nat.pow_add, show 64 - s + s = 64 by omega]]
    exact Nat.mul_div_mul_right _ _ (Nat.two_pow_pos s)
  have := Nat.div_add_mod (lo * 2 ^ s) 18446744073709551616
  omega
end Go.Proofs.Ytdepdkpehbkcjaa
