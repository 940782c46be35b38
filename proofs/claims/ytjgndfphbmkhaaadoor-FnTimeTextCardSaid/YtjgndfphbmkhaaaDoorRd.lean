/-
  Reading numbers: the plain law (the text of a number spells that number). No condition; no program is named.
-/
import Derived.Test.YtjgndfphbmkhaaaDoorTxt3
import Derived.Lib.ParseIntBTie
namespace Go.Proofs.YtjgndfphbmkhaaaDoor
set_option linter.unusedVariables false
open Go.RowKit Go.Deep

/-- what digits spell -/
def valA : Nat → List UInt8 → Nat
  | acc, [] => acc
  | acc, c :: r => valA (acc * 10 + (c.toNat - 48)) r
theorem valA_nil (acc : Nat) : valA acc [] = acc := by unfold valA; rfl
theorem valA_cons (acc : Nat) (c : UInt8) (r : List UInt8) : valA acc (c :: r) = valA (acc * 10 + (c.toNat - 48)) r := by conv => lhs; unfold valA
def isDg (c : UInt8) : Prop := 48 ≤ c.toNat ∧ c.toNat ≤ 57
theorem valA_le : ∀ (l : List UInt8) (acc : Nat), acc ≤ valA acc l
  | [], acc => by rw [valA_nil]; exact Nat.le_refl _
  | c :: r, acc => by
    have := valA_le r (acc * 10 + (c.toNat - 48))
    rw [valA_cons]
    omega
theorem valA_snoc : ∀ (l : List UInt8) (acc : Nat) (c : UInt8), valA acc (l ++ [c]) = valA acc l * 10 + (c.toNat - 48)
  | [], acc, c => by rw [List.nil_append, valA_cons, valA_nil, valA_nil]
  | d :: r, acc, c => by rw [List.cons_append, valA_cons, valA_cons, valA_snoc r]
theorem dg_nat {n : Nat} (h : n < 10) : (UInt8.ofNat (48 + n)).toNat = 48 + n := by
  match n, h with
  | 0, _ => rfl
  | 1, _ => rfl
  | 2, _ => rfl
  | 3, _ => rfl
  | 4, _ => rfl
  | 5, _ => rfl
  | 6, _ => rfl
  | 7, _ => rfl
  | 8, _ => rfl
  | 9, _ => rfl
theorem dec_all : ∀ n : Nat, (∀ c ∈ Lib.decDigits n, isDg c) ∧ valA 0 (Lib.decDigits n) = n ∧ Lib.decDigits n ≠ [] := by
  intro n
  induction n using Nat.strongRecOn with
  | _ n ih =>
    by_cases h : n < 10
    · rw [Lib.decDigits_one h]
      refine ⟨fun c hc => ?_, ?_, by simp⟩
      · rw [List.mem_singleton] at hc
        subst hc
        have := dg_nat h
        unfold isDg
        omega
      · rw [valA_cons, valA_nil, dg_nat h]
        omega
    · obtain ⟨i1, i2, i3⟩ := ih (n / 10) (by omega)
      have e : Lib.decDigits n = Lib.decDigits (n / 10) ++ [UInt8.ofNat (48 + n % 10)] := by
        conv => lhs; rw [Lib.decDigits]
        rw [dif_neg h]
      have hd := dg_nat (n := n % 10) (by omega)
      rw [e]
      refine ⟨fun c hc => ?_, ?_, by simp⟩
      · rcases List.mem_append.1 hc with g | g
        · exact i1 c g
        · rw [List.mem_singleton] at g
          subst g
          unfold isDg
          omega
      · rw [valA_snoc, i2, hd]
        omega
theorem dec_inj {a b : Nat} (h : Lib.decDigits a = Lib.decDigits b) : a = b := by
  have := (dec_all a).2.1
  rw [h, (dec_all b).2.1] at this
  exact this.symm
theorem parseM_ok : ∀ (l : List UInt8) (M acc : Nat), (∀ c ∈ l, isDg c) → valA acc l ≤ 9223372036854775808 → 9223372036854775808 ≤ M → Lib.parseUintM M acc l = .ok (valA acc l)
  | [], M, acc, _, _, _ => by rw [valA_nil]; rfl
  | c :: r, M, acc, hd, hv, hM => by
    obtain ⟨d1, d2⟩ := hd c (by simp)
    have hm := valA_le r (acc * 10 + (c.toNat - 48))
    rw [valA_cons] at hv ⊢
    simp only [Lib.parseUintM]
    rw [if_pos ⟨d1, d2⟩, if_neg (by omega), if_neg (by omega)]
    exact parseM_ok r M _ (fun x hx => hd x (by simp [hx])) hv hM
theorem parse_dec {n : Nat} (h : n < 9223372036854775808) : Lib.parseIntB 64 (Lib.decDigits n) = .ok (n : Int) := by
  obtain ⟨h1, h2, h3⟩ := dec_all n
  match hl : Lib.decDigits n with
  | [] => exact absurd hl h3
  | c :: r =>
    rw [hl] at h1 h2
    obtain ⟨d1, d2⟩ := h1 c (by simp)
    have hp : Lib.parseUintB 64 (c :: r) = .ok n := by
      unfold Lib.parseUintB
      rw [if_neg (by simp), parseM_ok _ _ _ h1 (by rw [h2]; omega) (by decide), h2]
    simp only [Lib.parseIntB]
    rw [if_neg (by omega), hp]
    simp only
    have d3 : ¬ c.toNat = 45 := by omega
    simp only [d3, not_false_eq_true, true_and, false_and, if_false]
    rw [if_neg (by omega)]
theorem parse_neg {n : Nat} (h1 : 1 ≤ n) (h : n ≤ 9223372036854775808) : Lib.parseIntB 64 (45 :: Lib.decDigits n) = .ok (-(n : Int)) := by
  obtain ⟨h1, h2, h3⟩ := dec_all n
  have hp : Lib.parseUintB 64 (Lib.decDigits n) = .ok n := by
    unfold Lib.parseUintB
    rw [if_neg h3, parseM_ok _ _ _ h1 (by rw [h2]; omega) (by decide), h2]
  simp only [Lib.parseIntB]
  rw [if_pos (.inr (by decide)), hp]
  have d3 : (45 : UInt8).toNat = 45 := rfl
  simp only [d3, not_true_eq_false, true_and, false_and, if_false, if_true]
  rw [if_neg (by omega)]
theorem last_len (n k : Nat) : (lastD n k).length = k := lastD_len n k
theorem last_dg (n : Nat) : ∀ k, ∀ c ∈ lastD n k, isDg c
  | 0, c, h => by simp [lastD] at h
  | k + 1, c, h => by
    simp only [lastD, List.mem_cons] at h
    rcases h with rfl | h
    · have := dg_nat (n := n / 10 ^ k % 10) (by omega)
      unfold isDg
      omega
    · exact last_dg n k c h
theorem vlast2 {n : Nat} (h : n < 100) : valA 0 (lastD n 2) = n := by
  have a := dg_nat (n := n / 10 ^ 1 % 10) (by omega)
  have b := dg_nat (n := n / 10 ^ 0 % 10) (by omega)
  simp only [lastD, valA_cons, valA_nil, a, b]
  omega
theorem vlast3 {n : Nat} (h : n < 1000) : valA 0 (lastD n 3) = n := by
  have a := dg_nat (n := n / 10 ^ 2 % 10) (by omega)
  have b := dg_nat (n := n / 10 ^ 1 % 10) (by omega)
  have c := dg_nat (n := n / 10 ^ 0 % 10) (by omega)
  simp only [lastD, valA_cons, valA_nil, a, b, c]
  omega
/-- the text of a time, as a list of bytes -/
theorem ttB_list (n : Nat) : (ttB n).data.toList = Lib.decDigits (n / 60000) ++ (58 :: (lastD (n / 1000 % 60) 2 ++ 46 :: lastD (n % 1000) 3)) := by
  simp [ttB, dgB, lastB, ByteArray.data_append]
theorem ttB_inj {a b : Nat} (h : ttB a = ttB b) : a = b := by
  have e := congrArg (fun x : ByteArray => x.data.toList) h
  simp only [ttB_list] at e
  obtain ⟨e1, e2⟩ := List.append_inj' e (by simp [last_len])
  have e3 := dec_inj e1
  simp only [List.cons.injEq, true_and] at e2
  obtain ⟨e4, e5⟩ := List.append_inj' e2 (by simp [last_len])
  simp only [List.cons.injEq, true_and] at e5
  have f1 := vlast2 (n := a / 1000 % 60) (by omega)
  have f2 := vlast3 (n := a % 1000) (by omega)
  rw [e4, vlast2 (n := b / 1000 % 60) (by omega)] at f1
  rw [e5, vlast3 (n := b % 1000) (by omega)] at f2
  omega
end Go.Proofs.YtjgndfphbmkhaaaDoor
