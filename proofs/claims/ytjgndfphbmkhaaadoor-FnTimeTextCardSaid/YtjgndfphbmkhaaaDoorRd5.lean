/-
  Reading a time: plain laws about the text's parts. No condition; no program is named.
-/
import Derived.Test.YtjgndfphbmkhaaaDoorRd3
import Derived.Lib.CutLaws
import Derived.Lib.IndexBytes
namespace Go.Proofs.YtjgndfphbmkhaaaDoor
set_option linter.unusedVariables false
open Go.RowKit Go.Deep

theorem valA_app : ∀ (a b : List UInt8) (acc : Nat), valA acc (a ++ b) = valA (valA acc a) b
  | [], b, acc => by rw [List.nil_append, valA_nil]
  | c :: r, b, acc => by rw [List.cons_append, valA_cons, valA_cons, valA_app r b]
theorem parse_dg {l : List UInt8} (h : ∀ c ∈ l, isDg c) (h0 : l ≠ []) (hv : valA 0 l < 9223372036854775808) : Lib.parseIntB 64 l = .ok (valA 0 l : Int) := by
  match hl : l with
  | [] => exact absurd rfl h0
  | c :: r =>
    obtain ⟨d1, d2⟩ := h c (by simp)
    have hp : Lib.parseUintB 64 (c :: r) = .ok (valA 0 (c :: r)) := by
      unfold Lib.parseUintB
      rw [if_neg (by simp), parseM_ok _ _ _ h (by omega) (by decide)]
    simp only [Lib.parseIntB]
    rw [if_neg (by omega), hp]
    simp only
    have d3 : ¬ c.toNat = 45 := by omega
    simp only [d3, not_false_eq_true, true_and, false_and, if_false]
    rw [if_neg (by omega)]
theorem ext_list (s : ByteArray) (a b : Nat) : (s.extract a b).data.toList = (s.data.toList.drop a).take (b - a) := by
  simp [ByteArray.data_extract]
theorem ba_list (s : ByteArray) : s = ⟨s.data.toList.toArray⟩ := by
  apply ByteArray.ext
  simp
/-- the text of a number, cut by its length -/
theorem tt_min {s : ByteArray} {m : Nat} (e : s = ttB m) : s.extract 0 (s.size - 7) = dgB (m / 60000) := by
  have hl := ttB_list m
  have hz := tt_size m
  rw [← e] at hl hz
  have h := ext_list s 0 (s.size - 7)
  rw [ba_list (s.extract 0 (s.size - 7)), h, hl, hz]
  unfold dgB
  simp
theorem tt_dig {s : ByteArray} {m : Nat} (e : s = ttB m) : (s.extract (s.size - 6) (s.size - 4) ++ s.extract (s.size - 3) s.size).data.toList = lastD (m / 1000 % 60) 2 ++ lastD (m % 1000) 3 := by
  have hl := ttB_list m
  have hz := tt_size m
  rw [← e] at hl hz
  generalize Lib.decDigits (m / 60000) = A at *
  have e1 : s.data.toList = (A ++ [58]) ++ (lastD (m / 1000 % 60) 2 ++ (46 :: lastD (m % 1000) 3)) := by rw [hl]; simp
  have e2 : s.data.toList = (A ++ [58] ++ lastD (m / 1000 % 60) 2 ++ [46]) ++ lastD (m % 1000) 3 := by rw [hl]; simp
  have l2 := last_len (m / 1000 % 60) 2
  have l3 := last_len (m % 1000) 3
  have e3 : (s.extract (s.size - 6) (s.size - 4)).data.toList = lastD (m / 1000 % 60) 2 := by
    rw [ext_list, e1, List.drop_append_of_le_length (by simp; omega), List.drop_of_length_le (by simp; omega), List.nil_append, show s.size - 4 - (s.size - 6) = (lastD (m / 1000 % 60) 2).length by omega, List.take_left']
    rfl
  have e4 : (s.extract (s.size - 3) s.size).data.toList = lastD (m % 1000) 3 := by
    rw [ext_list, e2, List.drop_append_of_le_length (by simp; omega), List.drop_of_length_le (by simp; omega), List.nil_append, List.take_of_length_le (by omega)]
  rw [ByteArray.data_append, Array.toList_append, e3, e4]
theorem vdig (m : Nat) : valA 0 (lastD (m / 1000 % 60) 2 ++ lastD (m % 1000) 3) = (m / 1000 % 60) * 1000 + m % 1000 := by
  have a := dg_nat (n := m / 1000 % 60 / 10 ^ 1 % 10) (by omega)
  have b := dg_nat (n := m / 1000 % 60 / 10 ^ 0 % 10) (by omega)
  have c := dg_nat (n := m % 1000 / 10 ^ 2 % 10) (by omega)
  have d := dg_nat (n := m % 1000 / 10 ^ 1 % 10) (by omega)
  have e := dg_nat (n := m % 1000 / 10 ^ 0 % 10) (by omega)
  simp only [lastD, valA_app, valA_cons, valA_nil, a, b, c, d, e]
  omega
theorem tt_sum {m : Nat} (hm : m ≤ 1000000000) : wrap64 (wrap64 (60000 * ((m / 60000 : Nat) : Int)) + ((m / 1000 % 60 * 1000 + m % 1000 : Nat) : Int)) = (m : Int) := by
  have e1 : wrap64 (60000 * ((m / 60000 : Nat) : Int)) = 60000 * ((m / 60000 : Nat) : Int) := by unfold wrap64; omega
  have e2 : 60000 * ((m / 60000 : Nat) : Int) + ((m / 1000 % 60 * 1000 + m % 1000 : Nat) : Int) = (m : Int) := by omega
  rw [e1, e2]
  unfold wrap64
  omega
theorem mem_bytR {s : ByteArray} {k : Nat} (h : k < s.size) : bytR s k ∈ s.data.toList := by
  unfold bytR
  rw [List.getD_eq_getElem?_getD, List.getElem?_eq_getElem (show k < s.data.toList.length from h)]
  exact List.getElem_mem _
theorem dig_dg (m : Nat) : ∀ c ∈ lastD (m / 1000 % 60) 2 ++ lastD (m % 1000) 3, isDg c := by
  intro c hc
  rcases List.mem_append.1 hc with g | g
  · exact last_dg _ _ c g
  · exact last_dg _ _ c g
theorem ttR_no {m : Nat} (h : m ≤ 1000000000) : ttR (m : Int) = ttB m := by
  have : inR (m : Int) 0 1000000000 = true := by unfold inR; simp; omega
  unfold ttR
  rw [if_pos this]; rfl
theorem ttR_yes {t : Int} {s : ByteArray} (h : s = ttR t) (hs : 1 ≤ s.size) : 0 ≤ t ∧ t ≤ 1000000000 ∧ s = ttB t.toNat := by
  cases hr : inR t 0 1000000000
  · exfalso
    have : ttR t = ⟨#[]⟩ := by unfold ttR; rw [hr, if_neg (by decide)]
    rw [h, this] at hs
    exact absurd hs (by decide)
  · obtain ⟨h0, h1⟩ := inR_true hr
    refine ⟨h0, h1, ?_⟩
    rw [h]; unfold ttR; rw [hr, if_pos rfl]
theorem index_byte_app (a b : List UInt8) (c : UInt8) (h : ∀ x ∈ a, x ≠ c) : Lib.indexByte (a ++ c :: b) c = a.length := by
  induction a with
  | nil => unfold Lib.indexByte; simp
  | cons x r ih =>
    have h1 := h x (by simp)
    have h2 := ih (fun y hy => h y (by simp [hy]))
    rw [List.cons_append]
    unfold Lib.indexByte
    rw [h2, if_neg (by simpa using h1), if_neg (by simp)]
    simp
/-- a cut of a time's text -/
theorem tt_cut {s : ByteArray} {m : Nat} (e : s = ttB m) : Lib.cut s.data.toList (⟨#[58]⟩ : ByteArray).data.toList = (Lib.decDigits (m / 60000), lastD (m / 1000 % 60) 2 ++ 46 :: lastD (m % 1000) 3, true) := by
  have hl := ttB_list m
  rw [← e] at hl
  rw [hl]
  show Lib.cut _ [58] = _
  unfold Lib.cut
  have hi : Lib.index (Lib.decDigits (m / 60000) ++ (58 :: (lastD (m / 1000 % 60) 2 ++ 46 :: lastD (m % 1000) 3))) [58] = (Lib.decDigits (m / 60000)).length := by
    rw [Lib.index_one]
    refine index_byte_app _ _ _ (fun x hx hc => ?_)
    have := (dec_all _).1 x hx
    subst hc
    exact absurd this.2 (by decide)
  rw [hi, if_pos (by omega)]
  refine Prod.ext ?_ (Prod.ext ?_ rfl)
  · simp
  · show List.drop _ _ = _
    rw [show ((Lib.decDigits (m / 60000)).length : Int).toNat + ([58] : List UInt8).length = (Lib.decDigits (m / 60000) ++ [58]).length by simp]
    rw [show Lib.decDigits (m / 60000) ++ 58 :: (lastD (m / 1000 % 60) 2 ++ 46 :: lastD (m % 1000) 3) = (Lib.decDigits (m / 60000) ++ [58]) ++ (lastD (m / 1000 % 60) 2 ++ 46 :: lastD (m % 1000) 3) by simp]
    rw [List.drop_left']
    rfl
end Go.Proofs.YtjgndfphbmkhaaaDoor
