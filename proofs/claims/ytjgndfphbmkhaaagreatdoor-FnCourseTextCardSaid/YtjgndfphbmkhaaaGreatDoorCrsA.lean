/-
  Names and marks. Conditions stand with each.
-/
import Derived.Test.YtjgndfphbmkhaaaGreatDoorCrsTrim
namespace Go.Proofs.YtjgndfphbmkhaaaGreatDoor
set_option linter.unusedVariables false
open Go.RowKit Go.Deep

def byteN (s : ByteArray) (k : Nat) : UInt8 := s.data.toList.getD k 0
theorem byte_at (s : ByteArray) (k : Nat) (h : k < s.size) : (s[k]'h) = byteN s k := by
  obtain ⟨⟨l⟩⟩ := s
  have h' : k < l.length := h
  show l[k] = l.getD k 0
  rw [List.getD_eq_getElem?_getD, List.getElem?_eq_getElem h']; rfl
theorem byte_first (s : ByteArray) : byteN s 0 = firstB s := by
  obtain ⟨⟨l⟩⟩ := s
  cases l <;> rfl
def inSet (b : UInt8) : Bool := letters.contains b
theorem inSet_iff (b : UInt8) : inSet b = true ↔ (97 ≤ b.toNat ∧ b.toNat ≤ 122) ∨ (48 ≤ b.toNat ∧ b.toNat ≤ 57) := by
  have h : ∀ n, n < 256 → (inSet (UInt8.ofNat n) = true ↔ (97 ≤ n ∧ n ≤ 122) ∨ (48 ≤ n ∧ n ≤ 57)) := by
    intro n hn
    have := List.all_eq_true.1 (show (List.range 256).all (fun n => inSet (UInt8.ofNat n) == decide ((97 ≤ n ∧ n ≤ 122) ∨ (48 ≤ n ∧ n ≤ 57))) = true by decide +kernel) n (List.mem_range.2 hn)
    rw [beq_iff_eq] at this
    rw [this, decide_eq_true_iff]
  have := h b.toNat b.toNat_lt
  rwa [UInt8.ofNat_toNat] at this
theorem name_all (s : ByteArray) : s.data.toList.all (letters.contains ·) = true ↔ ∀ k, k < s.size → inSet (byteN s k) = true := by
  obtain ⟨⟨l⟩⟩ := s
  rw [List.all_eq_true]
  constructor
  · intro h k hk
    have hk' : k < l.length := hk
    have e : byteN ⟨⟨l⟩⟩ k = l[k] := by show l.getD k 0 = _; rw [List.getD_eq_getElem?_getD, List.getElem?_eq_getElem hk']; rfl
    rw [e]
    exact h _ (List.getElem_mem hk')
  · intro h x hx
    obtain ⟨k, hk, rfl⟩ := List.getElem_of_mem hx
    have := h k hk
    have e : byteN ⟨⟨l⟩⟩ k = l[k] := by show l.getD k 0 = _; rw [List.getD_eq_getElem?_getD, List.getElem?_eq_getElem hk]; rfl
    rw [e] at this
    exact this
theorem nameOK_iff (s : ByteArray) : nameOK s = true ↔ 1 ≤ s.size ∧ s.size ≤ 8 ∧ 97 ≤ (byteN s 0).toNat ∧ ∀ k, k < s.size → inSet (byteN s k) = true := by
  unfold nameOK
  simp only [Bool.and_eq_true, decide_eq_true_eq, name_all, byte_first, and_assoc]
theorem nameOK_no {s : ByteArray} (h : ¬ (1 ≤ s.size ∧ s.size ≤ 8 ∧ 97 ≤ (byteN s 0).toNat ∧ ∀ k, k < s.size → inSet (byteN s k) = true)) : false = nameOK s := by
  rw [← nameOK_iff] at h
  simpa using h
set_option maxRecDepth 100000 in
theorem l04Name_c (s : ByteArray) (w : World) (hs : s.size ≤ 9223372036854775807) : Calls Tryz.prog 72 #[.string s] w fun e w' => e = .returned (.bool (nameOK s)) ∧ w = w' := by
  go_enter Tryz.func72, Tryz.ntmps72
  go_wp2_with fail
  all_goals try (go_ret; simp only [byte_at] at *; refine ⟨ret_bool (nameOK_no (fun h => ?_)), (by first | rfl | trivial)⟩; obtain ⟨g1, g2, g3, g4⟩ := h; have g5 := (inSet_iff _).1 (g4 0 (by omega)); omega)
  all_goals try (go_ret; refine ⟨ret_bool (nameOK_no (fun h => ?_)), (by first | rfl | trivial)⟩; obtain ⟨g1, g2, g3, g4⟩ := h; omega)
  go_loopw [3] (fun x wr => ∃ k : Nat, x = .int .i64 k ∧ k ≤ s.size ∧ Hid (∀ j, j < k → inSet (byteN s j) = true) ∧ w = wr) (fun x _ => s.size - (intOf x).toNat)
  case atStart => exact ⟨0, rfl, Nat.zero_le _, Lib.hid (fun j hj => by omega), rfl⟩
  case round =>
    obtain ⟨k, rfl, hk, hI, rfl⟩ := hrel
    by_cases h : k < s.size
    · have h' : (k : Int) < (s.size : Int) := by omega
      go_wp2_with fail
      all_goals first
        | (go_ret; simp only [byte_at] at *; refine ⟨ret_bool (nameOK_no (fun g => ?_)), (by first | rfl | trivial)⟩; obtain ⟨g1, g2, g3, g4⟩ := g; have g5 := (inSet_iff _).1 (g4 k h); omega)
        | (simp only [byte_at] at *; have hi : inSet (byteN s k) = true := (inSet_iff _).2 (by omega); exact ⟨⟨k + 1, by simp, by omega, Lib.hid (fun j hj => by rcases Nat.lt_or_eq_of_le (Nat.le_of_lt_succ hj) with e | rfl; exact hI.out j e; exact hi), (by first | rfl | trivial)⟩, by simp [intOf]; omega⟩)
    · have h' : ¬ (k : Int) < (s.size : Int) := by omega
      go_wp2_with fail
      go_ret
      simp only [byte_at] at *
      refine ⟨ret_bool ?_, (by first | rfl | trivial)⟩
      exact ((nameOK_iff s).2 ⟨by omega, by omega, by omega, fun j hj => hI.out j (by omega)⟩).symm
end Go.Proofs.YtjgndfphbmkhaaaGreatDoor
