/-
  General: what a row that is a call's own says, and what is left of it behind another's change. No condition; no program is named.
-/
import Derived.Test.YtdepdkpehbkcjaaMark
namespace Go.Proofs.Ytdepdkpehbkcjaa
set_option linter.unusedVariables false
open Go.RowKit Go.Deep

theorem own_of_blk {w : World} {g base : Nat} {T : TypeId} {l : List Fx} (h : FixBlk w g T l) (hb : base ≤ g) (hl : l.length ≤ 4611686018427387904) : w.ownsRow base T 3 (.slice (some ⟨g, 0, none⟩) l.length l.length) l.length (flat l) :=
  ⟨flat_length l, .inr ⟨g, l.length, (flat l).toArray, rfl, hb, h, Nat.le_refl _, by unfold maxLen; omega, by simp [flat_length], by rw [← flat_length]; simp⟩⟩
theorem fixAt_own {w : World} {a : Option Addr} {base cap : Nat} {T : TypeId} {l : List Fx} (h : w.ownsRow base T 3 (.slice a l.length cap) l.length (flat l)) : FixAt w a l := fun i f hf => by
  have hi : i < l.length := (List.getElem?_eq_some_iff.1 hf).1
  obtain ⟨g, rfl, hb, hlt⟩ := own_some h (by omega)
  obtain ⟨h0, h1, h2⟩ := flat_get l i f hf
  exact ⟨g, 0, rfl, hlt, by rw [Nat.zero_add, h.cellAt _ (by omega)]; exact h0, by rw [Nat.zero_add, h.cellAt _ (by omega)]; exact h1, by rw [Nat.zero_add, h.cellAt _ (by omega)]; exact h2⟩
theorem own_kept {w w' : World} {base size n : Nat} {e : TypeId} {v : Value} {xs : List Value} {row : Option Nat} (h : w.ownsRow base e size v n xs) (hg : w.grownBy w' row) (hne : ∀ k, v.ownBlock = some k → row ≠ some k) : w'.ownsRow base e size v n xs := by
  refine h.kept hg ?_
  cases hv : v.ownBlock with
  | none => exact .inl rfl
  | some k => exact .inr fun e => hne k hv e.symm
end Go.Proofs.Ytdepdkpehbkcjaa
