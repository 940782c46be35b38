/-
  Reading a time: the reference's side. Condition: the text is short.
-/
import Derived.Test.YtjgndfphbmkhaaaDoorRd2
namespace Go.Proofs.YtjgndfphbmkhaaaDoor
set_option linter.unusedVariables false
open Go.RowKit Go.Deep

/-- what a reader of times answers: a time whose text this is, and every time's text is read -/
def RdP (s : ByteArray) (t : Int) (ok : Bool) : Prop := (ok = true → 0 ≤ t ∧ t ≤ 1000000000 ∧ s = ttB t.toNat) ∧ (ok = false → t = 0) ∧ ∀ m : Nat, m ≤ 1000000000 → s = ttB m → ok = true ∧ t = m
def RdE (s : ByteArray) (e : Ending) : Prop := ∃ (t : Int) (ok : Bool), RdP s t ok ∧ e = .returned (.tuple #[.int .i64 t, .bool ok])
theorem rdt_same {s : ByteArray} {t u : Int} {a b : Bool} (h : RdP s t a) (k : RdP s u b) : t = u ∧ a = b := by
  obtain ⟨h1, h2, h3⟩ := h
  obtain ⟨k1, k2, k3⟩ := k
  cases a
  · cases b
    · exact ⟨by rw [h2 rfl, k2 rfl], rfl⟩
    · obtain ⟨g0, g1, g2⟩ := k1 rfl
      have := (h3 u.toNat (by omega) g2).1
      cases this
  · obtain ⟨g0, g1, g2⟩ := h1 rfl
    obtain ⟨e1, e2⟩ := k3 t.toNat (by omega) g2
    exact ⟨by omega, e1.symm⟩
theorem rd_no {s : ByteArray} (h : ∀ m : Nat, m ≤ 1000000000 → s ≠ ttB m) : RdE s (.returned (.tuple #[.int .i64 0, .bool false])) := ⟨0, false, ⟨fun e => (by cases e), fun _ => rfl, fun m h1 h2 => absurd h2 (h m h1)⟩, rfl⟩
theorem rd_yes {s : ByteArray} {t : Int} (h0 : 0 ≤ t) (h1 : t ≤ 1000000000) (h : s = ttB t.toNat) : RdE s (.returned (.tuple #[.int .i64 t, .bool true])) := ⟨t, true, ⟨fun _ => ⟨h0, h1, h⟩, fun e => (by cases e), fun m _ h3 => ⟨rfl, by have := ttB_inj (h.symm.trans h3); omega⟩⟩, rfl⟩
theorem tt_size (m : Nat) : (ttB m).size = (Lib.decDigits (m / 60000)).length + 7 := by
  have := congrArg List.length (ttB_list m)
  rw [show (ttB m).data.toList.length = (ttB m).size from rfl] at this
  rw [this]
  simp [last_len]
theorem tt_size_bd {m : Nat} (h : m ≤ 1000000000) : 8 ≤ (ttB m).size ∧ (ttB m).size ≤ 12 := by
  rw [tt_size]
  have h1 := pow_bound 5 (m / 60000) (by omega) (by decide)
  have h2 := List.length_pos_iff.2 (dec_all (m / 60000)).2.2
  omega
end Go.Proofs.YtjgndfphbmkhaaaDoor
