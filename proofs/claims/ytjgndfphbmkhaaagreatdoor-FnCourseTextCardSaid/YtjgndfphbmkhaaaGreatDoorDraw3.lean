/-
  What the reference's functions draw: numbers. Conditions: the code's bytes lie in the world.
-/
import Derived.Test.YtjgndfphbmkhaaaGreatDoorDrawN
namespace Go.Proofs.YtjgndfphbmkhaaaGreatDoor
set_option linter.unusedVariables false
open Go.RowKit Go.Deep

theorem bytes_at {w W : World} {a : Option Addr} {n : Nat} (h : BytesB w.heap.size w a n) (hb : Below w.heap.size w W) : BytesB W.heap.size W a n := (h.below hb (Nat.le_refl _)).mono hb.size
theorem kept_fin {w w1 w' : World} {g : Nat} (hb : Below w.heap.size w w1) (hg : w.heap.size ≤ g) (hk : Kept g w1 w') : Below w.heap.size w w' := hb.trans (hk.below hg hb.size)
set_option maxHeartbeats 400000 in
theorem big_t (a : Option Addr) (n cap : Nat) (w : World) (hn : n ≤ 9223372036854775807) (h : (4096 : Int) < (n : Int)) : Calls Tryz.prog 10 #[.slice a n cap] w fun e w' => e = .returned (.bool true) ∧ w = w' := by
  go_enter Tryz.func10, Tryz.ntmps10
  go_wp2
  go_ret
  exact ⟨by first | rfl | simp [h], rfl⟩
set_option maxHeartbeats 400000 in
theorem big_f (a : Option Addr) (n cap : Nat) (w : World) (hn : n ≤ 9223372036854775807) (h : ¬ (4096 : Int) < (n : Int)) : Calls Tryz.prog 10 #[.slice a n cap] w fun e w' => e = .returned (.bool false) ∧ w = w' := by
  go_enter Tryz.func10, Tryz.ntmps10
  go_wp2
  go_ret
  exact ⟨by first | rfl | simp [h], rfl⟩
end Go.Proofs.YtjgndfphbmkhaaaGreatDoor
