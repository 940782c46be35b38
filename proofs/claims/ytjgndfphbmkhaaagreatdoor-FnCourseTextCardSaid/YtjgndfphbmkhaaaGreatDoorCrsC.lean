/-
  The mark with a name. Conditions stand with each.
-/
import Derived.Test.YtjgndfphbmkhaaaGreatDoorCrsB
namespace Go.Proofs.YtjgndfphbmkhaaaGreatDoor
set_option linter.unusedVariables false
open Go.RowKit Go.Deep

theorem str_beq (a b : ByteArray) : (a.toList == b.toList) = true ↔ a = b := by
  rw [← beq_toListBytes]
  obtain ⟨x⟩ := a
  obtain ⟨y⟩ := b
  constructor
  · intro h
    have e : x = y := by simpa using (show (x == y) = true from h)
    rw [e]
  · intro h
    cases h
    show (x == x) = true
    simp
/-- the index of the first mark with a name, or -1 -/
def IsIx (l : List Mk) (s : ByteArray) (r : Int) : Prop := (r = -1 ∧ ∀ j, j < l.length → (mk l j).name ≠ s) ∨ ∃ k : Nat, r = k ∧ k < l.length ∧ (mk l k).name = s ∧ ∀ j, j < k → (mk l j).name ≠ s
theorem IsIx.uniq {l : List Mk} {s : ByteArray} {r r' : Int} (h : IsIx l s r) (h' : IsIx l s r') : r = r' := by
  rcases h with ⟨rfl, h1⟩ | ⟨k, rfl, h1, h2, h3⟩ <;> rcases h' with ⟨rfl, g1⟩ | ⟨k', rfl, g1, g2, g3⟩
  · rfl
  · exact absurd g2 (h1 _ g1)
  · exact absurd h2 (g1 _ h1)
  · rcases Nat.lt_trichotomy k k' with e | e | e
    · exact absurd h2 (g3 _ e)
    · rw [e]
    · exact absurd g2 (h3 _ e)
theorem IsIx.bd {l : List Mk} {s : ByteArray} {r : Int} (h : IsIx l s r) : -1 ≤ r ∧ r ≤ l.length := by
  rcases h with ⟨rfl, h1⟩ | ⟨k, rfl, h1, h2, h3⟩ <;> omega
theorem mk_take {l : List Mk} {k j : Nat} (h : j < k) (hk : k ≤ l.length) : mk (l.take k) j = mk l j := by
  unfold mk
  rw [List.getD_eq_getElem?_getD, List.getD_eq_getElem?_getD, List.getElem?_take, if_pos h]
theorem row_take {w : World} {a : Option Addr} {l : List Mk} (h : RowAt w a (mflat l)) (k : Nat) : RowAt w a (mflat (l.take k)) := fun i v hv => by
  refine h i v ?_
  have hi := (List.getElem?_eq_some_iff.1 hv).1
  rw [← List.take_append_drop k l, mflat_append, List.getElem?_append_left hi]
  exact hv
set_option maxRecDepth 100000 in
theorem named1_c (m : Mk) (s : ByteArray) (B : Nat) (w : World) (hB : B < w.heap.size) (hc : w.cell? ⟨B, 0, none⟩ = some (.string s)) : Calls Tryz.prog 61 #[.agg #[.string m.name, .int .i64 m.x, .int .i64 m.y, .int .i64 m.s, .int .i64 m.z], .pointer (some ⟨B, 0, none⟩)] w fun e w' => e = .returned (.bool (m.name.toList == s.toList)) ∧ Below w.heap.size w w' := by
  obtain ⟨n, x, y, z, u⟩ := m
  have hn : B ≠ w.heap.size := by omega
  have hx := Nat.ne_of_lt hB
  go_enter Tryz.func61, Tryz.ntmps61
  go_wp2
  go_ret
  exact ⟨ret_bool (by first | rfl | (simp [*]; done)), (by repeat (first | with_reducible exact Below.refl _ _ | with_reducible assumption | with_reducible refine Below.drew ?_ | with_reducible refine Below.alloc ?_ (by first | exact Nat.le_refl _ | (simp; done) | (simp; omega) | omega) _ | with_reducible refine Below.setCell ?_ (by first | exact Nat.le_refl _ | (simp; done) | (simp; omega) | omega) _ | with_reducible refine Below.trans ?_ (Below.mono (by with_reducible assumption) (by first | exact Nat.le_refl _ | (simp; done) | (simp; omega) | omega))))⟩
set_option maxRecDepth 100000 in
set_option maxHeartbeats 4000000 in
theorem indexFunc_c (a : Option Addr) (cap : Nat) (l : List Mk) (s : ByteArray) (B : Nat) (w : World) (hl : l.length ≤ 9223372036854775807) (h : RowAt w a (mflat l)) (hB : B < w.heap.size) (hc : w.cell? ⟨B, 0, none⟩ = some (.string s)) :
    Calls Tryz.prog 60 #[.slice a l.length cap, .func (.func 61) #[] #[.pointer (some ⟨B, 0, none⟩)]] w fun e w' => (∃ r, e = .returned (.int .i64 r) ∧ IsIx l s r) ∧ Below w.heap.size w w' := by
  have H := Lib.hid (And.intro h hc)
  clear h hc
  go_enter Tryz.func60, Tryz.ntmps60
  go_wp2_with fail
  go_loopw [5, 8] (fun _ x wr => ∃ k : Nat, x = .int .i64 k ∧ k ≤ l.length ∧ Hid (∀ j, j < k → (mk l j).name ≠ s) ∧ Below w.heap.size w wr) (fun _ x _ => l.length - (intOf x).toNat)
  case atStart => exact ⟨0, rfl, Nat.zero_le _, Lib.hid (fun j hj => by omega), Below.refl _ _⟩
  case round =>
    obtain ⟨k, rfl, hk, hI, hbw⟩ := hrel
    by_cases hlt : k < l.length
    · have hltz : (k : Int) < (l.length : Int) := by omega
      obtain ⟨b, off, rfl, hb, c0, c1, c2, c3, c4⟩ := mark_cell (H.out.1.below hbw) hlt
      have hB' := Nat.lt_of_lt_of_le hB hbw.size
      have hcall := named1_c (mk l k) s B wr hB' ((hbw.cell (p := ⟨B, 0, none⟩) hB).trans H.out.2)
      have HE := Lib.hid (str_beq (mk l k).name s)
      generalize hm : mk l k = m at *
      obtain ⟨n0, x0, y0, z0, u0⟩ := m
      dsimp only at hcall HE c0 c1 c2 c3 c4
      have HM := Lib.hid hm
      have HBW := Lib.hid hbw
      clear hm hbw
      cases hq : (n0.toList == s.toList) with
      | true =>
        simp only [hq] at hcall
        go_wp2_with (go_at_call 61; refine hcall.mono ?_; rintro e w' ⟨rfl, hb'⟩)
        go_ret
        exact ⟨⟨k, rfl, .inr ⟨k, rfl, hlt, by rw [HM.out]; exact HE.out.1 hq, hI.out⟩⟩, HBW.out.trans (hb'.mono HBW.out.size)⟩
      | false =>
        simp only [hq] at hcall
        go_wp2_with (go_at_call 61; refine hcall.mono ?_; rintro e w' ⟨rfl, hb'⟩)
        exact ⟨⟨k + 1, by simp, by omega, Lib.hid (fun j hj => by rcases Nat.lt_or_eq_of_le (Nat.le_of_lt_succ hj) with e | rfl; exact hI.out j e; rw [HM.out]; intro e; have := HE.out.2 e; rw [hq] at this; cases this), HBW.out.trans (hb'.mono HBW.out.size)⟩, by simp [intOf]; omega⟩
    · have hltz : ¬ (k : Int) < (l.length : Int) := by omega
      go_wp2_with fail
      go_ret
      exact ⟨⟨_, rfl, .inl ⟨rfl, fun j hj => hI.out j (by omega)⟩⟩, hbw⟩
set_option maxRecDepth 100000 in
theorem markNamed_c (a : Option Addr) (cap : Nat) (l : List Mk) (s : ByteArray) (w : World) (hl : l.length ≤ 9223372036854775807) (h : RowAt w a (mflat l)) :
    Calls Tryz.prog 36 #[.slice a l.length cap, .string s] w fun e w' => (∃ r, e = .returned (.int .i64 r) ∧ IsIx l s r) ∧ Below w.heap.size w w' := by
  have H := Lib.hid h
  clear h
  obtain ⟨W, hW⟩ : ∃ W, W = w.alloc (.cells #[.string s] 9) := ⟨_, rfl⟩
  have HD : Below w.heap.size w W := by subst hW; exact (by repeat (first | with_reducible exact Below.refl _ _ | with_reducible assumption | with_reducible refine Below.drew ?_ | with_reducible refine Below.alloc ?_ (by first | exact Nat.le_refl _ | (simp; done) | (simp; omega) | omega) _ | with_reducible refine Below.setCell ?_ (by first | exact Nat.le_refl _ | (simp; done) | (simp; omega) | omega) _ | with_reducible refine Below.trans ?_ (Below.mono (by with_reducible assumption) (by first | exact Nat.le_refl _ | (simp; done) | (simp; omega) | omega))))
  have hc : W.cell? ⟨w.heap.size, 0, none⟩ = some (.string s) := by subst hW; simp [go_sem]
  have hB : w.heap.size < W.heap.size := by subst hW; simp
  go_enter Tryz.func36, Tryz.ntmps36
  go_wp2_with fail
  rw [← hW]
  clear hW
  refine (indexFunc_c a cap l s w.heap.size W hl (H.out.below HD) hB hc).mono ?_
  rintro e V ⟨⟨r, rfl, hr⟩, hb⟩
  go_wp2_with fail
  go_ret
  exact ⟨⟨r, rfl, hr⟩, HD.trans (hb.mono HD.size)⟩
set_option maxRecDepth 100000 in
set_option maxHeartbeats 4000000 in
theorem l04Named_c (x0 x1 x2 x3 x4 x5 x6 x7 : Int) (a : Option Addr) (cap : Nat) (l : List Mk) (s : ByteArray) (w : World) (hl : l.length ≤ 9223372036854775807) (h : RowAt w a (mflat l)) :
    Calls Tryz.prog 53 #[.agg #[.int .i64 x0, .int .i64 x1, .int .i64 x2, .int .i64 x3, .int .i64 x4, .int .i64 x5, .int .i64 x6, .int .i64 x7, .slice a l.length cap], .string s] w fun e w' => (∃ r, e = .returned (.int .i64 r) ∧ IsIx l s r) ∧ Below w.heap.size w w' := by
  obtain ⟨W, hW⟩ : ∃ W, W = w.alloc (.cells #[.int .i64 x0, .int .i64 x1, .int .i64 x2, .int .i64 x3, .int .i64 x4, .int .i64 x5, .int .i64 x6, .int .i64 x7, .slice a l.length cap] 28) := ⟨_, rfl⟩
  have HD : Below w.heap.size w W := by subst hW; exact (by repeat (first | with_reducible exact Below.refl _ _ | with_reducible assumption | with_reducible refine Below.drew ?_ | with_reducible refine Below.alloc ?_ (by first | exact Nat.le_refl _ | (simp; done) | (simp; omega) | omega) _ | with_reducible refine Below.setCell ?_ (by first | exact Nat.le_refl _ | (simp; done) | (simp; omega) | omega) _ | with_reducible refine Below.trans ?_ (Below.mono (by with_reducible assumption) (by first | exact Nat.le_refl _ | (simp; done) | (simp; omega) | omega))))
  have hc8 : W.cell? ⟨w.heap.size, 8, none⟩ = some (.slice a l.length cap) := by subst hW; simp [go_sem]
  have H := Lib.hid (h.below HD)
  clear h
  go_enter Tryz.func53, Tryz.ntmps53
  go_wp2_with fail
  rw [← hW]
  clear hW
  go_loopw [5] (fun x wr => ∃ k : Nat, x = .int .i64 k ∧ k ≤ l.length ∧ Hid (∀ j, j < k → (mk l j).name ≠ s) ∧ W = wr) (fun x _ => l.length - (intOf x).toNat)
  case atStart => exact ⟨0, rfl, Nat.zero_le _, Lib.hid (fun j hj => by omega), rfl⟩
  case round =>
    obtain ⟨k, rfl, hk, hI, rfl⟩ := hrel
    by_cases hlt : k < l.length
    · have hltz : (k : Int) < (l.length : Int) := by omega
      obtain ⟨b, off, rfl, hb, c0, c1, c2, c3, c4⟩ := mark_cell H.out hlt
      have HE := Lib.hid (str_beq (mk l k).name s)
      generalize hm : mk l k = m at *
      obtain ⟨n0, u0, u1, u2, u3⟩ := m
      dsimp only at HE c0 c1 c2 c3 c4
      have HM := Lib.hid hm
      clear hm
      cases hq : (n0.toList == s.toList) with
      | true =>
        go_wp2_with fail
        go_ret
        exact ⟨⟨k, rfl, .inr ⟨k, rfl, hlt, by rw [HM.out]; exact HE.out.1 hq, hI.out⟩⟩, HD⟩
      | false =>
        go_wp2_with fail
        exact ⟨⟨k + 1, by simp, by omega, Lib.hid (fun j hj => by rcases Nat.lt_or_eq_of_le (Nat.le_of_lt_succ hj) with e | rfl; exact hI.out j e; rw [HM.out]; intro e; have := HE.out.2 e; rw [hq] at this; cases this), (by first | rfl | trivial)⟩, by simp [intOf]; omega⟩
    · have hltz : ¬ (k : Int) < (l.length : Int) := by omega
      go_wp2_with fail
      go_ret
      exact ⟨⟨_, rfl, .inl ⟨rfl, fun j hj => hI.out j (by omega)⟩⟩, HD⟩
end Go.Proofs.YtjgndfphbmkhaaaGreatDoor
