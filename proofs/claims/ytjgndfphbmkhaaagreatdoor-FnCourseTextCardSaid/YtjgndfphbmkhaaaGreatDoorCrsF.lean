/-
  Is it a course, both sides. Conditions: where its marks lie; how long their names are.
-/
import Derived.Test.YtjgndfphbmkhaaaGreatDoorCrsE
namespace Go.Proofs.YtjgndfphbmkhaaaGreatDoor
set_option linter.unusedVariables false
open Go.RowKit Go.Deep

theorem ix_ex (l : List Mk) (s : ByteArray) : ∃ r, IsIx l s r := by
  have key : ∀ n, n ≤ l.length → (∀ j, j < n → (mk l j).name ≠ s) ∨ ∃ k : Nat, k < n ∧ (mk l k).name = s ∧ ∀ j, j < k → (mk l j).name ≠ s := by
    intro n
    induction n with
    | zero => exact fun _ => .inl fun j hj => by omega
    | succ n ih =>
      intro hn
      rcases ih (by omega) with h | ⟨k, h1, h2, h3⟩
      · by_cases e : (mk l n).name = s
        · exact .inr ⟨n, by omega, e, h⟩
        · exact .inl fun j hj => by rcases Nat.lt_or_eq_of_le (Nat.le_of_lt_succ hj) with e' | rfl; exact h j e'; exact e
      · exact .inr ⟨k, by omega, h2, h3⟩
  rcases key l.length (Nat.le_refl _) with h | ⟨k, h1, h2, h3⟩
  · exact ⟨-1, .inl ⟨rfl, h⟩⟩
  · exact ⟨k, .inr ⟨k, rfl, h1, h2, h3⟩⟩
/-- the index of the first mark with a name, or -1 -/
noncomputable def nmIx (l : List Mk) (s : ByteArray) : Int := Classical.choose (ix_ex l s)
theorem nmIx_is (l : List Mk) (s : ByteArray) : IsIx l s (nmIx l s) := Classical.choose_spec (ix_ex l s)
theorem nmIx_eq {l : List Mk} {s : ByteArray} {r : Int} (h : IsIx l s r) : r = nmIx l s := h.uniq (nmIx_is l s)
theorem markNamedX (a : Option Addr) (cap n : Nat) (l : List Mk) (s : ByteArray) (w : World) (hn : l.length = n) (hl : n ≤ 9223372036854775807) (h : RowAt w a (mflat l)) :
    Calls Tryz.prog 36 #[.slice a n cap, .string s] w fun e w' => e = .returned (.int .i64 (nmIx l s)) ∧ Below w.heap.size w w' := by
  subst hn
  exact (markNamed_c a cap l s w hl h).mono fun e w' ⟨⟨r, he, hr⟩, hb⟩ => ⟨by rw [he, nmIx_eq hr], hb⟩
theorem l04NamedX (x0 x1 x2 x3 x4 x5 x6 x7 : Int) (a : Option Addr) (cap : Nat) (l : List Mk) (s : ByteArray) (w : World) (hl : l.length ≤ 9223372036854775807) (h : RowAt w a (mflat l)) :
    Calls Tryz.prog 53 #[.agg #[.int .i64 x0, .int .i64 x1, .int .i64 x2, .int .i64 x3, .int .i64 x4, .int .i64 x5, .int .i64 x6, .int .i64 x7, .slice a l.length cap], .string s] w fun e w' => e = .returned (.int .i64 (nmIx l s)) ∧ Below w.heap.size w w' :=
  (l04Named_c x0 x1 x2 x3 x4 x5 x6 x7 a cap l s w hl h).mono fun e w' ⟨⟨r, he, hr⟩, hb⟩ => ⟨by rw [he, nmIx_eq hr], hb⟩
/-- mark k is valid and has a name of its own so far -/
def MkOK (l : List Mk) (k : Nat) : Prop := markOK (mk l k) = true ∧ ∀ j, j < k → (mk l j).name ≠ (mk l k).name
def CourseP (x0 x1 x2 x3 x4 x5 x6 x7 : Int) (l : List Mk) : Prop :=
  isSeg x0 x1 x2 x3 = true ∧ isSeg x4 x5 x6 x7 = true ∧ 1 ≤ l.length ∧ l.length ≤ 8 ∧ (∀ k, k < l.length → MkOK l k) ∧ NoTwin (stn x0 x1 x2 x3 x4 x5 x6 x7 l)
/-- is it a course -/
noncomputable def courseOK (x0 x1 x2 x3 x4 x5 x6 x7 : Int) (l : List Mk) : Bool := @decide (CourseP x0 x1 x2 x3 x4 x5 x6 x7 l) (Classical.propDecidable _)
theorem courseOK_no {x0 x1 x2 x3 x4 x5 x6 x7 : Int} {l : List Mk} (h : ¬ CourseP x0 x1 x2 x3 x4 x5 x6 x7 l) : false = courseOK x0 x1 x2 x3 x4 x5 x6 x7 l := (@decide_eq_false _ (Classical.propDecidable _) h).symm
theorem courseOK_yes {x0 x1 x2 x3 x4 x5 x6 x7 : Int} {l : List Mk} (h : CourseP x0 x1 x2 x3 x4 x5 x6 x7 l) : true = courseOK x0 x1 x2 x3 x4 x5 x6 x7 l := (@decide_eq_true _ (Classical.propDecidable _) h).symm
theorem courseOK_true {x0 x1 x2 x3 x4 x5 x6 x7 : Int} {l : List Mk} (h : courseOK x0 x1 x2 x3 x4 x5 x6 x7 l = true) : CourseP x0 x1 x2 x3 x4 x5 x6 x7 l := @of_decide_eq_true _ (Classical.propDecidable _) h
theorem nm_own {l : List Mk} {k : Nat} (hk : k < l.length) (h : ∀ j, j < k → (mk l j).name ≠ (mk l k).name) : nmIx l (mk l k).name = (k : Int) ∧ nmIx (l.take k) (mk l k).name = -1 := by
  refine ⟨(nmIx_eq (.inr ⟨k, rfl, hk, rfl, h⟩)).symm, (nmIx_eq (.inl ⟨rfl, fun j hj => ?_⟩)).symm⟩
  rw [List.length_take] at hj
  rw [mk_take (by omega) (Nat.le_of_lt hk)]
  exact h j (by omega)
theorem nm_two {l : List Mk} {k : Nat} (hk : k < l.length) (h : ¬ ∀ j, j < k → (mk l j).name ≠ (mk l k).name) : nmIx l (mk l k).name ≠ (k : Int) ∧ 0 ≤ nmIx (l.take k) (mk l k).name := by
  constructor
  · intro e
    rcases nmIx_is l (mk l k).name with ⟨e', _⟩ | ⟨k', e', _, _, h3⟩
    · omega
    · have : k' = k := by omega
      subst this
      exact h h3
  · rcases nmIx_is (l.take k) (mk l k).name with ⟨_, h3⟩ | ⟨k', e', _, _, _⟩
    · exfalso
      refine h fun j hj => ?_
      have := h3 j (by rw [List.length_take]; omega)
      rwa [mk_take hj (Nat.le_of_lt hk)] at this
    · omega
theorem held_mark {g : Nat} {V wx w1 : World} {c : Addr} {v : Value} (h : Kept g V wx ∧ wx.cell? c = some v) (hk : Kept g wx w1) (hs : c.spot = none) (hlt : c.block < V.heap.size) (hne : c.block ≠ g) : Kept g V w1 ∧ w1.cell? c = some v := by
  obtain ⟨b, o, s⟩ := c
  obtain rfl : s = none := hs
  exact ⟨h.1.trans hk, ((kcell hk).1 b o (Nat.lt_of_lt_of_le hlt h.1.size) hne).trans h.2⟩
theorem own_capP {w : World} {base r n cap : Nat} {e : TypeId} {l : List Value} (h : w.ownsRow base e 2 (.slice (some ⟨r, 0, none⟩) n cap) n l) : n ≤ cap := by
  rcases h.2 with ⟨h', _⟩ | ⟨g', cap', cur, h', hb, hh, hc, hm, hs, ht⟩
  · simp at h'
  · simp at h'; omega
theorem held_fin {g : Nat} {w Y wx : World} {c : Addr} {v : Value} (h : Below w.heap.size w Y) (hg : w.heap.size ≤ g) (hk : Kept g Y wx ∧ wx.cell? c = some v) : Below w.heap.size w wx := h.trans (hk.1.below hg h.size)
theorem crs_end {x0 x1 x2 x3 x4 x5 x6 x7 : Int} {l : List Mk} {m : Nat} (hk8 : l.length ≤ 8) (hm : m = l.length + 2 ↔ NoTwin (stn x0 x1 x2 x3 x4 x5 x6 x7 l)) (hc : NoTwin (stn x0 x1 x2 x3 x4 x5 x6 x7 l) → CourseP x0 x1 x2 x3 x4 x5 x6 x7 l) : ((m : Int) == IntKind.i64.wrap ((l.length : Int) + 2)) = courseOK x0 x1 x2 x3 x4 x5 x6 x7 l := by
  have hw : IntKind.i64.wrap ((l.length : Int) + 2) = l.length + 2 := by rw [IntKind.wrap_i64]; omega
  rw [hw]
  by_cases h : NoTwin (stn x0 x1 x2 x3 x4 x5 x6 x7 l)
  · rw [← courseOK_yes (hc h)]
    have := hm.2 h
    simp
    omega
  · rw [← courseOK_no (fun c => h c.2.2.2.2.2)]
    have : m ≠ l.length + 2 := fun e => h (hm.1 e)
    simp
    omega
set_option maxRecDepth 100000 in
set_option maxHeartbeats 4000000 in
theorem IsCourse_c (x0 x1 x2 x3 x4 x5 x6 x7 : Int) (a : Option Addr) (cap : Nat) (l : List Mk) (w : World) (hl : l.length ≤ 4611686018427387904) (h : RowAt w a (mflat l)) (hs : ∀ i, i < l.length → (mk l i).name.size ≤ maxLen) (hcap : l.length ≤ cap) :
    Calls Tryz.prog 14 #[.agg #[.int .i64 x0, .int .i64 x1, .int .i64 x2, .int .i64 x3, .int .i64 x4, .int .i64 x5, .int .i64 x6, .int .i64 x7, .slice a l.length cap]] w fun e w' => e = .returned (.bool (courseOK x0 x1 x2 x3 x4 x5 x6 x7 l)) ∧ Below w.heap.size w w' := by
  obtain ⟨W, hW⟩ : ∃ W, W = w.alloc (.cells #[.int .i64 x0, .int .i64 x1, .int .i64 x2, .int .i64 x3, .int .i64 x4, .int .i64 x5, .int .i64 x6, .int .i64 x7, .slice a l.length cap] 28) := ⟨_, rfl⟩
  have HD : Below w.heap.size w W := by subst hW; exact (by repeat (first | with_reducible exact Below.refl _ _ | with_reducible assumption | with_reducible refine Below.drew ?_ | with_reducible refine Below.alloc ?_ (by first | exact Nat.le_refl _ | (simp; done) | (simp; omega) | omega) _ | with_reducible refine Below.setCell ?_ (by first | exact Nat.le_refl _ | (simp; done) | (simp; omega) | omega) _ | with_reducible refine Below.trans ?_ (Below.mono (by with_reducible assumption) (by first | exact Nat.le_refl _ | (simp; done) | (simp; omega) | omega))))
  have b0 : W.cell? ⟨w.heap.size, 0, none⟩ = some (.int .i64 x0) := by subst hW; simp [go_sem]
  have b1 : W.cell? ⟨w.heap.size, 1, none⟩ = some (.int .i64 x1) := by subst hW; simp [go_sem]
  have b2 : W.cell? ⟨w.heap.size, 2, none⟩ = some (.int .i64 x2) := by subst hW; simp [go_sem]
  have b3 : W.cell? ⟨w.heap.size, 3, none⟩ = some (.int .i64 x3) := by subst hW; simp [go_sem]
  have b4 : W.cell? ⟨w.heap.size, 4, none⟩ = some (.int .i64 x4) := by subst hW; simp [go_sem]
  have b5 : W.cell? ⟨w.heap.size, 5, none⟩ = some (.int .i64 x5) := by subst hW; simp [go_sem]
  have b6 : W.cell? ⟨w.heap.size, 6, none⟩ = some (.int .i64 x6) := by subst hW; simp [go_sem]
  have b7 : W.cell? ⟨w.heap.size, 7, none⟩ = some (.int .i64 x7) := by subst hW; simp [go_sem]
  have b8 : W.cell? ⟨w.heap.size, 8, none⟩ = some (.slice a l.length cap) := by subst hW; simp [go_sem]
  have LW : w.heap.size < W.heap.size := by subst hW; simp
  have H := Lib.hid h
  have HS := Lib.hid hs
  clear h hs
  go_enter Tryz.func14, Tryz.ntmps14
  go_wp2_with fail
  rw [← hW]
  clear hW
  refine (isLine_c x0 x1 x2 x3 W).mono ?_
  rintro e V1 ⟨rfl, hb⟩
  replace b0 := (hb.cell (p := ⟨w.heap.size, 0, none⟩) LW).trans b0
  replace b1 := (hb.cell (p := ⟨w.heap.size, 1, none⟩) LW).trans b1
  replace b2 := (hb.cell (p := ⟨w.heap.size, 2, none⟩) LW).trans b2
  replace b3 := (hb.cell (p := ⟨w.heap.size, 3, none⟩) LW).trans b3
  replace b4 := (hb.cell (p := ⟨w.heap.size, 4, none⟩) LW).trans b4
  replace b5 := (hb.cell (p := ⟨w.heap.size, 5, none⟩) LW).trans b5
  replace b6 := (hb.cell (p := ⟨w.heap.size, 6, none⟩) LW).trans b6
  replace b7 := (hb.cell (p := ⟨w.heap.size, 7, none⟩) LW).trans b7
  replace b8 := (hb.cell (p := ⟨w.heap.size, 8, none⟩) LW).trans b8
  replace HD := HD.trans (hb.mono HD.size)
  replace LW := Nat.lt_of_lt_of_le LW hb.size
  clear hb
  cases e1 : isSeg x0 x1 x2 x3
  case false =>
    go_wp2_with fail
    go_ret
    exact ⟨ret_bool (courseOK_no fun hc => by obtain ⟨g1, g2, g3, g4, g5, g6⟩ := hc; first | omega | exact absurd (g1.symm.trans e1) (by decide) | exact absurd (g2.symm.trans e2) (by decide)), HD⟩
  case true =>
    go_wp2_with fail
    refine (isLine_c x4 x5 x6 x7 V1).mono ?_
    rintro e V2 ⟨rfl, hb⟩
    replace b0 := (hb.cell (p := ⟨w.heap.size, 0, none⟩) LW).trans b0
    replace b1 := (hb.cell (p := ⟨w.heap.size, 1, none⟩) LW).trans b1
    replace b2 := (hb.cell (p := ⟨w.heap.size, 2, none⟩) LW).trans b2
    replace b3 := (hb.cell (p := ⟨w.heap.size, 3, none⟩) LW).trans b3
    replace b4 := (hb.cell (p := ⟨w.heap.size, 4, none⟩) LW).trans b4
    replace b5 := (hb.cell (p := ⟨w.heap.size, 5, none⟩) LW).trans b5
    replace b6 := (hb.cell (p := ⟨w.heap.size, 6, none⟩) LW).trans b6
    replace b7 := (hb.cell (p := ⟨w.heap.size, 7, none⟩) LW).trans b7
    replace b8 := (hb.cell (p := ⟨w.heap.size, 8, none⟩) LW).trans b8
    replace HD := HD.trans (hb.mono HD.size)
    replace LW := Nat.lt_of_lt_of_le LW hb.size
    clear hb
    cases e2 : isSeg x4 x5 x6 x7
    case false =>
      go_wp2_with fail
      go_ret
      exact ⟨ret_bool (courseOK_no fun hc => by obtain ⟨g1, g2, g3, g4, g5, g6⟩ := hc; first | omega | exact absurd (g1.symm.trans e1) (by decide) | exact absurd (g2.symm.trans e2) (by decide)), HD⟩
    case true =>
      by_cases hl1 : l.length < 1
      · have hl1' : (l.length : Int) < 1 := by omega
        go_wp2_with fail
        go_ret
        exact ⟨ret_bool (courseOK_no fun hc => by obtain ⟨g1, g2, g3, g4, g5, g6⟩ := hc; first | omega | exact absurd (g1.symm.trans e1) (by decide) | exact absurd (g2.symm.trans e2) (by decide)), HD⟩
      have hl1' : ¬ (l.length : Int) < 1 := by omega
      by_cases hl8 : 8 < l.length
      · have hl8' : (8 : Int) < (l.length : Int) := by omega
        go_wp2_with fail
        go_ret
        exact ⟨ret_bool (courseOK_no fun hc => by obtain ⟨g1, g2, g3, g4, g5, g6⟩ := hc; first | omega | exact absurd (g1.symm.trans e1) (by decide) | exact absurd (g2.symm.trans e2) (by decide)), HD⟩
      have hl8' : ¬ (8 : Int) < (l.length : Int) := by omega
      go_wp2_with fail
      have HR := Lib.hid (H.out.below HD)
      clear H
      have BV2 := HD
      go_loopw [31] (fun x wr => ∃ k : Nat, x = .int .i64 k ∧ k ≤ l.length ∧ Hid (∀ i, i < k → MkOK l i) ∧ Below V2.heap.size V2 wr) (fun x _ => l.length - (intOf x).toNat)
      case atStart => exact ⟨0, rfl, Nat.zero_le _, Lib.hid (fun i hi => by omega), Below.refl _ _⟩
      case round =>
        obtain ⟨k, rfl, hk, hI, hbl⟩ := hrel
        have c0 := (hbl.cell (p := ⟨w.heap.size, 0, none⟩) LW).trans b0
        have c1 := (hbl.cell (p := ⟨w.heap.size, 1, none⟩) LW).trans b1
        have c2 := (hbl.cell (p := ⟨w.heap.size, 2, none⟩) LW).trans b2
        have c3 := (hbl.cell (p := ⟨w.heap.size, 3, none⟩) LW).trans b3
        have c4 := (hbl.cell (p := ⟨w.heap.size, 4, none⟩) LW).trans b4
        have c5 := (hbl.cell (p := ⟨w.heap.size, 5, none⟩) LW).trans b5
        have c6 := (hbl.cell (p := ⟨w.heap.size, 6, none⟩) LW).trans b6
        have c7 := (hbl.cell (p := ⟨w.heap.size, 7, none⟩) LW).trans b7
        have c8 := (hbl.cell (p := ⟨w.heap.size, 8, none⟩) LW).trans b8
        have hz := hbl.size
        have hlw : w.heap.size < wr.heap.size := by omega
        have HX : Below w.heap.size w wr := HD.trans (hbl.mono HD.size)
        clear b0 b1 b2 b3 b4 b5 b6 b7 b8
        by_cases h : k < l.length
        · have h' : (k : Int) < (l.length : Int) := by omega
          have hR1 := HR.out.below hbl
          have HT := Lib.hid (row_take hR1 k)
          obtain ⟨b, off, rfl, hlt, d0, d1, d2, d3, d4⟩ := mark_cell hR1 h
          have hsz := HS.out k h
          have HM := Lib.hid (show MkOK l k ↔ (markOK (mk l k) = true ∧ ∀ j, j < k → (mk l j).name ≠ (mk l k).name) from Iff.rfl)
          have HY := Lib.hid (nm_own h)
          have HN := Lib.hid (nm_two h)
          have hm9 : maxLen ≤ 9223372036854775807 := by decide
          have hbl2 := Lib.hid hbl
          clear hbl hR1
          generalize hmm : mk l k = m at *
          have hm := Lib.hid hmm
          clear hmm
          obtain ⟨n0, u0, u1, u2, u3⟩ := m
          dsimp only at d0 d1 d2 d3 d4 hsz HY HN HM
          have hszL := Nat.le_trans hsz hm9
          clear hsz hm9
          cases e3 : markOK ⟨n0, u0, u1, u2, u3⟩
          case false =>
            go_upto_region 6 with fail
            obtain ⟨X, hX⟩ : ∃ X, X = wr.alloc (.cells #[.string n0, .int .i64 u0, .int .i64 u1, .int .i64 u2, .int .i64 u3] 47) := ⟨_, rfl⟩
            have HXw : Below wr.heap.size wr X := by subst hX; exact (by repeat (first | with_reducible exact Below.refl _ _ | with_reducible assumption | with_reducible refine Below.drew ?_ | with_reducible refine Below.alloc ?_ (by first | exact Nat.le_refl _ | (simp; done) | (simp; omega) | omega) _ | with_reducible refine Below.setCell ?_ (by first | exact Nat.le_refl _ | (simp; done) | (simp; omega) | omega) _ | with_reducible refine Below.trans ?_ (Below.mono (by with_reducible assumption) (by first | exact Nat.le_refl _ | (simp; done) | (simp; omega) | omega))))
            have m0 : X.cell? ⟨wr.heap.size, 0, none⟩ = some (.string n0) := by subst hX; simp [go_sem]
            have m1 : X.cell? ⟨wr.heap.size, 1, none⟩ = some (.int .i64 u0) := by subst hX; simp [go_sem]
            have m2 : X.cell? ⟨wr.heap.size, 2, none⟩ = some (.int .i64 u1) := by subst hX; simp [go_sem]
            have m3 : X.cell? ⟨wr.heap.size, 3, none⟩ = some (.int .i64 u2) := by subst hX; simp [go_sem]
            have m4 : X.cell? ⟨wr.heap.size, 4, none⟩ = some (.int .i64 u3) := by subst hX; simp [go_sem]
            have f8 := (HXw.cell (p := ⟨w.heap.size, 8, none⟩) hlw).trans c8
            have hl2 : wr.heap.size < X.heap.size := by subst hX; simp
            have hl3 : w.heap.size < X.heap.size := by omega
            rw [← hX]
            clear hX c0 c1 c2 c3 c4 c5 c6 c7 c8 d0 d1 d2 d3 d4
            have HXh := Lib.hid (HX.trans (HXw.mono HX.size))
            have HXwh := Lib.hid HXw
            have HDh := Lib.hid HD
            clear HX HXw HD BV2
            refine wp_region_later (by kernel_rfl) (by kernel_rfl) ?_
            repeat (first | go_big_quiet_step ((first | (go_at_call 35; exact later_of _ (isMark_c ⟨n0, u0, u1, u2, u3⟩ _ hszL)) | (go_at_call 36; exact later_of _ (markNamedX _ _ k (l.take k) n0 _ (by rw [List.length_take]; omega) (by omega) ((HT.out.below HXwh.out).below (Later.below _)))))) | quiet_step ((first | (go_at_call 35; exact later_of _ (isMark_c ⟨n0, u0, u1, u2, u3⟩ _ hszL)) | (go_at_call 36; exact later_of _ (markNamedX _ _ k (l.take k) n0 _ (by rw [List.length_take]; omega) (by omega) ((HT.out.below HXwh.out).below (Later.below _)))))))
            refine wpQuiet_nil ?_
            intro _ hw'
            obtain ⟨sk6, hw''⟩ := hw'
            subst hw''
            have hbk6 := sk6.below
            generalize sk6.w = wk6 at hbk6 ⊢
            clear sk6
            try replace hbk6 := below_trans (by with_reducible assumption) hbk6
            obtain ⟨hck6, hfk6⟩ := bcell hbk6
            have hzk6 := hbk6.size
            try simp at hzk6
            try have hzk60 : w.heap.size ≤ wk6.heap.size := by omega
            try have hzk61 : w.heap.size < wk6.heap.size := by omega
            try have hzk62 : w.heap.size + 1 < wk6.heap.size := by omega
            try have hzk63 : w.heap.size + 1 + 1 < wk6.heap.size := by omega
            try have hzk64 : w.heap.size + 1 + 1 + 1 < wk6.heap.size := by omega
            go_wp2_with fail
            go_ret
            exact ⟨ret_bool (courseOK_no fun hc => by have := (hc.2.2.2.2.1 k h).1; rw [hm.out, e3] at this; cases this), HXh.out.trans (hbk6.mono HXh.out.size)⟩
          case true =>
            by_cases hu : ∀ j, j < k → (mk l j).name ≠ n0
            case neg =>
              obtain ⟨hu1, hu2⟩ := HN.out hu
              have HU := Lib.hid hu
              clear hu hu1
              go_upto_region 6 with fail
              obtain ⟨X, hX⟩ : ∃ X, X = wr.alloc (.cells #[.string n0, .int .i64 u0, .int .i64 u1, .int .i64 u2, .int .i64 u3] 47) := ⟨_, rfl⟩
              have HXw : Below wr.heap.size wr X := by subst hX; exact (by repeat (first | with_reducible exact Below.refl _ _ | with_reducible assumption | with_reducible refine Below.drew ?_ | with_reducible refine Below.alloc ?_ (by first | exact Nat.le_refl _ | (simp; done) | (simp; omega) | omega) _ | with_reducible refine Below.setCell ?_ (by first | exact Nat.le_refl _ | (simp; done) | (simp; omega) | omega) _ | with_reducible refine Below.trans ?_ (Below.mono (by with_reducible assumption) (by first | exact Nat.le_refl _ | (simp; done) | (simp; omega) | omega))))
              have m0 : X.cell? ⟨wr.heap.size, 0, none⟩ = some (.string n0) := by subst hX; simp [go_sem]
              have m1 : X.cell? ⟨wr.heap.size, 1, none⟩ = some (.int .i64 u0) := by subst hX; simp [go_sem]
              have m2 : X.cell? ⟨wr.heap.size, 2, none⟩ = some (.int .i64 u1) := by subst hX; simp [go_sem]
              have m3 : X.cell? ⟨wr.heap.size, 3, none⟩ = some (.int .i64 u2) := by subst hX; simp [go_sem]
              have m4 : X.cell? ⟨wr.heap.size, 4, none⟩ = some (.int .i64 u3) := by subst hX; simp [go_sem]
              have f8 := (HXw.cell (p := ⟨w.heap.size, 8, none⟩) hlw).trans c8
              have hl2 : wr.heap.size < X.heap.size := by subst hX; simp
              have hl3 : w.heap.size < X.heap.size := by omega
              rw [← hX]
              clear hX c0 c1 c2 c3 c4 c5 c6 c7 c8 d0 d1 d2 d3 d4
              have HXh := Lib.hid (HX.trans (HXw.mono HX.size))
              have HXwh := Lib.hid HXw
              have HDh := Lib.hid HD
              clear HX HXw HD BV2
              refine wp_region_later (by kernel_rfl) (by kernel_rfl) ?_
              repeat (first | go_big_quiet_step ((first | (go_at_call 35; exact later_of _ (isMark_c ⟨n0, u0, u1, u2, u3⟩ _ hszL)) | (go_at_call 36; exact later_of _ (markNamedX _ _ k (l.take k) n0 _ (by rw [List.length_take]; omega) (by omega) ((HT.out.below HXwh.out).below (Later.below _)))))) | quiet_step ((first | (go_at_call 35; exact later_of _ (isMark_c ⟨n0, u0, u1, u2, u3⟩ _ hszL)) | (go_at_call 36; exact later_of _ (markNamedX _ _ k (l.take k) n0 _ (by rw [List.length_take]; omega) (by omega) ((HT.out.below HXwh.out).below (Later.below _)))))))
              refine wpQuiet_nil ?_
              intro _ hw'
              obtain ⟨sk6, hw''⟩ := hw'
              subst hw''
              have hbk6 := sk6.below
              generalize sk6.w = wk6 at hbk6 ⊢
              clear sk6
              try replace hbk6 := below_trans (by with_reducible assumption) hbk6
              obtain ⟨hck6, hfk6⟩ := bcell hbk6
              have hzk6 := hbk6.size
              try simp at hzk6
              try have hzk60 : w.heap.size ≤ wk6.heap.size := by omega
              try have hzk61 : w.heap.size < wk6.heap.size := by omega
              try have hzk62 : w.heap.size + 1 < wk6.heap.size := by omega
              try have hzk63 : w.heap.size + 1 + 1 < wk6.heap.size := by omega
              try have hzk64 : w.heap.size + 1 + 1 + 1 < wk6.heap.size := by omega
              go_wp2_with fail
              go_ret
              exact ⟨ret_bool (courseOK_no fun hc => HU.out (by have := (hc.2.2.2.2.1 k h).2; rw [hm.out] at this; exact this)), HXh.out.trans (hbk6.mono HXh.out.size)⟩
            case pos =>
              obtain ⟨hu1, hu2⟩ := HY.out hu
              have HU := Lib.hid hu
              clear hu hu1
              go_upto_region 6 with fail
              obtain ⟨X, hX⟩ : ∃ X, X = wr.alloc (.cells #[.string n0, .int .i64 u0, .int .i64 u1, .int .i64 u2, .int .i64 u3] 47) := ⟨_, rfl⟩
              have HXw : Below wr.heap.size wr X := by subst hX; exact (by repeat (first | with_reducible exact Below.refl _ _ | with_reducible assumption | with_reducible refine Below.drew ?_ | with_reducible refine Below.alloc ?_ (by first | exact Nat.le_refl _ | (simp; done) | (simp; omega) | omega) _ | with_reducible refine Below.setCell ?_ (by first | exact Nat.le_refl _ | (simp; done) | (simp; omega) | omega) _ | with_reducible refine Below.trans ?_ (Below.mono (by with_reducible assumption) (by first | exact Nat.le_refl _ | (simp; done) | (simp; omega) | omega))))
              have m0 : X.cell? ⟨wr.heap.size, 0, none⟩ = some (.string n0) := by subst hX; simp [go_sem]
              have m1 : X.cell? ⟨wr.heap.size, 1, none⟩ = some (.int .i64 u0) := by subst hX; simp [go_sem]
              have m2 : X.cell? ⟨wr.heap.size, 2, none⟩ = some (.int .i64 u1) := by subst hX; simp [go_sem]
              have m3 : X.cell? ⟨wr.heap.size, 3, none⟩ = some (.int .i64 u2) := by subst hX; simp [go_sem]
              have m4 : X.cell? ⟨wr.heap.size, 4, none⟩ = some (.int .i64 u3) := by subst hX; simp [go_sem]
              have f8 := (HXw.cell (p := ⟨w.heap.size, 8, none⟩) hlw).trans c8
              have hl2 : wr.heap.size < X.heap.size := by subst hX; simp
              have hl3 : w.heap.size < X.heap.size := by omega
              rw [← hX]
              clear hX c0 c1 c2 c3 c4 c5 c6 c7 c8 d0 d1 d2 d3 d4
              have HXh := Lib.hid (HX.trans (HXw.mono HX.size))
              have HXwh := Lib.hid HXw
              have HDh := Lib.hid HD
              clear HX HXw HD BV2
              refine wp_region_later (by kernel_rfl) (by kernel_rfl) ?_
              repeat (first | go_big_quiet_step ((first | (go_at_call 35; exact later_of _ (isMark_c ⟨n0, u0, u1, u2, u3⟩ _ hszL)) | (go_at_call 36; exact later_of _ (markNamedX _ _ k (l.take k) n0 _ (by rw [List.length_take]; omega) (by omega) ((HT.out.below HXwh.out).below (Later.below _)))))) | quiet_step ((first | (go_at_call 35; exact later_of _ (isMark_c ⟨n0, u0, u1, u2, u3⟩ _ hszL)) | (go_at_call 36; exact later_of _ (markNamedX _ _ k (l.take k) n0 _ (by rw [List.length_take]; omega) (by omega) ((HT.out.below HXwh.out).below (Later.below _)))))))
              refine wpQuiet_nil ?_
              intro _ hw'
              obtain ⟨sk6, hw''⟩ := hw'
              subst hw''
              have hbk6 := sk6.below
              generalize sk6.w = wk6 at hbk6 ⊢
              clear sk6
              try replace hbk6 := below_trans (by with_reducible assumption) hbk6
              obtain ⟨hck6, hfk6⟩ := bcell hbk6
              have hzk6 := hbk6.size
              try simp at hzk6
              try have hzk60 : w.heap.size ≤ wk6.heap.size := by omega
              try have hzk61 : w.heap.size < wk6.heap.size := by omega
              try have hzk62 : w.heap.size + 1 < wk6.heap.size := by omega
              try have hzk63 : w.heap.size + 1 + 1 < wk6.heap.size := by omega
              try have hzk64 : w.heap.size + 1 + 1 + 1 < wk6.heap.size := by omega
              go_wp2_with fail
              exact ⟨⟨k + 1, by simp, by omega, Lib.hid (fun i hi => by rcases Nat.lt_or_eq_of_le (Nat.le_of_lt_succ hi) with e | rfl; exact hI.out i e; exact ⟨by rw [hm.out]; exact e3, by rw [hm.out]; exact HU.out⟩), hbl2.out.trans ((HXwh.out.trans (hbk6.mono HXwh.out.size)).mono hz)⟩, by simp [intOf]; omega⟩
        · have h' : ¬ (k : Int) < (l.length : Int) := by omega
          have hI2 := Lib.hid (fun i (hi : i < l.length) => hI.out i (by omega))
          clear hI
          have hk8 : l.length ≤ 8 := by omega
          obtain ⟨s1, s2, _⟩ := isSeg_true e1
          obtain ⟨s3, s4, _⟩ := isSeg_true e2
          go_wp2_with fail
          refine (stationsOf_c x0 x1 x2 x3 x4 x5 x6 x7 a cap l wr hk8 (HR.out.below hbl) s1 s2 s3 s4).mono ?_
          rintro e Y ⟨⟨g, cp, rfl, ho⟩, hb⟩
          replace c8 := (hb.cell (p := ⟨w.heap.size, 8, none⟩) hlw).trans c8
          replace HX := HX.trans (hb.mono HX.size)
          have hgr : wr.heap.size ≤ g ∧ g < Y.heap.size := ho.lt g rfl
          have hY := hb.size
          have hly : w.heap.size < Y.heap.size := by omega
          have hng : w.heap.size ≠ g := by omega
          clear hb c0 c1 c2 c3 c4 c5 c6 c7 s1 s2 s3 s4 hbl
          have HC := Lib.hid (fun (ht : NoTwin (stn x0 x1 x2 x3 x4 x5 x6 x7 l)) => (show CourseP x0 x1 x2 x3 x4 x5 x6 x7 l from ⟨e1, e2, by omega, hk8, hI2.out, ht⟩))
          have hsl := stn_len x0 x1 x2 x3 x4 x5 x6 x7 l
          go_upto_region 10 with fail
          have hcp : l.length + 2 ≤ cp := own_capP ho
          go_region_held3 (fun wx => Kept g Y wx ∧ wx.cell? ⟨w.heap.size, 8, none⟩ = some (.slice a l.length cap))
            (first | with_reducible assumption | exact ⟨(Kept.refl _ _).drew, c8⟩ | with_reducible exact held_mark (by with_reducible assumption) hkc rfl hly hng)
            (first | (go_at_call 38; refine (compact_c g (l.length + 2) cp wr.heap.size (stn x0 x1 x2 x3 x4 x5 x6 x7 l) _ hsl (by omega) hcp (by repeat (first | with_reducible exact ho | with_reducible refine World.ownsRow.drew ?_))).mono ?_; rintro e w1 ⟨⟨m, rfl, hm1, hm2⟩, hkc⟩))
          all_goals go_wp2_with fail
          all_goals go_ret
          all_goals exact ⟨ret_bool (crs_end hk8 hm2 HC.out), held_fin (g := g) (c := ⟨w.heap.size, 8, none⟩) (v := .slice a l.length cap) HX (by omega) (by with_reducible assumption)⟩
set_option maxRecDepth 100000 in
set_option maxHeartbeats 4000000 in
theorem IsCourseS_c (x0 x1 x2 x3 x4 x5 x6 x7 : Int) (a : Option Addr) (cap : Nat) (l : List Mk) (w : World) (hl : l.length ≤ 4611686018427387904) (h : RowAt w a (mflat l)) (hs : ∀ i, i < l.length → (mk l i).name.size ≤ maxLen) :
    Calls Tryz.prog 32 #[.agg #[.int .i64 x0, .int .i64 x1, .int .i64 x2, .int .i64 x3, .int .i64 x4, .int .i64 x5, .int .i64 x6, .int .i64 x7, .slice a l.length cap]] w fun e w' => e = .returned (.bool (courseOK x0 x1 x2 x3 x4 x5 x6 x7 l)) ∧ Below w.heap.size w w' := by
  obtain ⟨W, hW⟩ : ∃ W, W = w.alloc (.cells #[.int .i64 x0, .int .i64 x1, .int .i64 x2, .int .i64 x3, .int .i64 x4, .int .i64 x5, .int .i64 x6, .int .i64 x7, .slice a l.length cap] 28) := ⟨_, rfl⟩
  have HD : Below w.heap.size w W := by subst hW; exact (by repeat (first | with_reducible exact Below.refl _ _ | with_reducible assumption | with_reducible refine Below.drew ?_ | with_reducible refine Below.alloc ?_ (by first | exact Nat.le_refl _ | (simp; done) | (simp; omega) | omega) _ | with_reducible refine Below.setCell ?_ (by first | exact Nat.le_refl _ | (simp; done) | (simp; omega) | omega) _ | with_reducible refine Below.trans ?_ (Below.mono (by with_reducible assumption) (by first | exact Nat.le_refl _ | (simp; done) | (simp; omega) | omega))))
  have b0 : W.cell? ⟨w.heap.size, 0, none⟩ = some (.int .i64 x0) := by subst hW; simp [go_sem]
  have b1 : W.cell? ⟨w.heap.size, 1, none⟩ = some (.int .i64 x1) := by subst hW; simp [go_sem]
  have b2 : W.cell? ⟨w.heap.size, 2, none⟩ = some (.int .i64 x2) := by subst hW; simp [go_sem]
  have b3 : W.cell? ⟨w.heap.size, 3, none⟩ = some (.int .i64 x3) := by subst hW; simp [go_sem]
  have b4 : W.cell? ⟨w.heap.size, 4, none⟩ = some (.int .i64 x4) := by subst hW; simp [go_sem]
  have b5 : W.cell? ⟨w.heap.size, 5, none⟩ = some (.int .i64 x5) := by subst hW; simp [go_sem]
  have b6 : W.cell? ⟨w.heap.size, 6, none⟩ = some (.int .i64 x6) := by subst hW; simp [go_sem]
  have b7 : W.cell? ⟨w.heap.size, 7, none⟩ = some (.int .i64 x7) := by subst hW; simp [go_sem]
  have b8 : W.cell? ⟨w.heap.size, 8, none⟩ = some (.slice a l.length cap) := by subst hW; simp [go_sem]
  have LW : w.heap.size < W.heap.size := by subst hW; simp
  have H := Lib.hid h
  have HS := Lib.hid hs
  clear h hs
  go_enter Tryz.func32, Tryz.ntmps32
  go_wp2_with fail
  rw [← hW]
  clear hW
  refine (isLineS_c x0 x1 x2 x3 W).mono ?_
  rintro e V1 ⟨rfl, hb⟩
  replace b0 := (hb.cell (p := ⟨w.heap.size, 0, none⟩) LW).trans b0
  replace b1 := (hb.cell (p := ⟨w.heap.size, 1, none⟩) LW).trans b1
  replace b2 := (hb.cell (p := ⟨w.heap.size, 2, none⟩) LW).trans b2
  replace b3 := (hb.cell (p := ⟨w.heap.size, 3, none⟩) LW).trans b3
  replace b4 := (hb.cell (p := ⟨w.heap.size, 4, none⟩) LW).trans b4
  replace b5 := (hb.cell (p := ⟨w.heap.size, 5, none⟩) LW).trans b5
  replace b6 := (hb.cell (p := ⟨w.heap.size, 6, none⟩) LW).trans b6
  replace b7 := (hb.cell (p := ⟨w.heap.size, 7, none⟩) LW).trans b7
  replace b8 := (hb.cell (p := ⟨w.heap.size, 8, none⟩) LW).trans b8
  replace HD := HD.trans (hb.mono HD.size)
  replace LW := Nat.lt_of_lt_of_le LW hb.size
  clear hb
  cases e1 : isSeg x0 x1 x2 x3
  case false =>
    go_wp2_with fail
    go_ret
    exact ⟨ret_bool (courseOK_no fun hc => by obtain ⟨g1, g2, g3, g4, g5, g6⟩ := hc; first | omega | exact absurd (g1.symm.trans e1) (by decide) | exact absurd (g2.symm.trans e2) (by decide)), HD⟩
  case true =>
    go_wp2_with fail
    refine (isLineS_c x4 x5 x6 x7 V1).mono ?_
    rintro e V2 ⟨rfl, hb⟩
    replace b0 := (hb.cell (p := ⟨w.heap.size, 0, none⟩) LW).trans b0
    replace b1 := (hb.cell (p := ⟨w.heap.size, 1, none⟩) LW).trans b1
    replace b2 := (hb.cell (p := ⟨w.heap.size, 2, none⟩) LW).trans b2
    replace b3 := (hb.cell (p := ⟨w.heap.size, 3, none⟩) LW).trans b3
    replace b4 := (hb.cell (p := ⟨w.heap.size, 4, none⟩) LW).trans b4
    replace b5 := (hb.cell (p := ⟨w.heap.size, 5, none⟩) LW).trans b5
    replace b6 := (hb.cell (p := ⟨w.heap.size, 6, none⟩) LW).trans b6
    replace b7 := (hb.cell (p := ⟨w.heap.size, 7, none⟩) LW).trans b7
    replace b8 := (hb.cell (p := ⟨w.heap.size, 8, none⟩) LW).trans b8
    replace HD := HD.trans (hb.mono HD.size)
    replace LW := Nat.lt_of_lt_of_le LW hb.size
    clear hb
    cases e2 : isSeg x4 x5 x6 x7
    case false =>
      go_wp2_with fail
      go_ret
      exact ⟨ret_bool (courseOK_no fun hc => by obtain ⟨g1, g2, g3, g4, g5, g6⟩ := hc; first | omega | exact absurd (g1.symm.trans e1) (by decide) | exact absurd (g2.symm.trans e2) (by decide)), HD⟩
    case true =>
      by_cases hl1 : l.length < 1
      · have hl1' : (l.length : Int) < 1 := by omega
        go_wp2_with fail
        go_ret
        exact ⟨ret_bool (courseOK_no fun hc => by obtain ⟨g1, g2, g3, g4, g5, g6⟩ := hc; first | omega | exact absurd (g1.symm.trans e1) (by decide) | exact absurd (g2.symm.trans e2) (by decide)), HD⟩
      have hl1' : ¬ (l.length : Int) < 1 := by omega
      by_cases hl8 : 8 < l.length
      · have hl8' : (8 : Int) < (l.length : Int) := by omega
        go_wp2_with fail
        go_ret
        exact ⟨ret_bool (courseOK_no fun hc => by obtain ⟨g1, g2, g3, g4, g5, g6⟩ := hc; first | omega | exact absurd (g1.symm.trans e1) (by decide) | exact absurd (g2.symm.trans e2) (by decide)), HD⟩
      have hl8' : ¬ (8 : Int) < (l.length : Int) := by omega
      go_wp2_with fail
      have HR := Lib.hid (H.out.below HD)
      clear H
      have BV2 := HD
      go_loopw [4] (fun x wr => ∃ k : Nat, x = .int .i64 k ∧ k ≤ l.length ∧ Hid (∀ i, i < k → MkOK l i) ∧ Below V2.heap.size V2 wr) (fun x _ => l.length - (intOf x).toNat)
      case atStart => exact ⟨0, rfl, Nat.zero_le _, Lib.hid (fun i hi => by omega), Below.refl _ _⟩
      case round =>
        obtain ⟨k, rfl, hk, hI, hbl⟩ := hrel
        have c0 := (hbl.cell (p := ⟨w.heap.size, 0, none⟩) LW).trans b0
        have c1 := (hbl.cell (p := ⟨w.heap.size, 1, none⟩) LW).trans b1
        have c2 := (hbl.cell (p := ⟨w.heap.size, 2, none⟩) LW).trans b2
        have c3 := (hbl.cell (p := ⟨w.heap.size, 3, none⟩) LW).trans b3
        have c4 := (hbl.cell (p := ⟨w.heap.size, 4, none⟩) LW).trans b4
        have c5 := (hbl.cell (p := ⟨w.heap.size, 5, none⟩) LW).trans b5
        have c6 := (hbl.cell (p := ⟨w.heap.size, 6, none⟩) LW).trans b6
        have c7 := (hbl.cell (p := ⟨w.heap.size, 7, none⟩) LW).trans b7
        have c8 := (hbl.cell (p := ⟨w.heap.size, 8, none⟩) LW).trans b8
        have hz := hbl.size
        have hlw : w.heap.size < wr.heap.size := by omega
        have HX : Below w.heap.size w wr := HD.trans (hbl.mono HD.size)
        clear b0 b1 b2 b3 b4 b5 b6 b7 b8
        by_cases h : k < l.length
        · have h' : (k : Int) < (l.length : Int) := by omega
          have hR1 := HR.out.below hbl
          have HT := Lib.hid hR1
          obtain ⟨b, off, rfl, hlt, d0, d1, d2, d3, d4⟩ := mark_cell hR1 h
          have hsz := HS.out k h
          have HM := Lib.hid (show MkOK l k ↔ (markOK (mk l k) = true ∧ ∀ j, j < k → (mk l j).name ≠ (mk l k).name) from Iff.rfl)
          have HY := Lib.hid (nm_own h)
          have HN := Lib.hid (nm_two h)
          have hm9 : maxLen ≤ 9223372036854775807 := by decide
          have hbl2 := Lib.hid hbl
          clear hbl hR1
          generalize hmm : mk l k = m at *
          have hm := Lib.hid hmm
          clear hmm
          obtain ⟨n0, u0, u1, u2, u3⟩ := m
          dsimp only at d0 d1 d2 d3 d4 hsz HY HN HM
          have hszL := Nat.le_trans hsz hm9
          clear hsz hm9
          cases e3 : markOK ⟨n0, u0, u1, u2, u3⟩
          case false =>
            go_upto_region 7 with fail
            have HXh := Lib.hid HX
            have HDh := Lib.hid HD
            clear HX HD BV2
            refine wp_region_later (by kernel_rfl) (by kernel_rfl) ?_
            repeat (first | go_big_quiet_step ((first | (go_at_call 52; exact later_of _ (l04Mark_c ⟨n0, u0, u1, u2, u3⟩ _ hszL)) | (go_at_call 53; exact later_of _ (l04NamedX x0 x1 x2 x3 x4 x5 x6 x7 _ _ l n0 _ (by omega) (HT.out.below (Later.below _)))))) | quiet_step ((first | (go_at_call 52; exact later_of _ (l04Mark_c ⟨n0, u0, u1, u2, u3⟩ _ hszL)) | (go_at_call 53; exact later_of _ (l04NamedX x0 x1 x2 x3 x4 x5 x6 x7 _ _ l n0 _ (by omega) (HT.out.below (Later.below _)))))))
            refine wpQuiet_nil ?_
            intro _ hw'
            obtain ⟨sk6, hw''⟩ := hw'
            subst hw''
            have hbk6 := sk6.below
            generalize sk6.w = wk6 at hbk6 ⊢
            clear sk6
            try replace hbk6 := below_trans (by with_reducible assumption) hbk6
            obtain ⟨hck6, hfk6⟩ := bcell hbk6
            have hzk6 := hbk6.size
            try simp at hzk6
            try have hzk60 : w.heap.size ≤ wk6.heap.size := by omega
            try have hzk61 : w.heap.size < wk6.heap.size := by omega
            try have hzk62 : w.heap.size + 1 < wk6.heap.size := by omega
            try have hzk63 : w.heap.size + 1 + 1 < wk6.heap.size := by omega
            try have hzk64 : w.heap.size + 1 + 1 + 1 < wk6.heap.size := by omega
            go_wp2_with fail
            go_ret
            exact ⟨ret_bool (courseOK_no fun hc => by have := (hc.2.2.2.2.1 k h).1; rw [hm.out, e3] at this; cases this), HXh.out.trans (hbk6.mono HXh.out.size)⟩
          case true =>
            by_cases hu : ∀ j, j < k → (mk l j).name ≠ n0
            case neg =>
              obtain ⟨hu1, hu2⟩ := HN.out hu
              have HU := Lib.hid hu
              clear hu hu2
              go_upto_region 7 with fail
              have HXh := Lib.hid HX
              have HDh := Lib.hid HD
              clear HX HD BV2
              refine wp_region_later (by kernel_rfl) (by kernel_rfl) ?_
              repeat (first | go_big_quiet_step ((first | (go_at_call 52; exact later_of _ (l04Mark_c ⟨n0, u0, u1, u2, u3⟩ _ hszL)) | (go_at_call 53; exact later_of _ (l04NamedX x0 x1 x2 x3 x4 x5 x6 x7 _ _ l n0 _ (by omega) (HT.out.below (Later.below _)))))) | quiet_step ((first | (go_at_call 52; exact later_of _ (l04Mark_c ⟨n0, u0, u1, u2, u3⟩ _ hszL)) | (go_at_call 53; exact later_of _ (l04NamedX x0 x1 x2 x3 x4 x5 x6 x7 _ _ l n0 _ (by omega) (HT.out.below (Later.below _)))))))
              refine wpQuiet_nil ?_
              intro _ hw'
              obtain ⟨sk6, hw''⟩ := hw'
              subst hw''
              have hbk6 := sk6.below
              generalize sk6.w = wk6 at hbk6 ⊢
              clear sk6
              try replace hbk6 := below_trans (by with_reducible assumption) hbk6
              obtain ⟨hck6, hfk6⟩ := bcell hbk6
              have hzk6 := hbk6.size
              try simp at hzk6
              try have hzk60 : w.heap.size ≤ wk6.heap.size := by omega
              try have hzk61 : w.heap.size < wk6.heap.size := by omega
              try have hzk62 : w.heap.size + 1 < wk6.heap.size := by omega
              try have hzk63 : w.heap.size + 1 + 1 < wk6.heap.size := by omega
              try have hzk64 : w.heap.size + 1 + 1 + 1 < wk6.heap.size := by omega
              go_wp2_with fail
              go_ret
              exact ⟨ret_bool (courseOK_no fun hc => HU.out (by have := (hc.2.2.2.2.1 k h).2; rw [hm.out] at this; exact this)), HXh.out.trans (hbk6.mono HXh.out.size)⟩
            case pos =>
              obtain ⟨hu1, hu2⟩ := HY.out hu
              have HU := Lib.hid hu
              clear hu hu2
              go_upto_region 7 with fail
              have HXh := Lib.hid HX
              have HDh := Lib.hid HD
              clear HX HD BV2
              refine wp_region_later (by kernel_rfl) (by kernel_rfl) ?_
              repeat (first | go_big_quiet_step ((first | (go_at_call 52; exact later_of _ (l04Mark_c ⟨n0, u0, u1, u2, u3⟩ _ hszL)) | (go_at_call 53; exact later_of _ (l04NamedX x0 x1 x2 x3 x4 x5 x6 x7 _ _ l n0 _ (by omega) (HT.out.below (Later.below _)))))) | quiet_step ((first | (go_at_call 52; exact later_of _ (l04Mark_c ⟨n0, u0, u1, u2, u3⟩ _ hszL)) | (go_at_call 53; exact later_of _ (l04NamedX x0 x1 x2 x3 x4 x5 x6 x7 _ _ l n0 _ (by omega) (HT.out.below (Later.below _)))))))
              refine wpQuiet_nil ?_
              intro _ hw'
              obtain ⟨sk6, hw''⟩ := hw'
              subst hw''
              have hbk6 := sk6.below
              generalize sk6.w = wk6 at hbk6 ⊢
              clear sk6
              try replace hbk6 := below_trans (by with_reducible assumption) hbk6
              obtain ⟨hck6, hfk6⟩ := bcell hbk6
              have hzk6 := hbk6.size
              try simp at hzk6
              try have hzk60 : w.heap.size ≤ wk6.heap.size := by omega
              try have hzk61 : w.heap.size < wk6.heap.size := by omega
              try have hzk62 : w.heap.size + 1 < wk6.heap.size := by omega
              try have hzk63 : w.heap.size + 1 + 1 < wk6.heap.size := by omega
              try have hzk64 : w.heap.size + 1 + 1 + 1 < wk6.heap.size := by omega
              go_wp2_with fail
              exact ⟨⟨k + 1, by simp, by omega, Lib.hid (fun i hi => by rcases Nat.lt_or_eq_of_le (Nat.le_of_lt_succ hi) with e | rfl; exact hI.out i e; exact ⟨by rw [hm.out]; exact e3, by rw [hm.out]; exact HU.out⟩), hbl2.out.trans (hbk6.mono hz)⟩, by simp [intOf]; omega⟩
        · have h' : ¬ (k : Int) < (l.length : Int) := by omega
          have hI2 := Lib.hid (fun i (hi : i < l.length) => hI.out i (by omega))
          clear hI
          have hk8 : l.length ≤ 8 := by omega
          obtain ⟨s1, s2, _⟩ := isSeg_true e1
          obtain ⟨s3, s4, _⟩ := isSeg_true e2
          go_wp2_with fail
          refine (l04Stations_c x0 x1 x2 x3 x4 x5 x6 x7 a cap l wr hk8 (HR.out.below hbl) s1 s2 s3 s4).mono ?_
          rintro e Y ⟨⟨g, cp, rfl, ho⟩, hb⟩
          replace c8 := (hb.cell (p := ⟨w.heap.size, 8, none⟩) hlw).trans c8
          replace HX := HX.trans (hb.mono HX.size)
          have hgr : wr.heap.size ≤ g ∧ g < Y.heap.size := ho.lt g rfl
          have hY := hb.size
          have hly : w.heap.size < Y.heap.size := by omega
          have hng : w.heap.size ≠ g := by omega
          clear hb c0 c1 c2 c3 c4 c5 c6 c7 s1 s2 s3 s4 hbl
          have HC := Lib.hid (fun (ht : NoTwin (stn x0 x1 x2 x3 x4 x5 x6 x7 l)) => (show CourseP x0 x1 x2 x3 x4 x5 x6 x7 l from ⟨e1, e2, by omega, hk8, hI2.out, ht⟩))
          have hsl := stn_len x0 x1 x2 x3 x4 x5 x6 x7 l
          go_wp2_with fail
          clear c8
          have HO := Lib.hid ho
          clear ho
          go_loopw [6] (fun x wz => ∃ i : Nat, x = .int .i64 i ∧ 1 ≤ i ∧ i ≤ l.length + 2 ∧ Hid (∀ j, 0 < j → j < i → pt (stn x0 x1 x2 x3 x4 x5 x6 x7 l) (j - 1) ≠ pt (stn x0 x1 x2 x3 x4 x5 x6 x7 l) j) ∧ Below Y.heap.size Y wz) (fun x _ => l.length + 2 - (intOf x).toNat)
          case atStart => exact ⟨1, rfl, Nat.le_refl _, by omega, Lib.hid (fun j h0 hj => by omega), Below.refl _ _⟩
          case round =>
            obtain ⟨i, rfl, hi1, hi, hJ, hbz⟩ := hrel
            by_cases hq : i < l.length + 2
            · have hq' : (i : Int) < ((l.length + 2 : Nat) : Int) := by omega
              have hi1' : (1 : Int) ≤ (i : Int) := by omega
              have hrow := pown_below HO.out hbz
              obtain ⟨f1, f2⟩ := pflat_get (stn x0 x1 x2 x3 x4 x5 x6 x7 l) i _ (pt_of (by omega))
              obtain ⟨g1, g2⟩ := pflat_get (stn x0 x1 x2 x3 x4 x5 x6 x7 l) (i - 1) _ (pt_of (by omega))
              have p1 := (hrow.cellAt (i * 2) (by omega)).trans f1
              have p2 := (hrow.cellAt (i * 2 + 1) (by omega)).trans f2
              have q1 := (hrow.cellAt ((i - 1) * 2) (by omega)).trans g1
              have q2 := (hrow.cellAt ((i - 1) * 2 + 1) (by omega)).trans g2
              clear f1 f2 g1 g2 hrow
              have hx := Lib.hid (show pt (stn x0 x1 x2 x3 x4 x5 x6 x7 l) i = ((pt (stn x0 x1 x2 x3 x4 x5 x6 x7 l) i).1, (pt (stn x0 x1 x2 x3 x4 x5 x6 x7 l) i).2) from rfl)
              have hy := Lib.hid (show pt (stn x0 x1 x2 x3 x4 x5 x6 x7 l) (i - 1) = ((pt (stn x0 x1 x2 x3 x4 x5 x6 x7 l) (i - 1)).1, (pt (stn x0 x1 x2 x3 x4 x5 x6 x7 l) (i - 1)).2) from rfl)
              generalize (pt (stn x0 x1 x2 x3 x4 x5 x6 x7 l) i).1 = a1 at *
              generalize (pt (stn x0 x1 x2 x3 x4 x5 x6 x7 l) i).2 = a2 at *
              generalize (pt (stn x0 x1 x2 x3 x4 x5 x6 x7 l) (i - 1)).1 = b1 at *
              generalize (pt (stn x0 x1 x2 x3 x4 x5 x6 x7 l) (i - 1)).2 = b2 at *
              have HB := Lib.hid (HX.trans (hbz.mono HX.size))
              by_cases he : b1 = a1 ∧ b2 = a2
              · obtain ⟨rfl, rfl⟩ := he
                have HZ := Lib.hid (show ¬ CourseP x0 x1 x2 x3 x4 x5 x6 x7 l from fun hc => hc.2.2.2.2.2 i (by omega) (by omega) (by rw [hx.out, hy.out]))
                go_wp2_with fail
                go_region
                go_wp2_with fail
                go_ret
                exact ⟨ret_bool (courseOK_no HZ.out), HB.out.drew⟩
              · have HZ := Lib.hid (show pt (stn x0 x1 x2 x3 x4 x5 x6 x7 l) (i - 1) ≠ pt (stn x0 x1 x2 x3 x4 x5 x6 x7 l) i from fun e => he (by rw [hx.out, hy.out] at e; simp at e; exact e))
                by_cases he1 : b1 = a1
                · have he2 : ¬ b2 = a2 := fun e => he ⟨he1, e⟩
                  subst he1
                  clear he
                  go_wp2_with fail
                  go_region
                  go_wp2_with fail
                  exact ⟨⟨i + 1, by simp, by omega, by omega, Lib.hid (fun j h0 hj => by rcases Nat.lt_or_eq_of_le (Nat.le_of_lt_succ hj) with e | rfl; exact hJ.out j h0 e; exact HZ.out), hbz.drew⟩, by simp [intOf]; omega⟩
                · skip
                  clear he
                  go_wp2_with fail
                  go_region
                  go_wp2_with fail
                  exact ⟨⟨i + 1, by simp, by omega, by omega, Lib.hid (fun j h0 hj => by rcases Nat.lt_or_eq_of_le (Nat.le_of_lt_succ hj) with e | rfl; exact hJ.out j h0 e; exact HZ.out), hbz.drew⟩, by simp [intOf]; omega⟩
            · have hq' : ¬ (i : Int) < ((l.length + 2 : Nat) : Int) := by omega
              have HB := Lib.hid (HX.trans (hbz.mono HX.size))
              go_wp2_with fail
              go_ret
              exact ⟨ret_bool (courseOK_yes (HC.out (fun j h0 hj => hJ.out j h0 (by omega)))), HB.out⟩
end Go.Proofs.YtjgndfphbmkhaaaGreatDoor
