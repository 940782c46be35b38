/-
  slices.Compact at a row of points: how long its result is. Conditions: the row is the caller's own.
-/
import Derived.Test.YtjgndfphbmkhaaaGreatDoorCrsD
import Derived.Lib.SliceRun
namespace Go.Proofs.YtjgndfphbmkhaaaGreatDoor
set_option linter.unusedVariables false
open Go.RowKit Go.Deep

theorem Kept.setCells {g : Nat} {a : World} : ∀ (vs : List Value) (o : Nat) (w : World), Kept g a w → Kept g a (w.setCells g o vs)
  | [], _, _, h => h
  | v :: vs, o, w, h => Kept.setCells vs (o + 1) _ (h.setCell (p := ⟨g, o, none⟩) (.inl rfl) v)
theorem zeros2 (n : Nat) : (Builtin.zeroCells (Value.agg #[.int .i64 0, .int .i64 0]).cells n).toList = List.replicate (n * 2) (Value.int .i64 0) := by
  apply List.ext_getElem
  · simp [Builtin.zeroCells, Value.cells]
  · intro i h1 h2
    have : i % 2 = 0 ∨ i % 2 = 1 := by omega
    rcases this with e | e <;> simp [Builtin.zeroCells, Value.cells, e]
theorem clear2 (w : World) (b o n c : Nat) (ty : TypeId) (hn : 0 < n)
    (hc : ∀ j, j < n * 2 → (w.cell? ⟨b, o + j, none⟩).isSome = true) (hf : ∀ j, j < n * 2 → w.frozen? ⟨b, o + j, none⟩ = false) :
    (Builtin.clear_ #[63] ty #[.slice (some ⟨b, o, none⟩) n c]).run Tryz.prog w = .ok (.tuple #[]) (w.setCells b o (List.replicate (n * 2) (.int .i64 0))) := by
  have hst := run_storeCells_cells (P := Tryz.prog) b o (List.replicate (n * 2) (.int .i64 0)) 0 w (by simpa using hc) (by simpa using hf) (by intro v hv'; rw [List.eq_of_mem_replicate hv']; rfl)
  simp only [Nat.add_zero] at hst
  obtain ⟨m, rfl⟩ : ∃ m, n = m + 1 := ⟨n - 1, by omega⟩
  simp [Builtin.clear_, run_underlying Tryz.underlying63, Tryz.zeroValue23, zeros2, hst]

/-- no two neighbours are equal -/
def NoTwin (L : List (Int × Int)) : Prop := ∀ j, 0 < j → j < L.length → pt L (j - 1) ≠ pt L j
/-- a row of n points, whatever they are, all of whose cells may be written -/
def Pts (w : World) (g n : Nat) : Prop := ∀ j, j < n → ∃ x y : Int, w.cell? ⟨g, j * 2, none⟩ = some (.int .i64 x) ∧ w.cell? ⟨g, j * 2 + 1, none⟩ = some (.int .i64 y)
def Frz (w : World) (g : Nat) : Prop := ∀ i, w.frozen? ⟨g, i, none⟩ = false
theorem Pts.drew {w : World} {g n : Nat} (h : Pts w g n) : Pts w.drew g n := h
theorem Pts.set {w : World} {g n k : Nat} {x y : Int} (h : Pts w g n) (hk : k < n) : Pts ((w.setCell ⟨g, k * 2, none⟩ (.int .i64 x)).setCell ⟨g, k * 2 + 1, none⟩ (.int .i64 y)) g n := by
  intro j hj
  by_cases e : j = k
  · subst e
    obtain ⟨u, v, h1, h2⟩ := h j hj
    refine ⟨x, y, ?_, ?_⟩
    · rw [World.cell?_setCell_other _ _ _ _ (by simp), World.cell?_setCell_same _ _ _ h1]
    · rw [World.cell?_setCell_same _ _ _ ((World.cell?_setCell_other _ _ _ _ (by simp)).trans h2)]
  · obtain ⟨u, v, h1, h2⟩ := h j hj
    refine ⟨u, v, ?_, ?_⟩
    · rw [World.cell?_setCell_other _ _ _ _ (by first | (simp; done) | (simp; omega)), World.cell?_setCell_other _ _ _ _ (by first | (simp; done) | (simp; omega))]; exact h1
    · rw [World.cell?_setCell_other _ _ _ _ (by first | (simp; done) | (simp; omega)), World.cell?_setCell_other _ _ _ _ (by first | (simp; done) | (simp; omega))]; exact h2
theorem Frz.set {w : World} {g : Nat} (h : Frz w g) (p q : Addr) (u v : Value) : Frz ((w.setCell p u).setCell q v) g := fun i => by
  rw [World.frozen?_setCell, World.frozen?_setCell]; exact h i
theorem pts_cell {w : World} {g n : Nat} (h : Pts w g n) : ∀ i, i < n * 2 → (w.cell? ⟨g, i, none⟩).isSome = true := fun i hi => by
  obtain ⟨x, y, h1, h2⟩ := h (i / 2) (by omega)
  rcases (show i = i / 2 * 2 ∨ i = i / 2 * 2 + 1 by omega) with e | e
  · rw [e, h1]; rfl
  · rw [e, h2]; rfl
set_option maxRecDepth 100000 in
set_option maxHeartbeats 4000000 in
theorem compact_c (g n cap base : Nat) (L : List (Int × Int)) (w : World) (hL : L.length = n) (hn : n ≤ 1000) (hcap : n ≤ cap) (ho : w.ownsRow base 23 2 (.slice (some ⟨g, 0, none⟩) n cap) n (pflat L)) :
    Calls Tryz.prog 38 #[.slice (some ⟨g, 0, none⟩) n cap] w fun e w' => (∃ m : Nat, e = .returned (.slice (some ⟨g, 0, none⟩) m cap) ∧ m ≤ n ∧ (m = n ↔ NoTwin L)) ∧ Kept g w w' := by
  have hcell : ∀ j, j < n → w.cell? ⟨g, j * 2, none⟩ = some (.int .i64 (pt L j).1) ∧ w.cell? ⟨g, j * 2 + 1, none⟩ = some (.int .i64 (pt L j).2) := fun j hj => by
    obtain ⟨h1, h2⟩ := pflat_get L j _ (pt_of (by omega))
    exact ⟨(ho.cellAt (j * 2) (by omega)).trans h1, (ho.cellAt (j * 2 + 1) (by omega)).trans h2⟩
  have HC := Lib.hid hcell
  have HF := Lib.hid (show Frz w g from fun i => ho.frozenAt i)
  have hL2 := Lib.hid hL
  clear hcell ho hL
  by_cases h2 : n < 2
  · go_enter Tryz.func38, Tryz.ntmps38
    have h2' : (n : Int) < 2 := by omega
    go_wp2_with fail
    go_ret
    exact ⟨⟨n, rfl, Nat.le_refl _, ⟨fun _ j h0 hj => by have := hL2.out; omega, fun _ => rfl⟩⟩, Kept.refl _ _⟩
  have h2' : ¬ (n : Int) < 2 := by omega
  go_enter Tryz.func38, Tryz.ntmps38
  go_wp2_with fail
  go_loopw [3] (fun x wr => ∃ k : Nat, x = .int .i64 k ∧ 1 ≤ k ∧ k ≤ n ∧ Hid (∀ j, 0 < j → j < k → pt L (j - 1) ≠ pt L j) ∧ Hid (Kept g w wr) ∧ Hid (∀ i, wr.cell? ⟨g, i, none⟩ = w.cell? ⟨g, i, none⟩) ∧ Hid (Frz wr g)) (fun x _ => n - (intOf x).toNat)
  case atStart => exact ⟨1, rfl, Nat.le_refl _, by omega, Lib.hid (fun j h0 hj => by omega), Lib.hid (Kept.refl _ _), Lib.hid (fun _ => rfl), HF⟩
  case round =>
    obtain ⟨k, rfl, hk1, hk, hI, hK, hS, hR⟩ := hrel
    by_cases h : k < n
    · have h' : (k : Int) < (n : Int) := by omega
      have hk1' : (1 : Int) ≤ (k : Int) := by omega
      have c1 := (hS.out _).trans (HC.out k h).1
      have c2 := (hS.out _).trans (HC.out k h).2
      have d1 := (hS.out _).trans (HC.out (k - 1) (by omega)).1
      have d2 := (hS.out _).trans (HC.out (k - 1) (by omega)).2
      have hx : Hid (pt L k = ((pt L k).1, (pt L k).2)) := Lib.hid rfl
      have hy : Hid (pt L (k - 1) = ((pt L (k - 1)).1, (pt L (k - 1)).2)) := Lib.hid rfl
      generalize (pt L k).1 = p1 at *
      generalize (pt L k).2 = p2 at *
      generalize (pt L (k - 1)).1 = q1 at *
      generalize (pt L (k - 1)).2 = q2 at *
      by_cases he : p1 = q1 ∧ p2 = q2
      · obtain ⟨rfl, rfl⟩ := he
        have HX := Lib.hid (show ¬ NoTwin L from fun hT => hT k (by omega) (by have := hL2.out; omega) (by rw [hx.out, hy.out]))
        clear hx hy hI
        have H0 := Lib.hid (show Pts wr g n from fun j hj => ⟨_, _, (hS.out _).trans (HC.out j hj).1, (hS.out _).trans (HC.out j hj).2⟩)
        clear hS HF
        go_wp2_with fail
        go_region
        go_wp2_with fail
        clear c1 c2 d1 d2
        go_loopw [3, 5] (fun x y wz => ∃ kk k2 : Nat, x = .int .i64 kk ∧ y = .int .i64 k2 ∧ 1 ≤ k2 ∧ k + k2 ≤ n ∧ k ≤ kk ∧ kk + 1 ≤ k + k2 ∧ Hid (Kept g w wz) ∧ Hid (Pts wz g n) ∧ Hid (Frz wz g)) (fun _ y _ => n - (intOf y).toNat)
        case atStart => exact ⟨k, 1, rfl, rfl, by omega, by omega, Nat.le_refl _, Nat.le_refl _, Lib.hid hK.out.drew, H0, Lib.hid hR.out⟩
        case round =>
          obtain ⟨kk, k2, rfl, rfl, hq1, hq2, hq3, hq4, hK2, hP, hF2⟩ := hrel
          by_cases h3 : k + k2 < n
          · have h3' : (k2 : Int) < ((n - k : Nat) : Int) := by omega
            obtain ⟨a1, a2, e1, e2⟩ := hP.out (k + k2) h3
            obtain ⟨b1, b2, f1, f2⟩ := hP.out (k + k2 - 1) (by omega)
            obtain ⟨o1, o2, g1, g2⟩ := hP.out kk (by omega)
            have z1 := hF2.out (kk * 2)
            have z2 := hF2.out (kk * 2 + 1)
            rw [show (k + k2) * 2 = k * 2 + k2 * 2 by omega] at e1 e2
            rw [show (k + k2 - 1) * 2 = k * 2 + (k2 - 1) * 2 by omega] at f1 f2
            have hkk : (kk : Int) < (n : Int) := by omega
            have hk2' : (1 : Int) ≤ (k2 : Int) := by omega
            by_cases h4 : a1 = b1 ∧ a2 = b2
            · obtain ⟨rfl, rfl⟩ := h4
              go_wp2_with fail
              go_region
              go_wp2_with fail
              exact ⟨⟨kk, k2 + 1, rfl, by simp, by omega, by omega, hq3, by omega, Lib.hid hK2.out.drew, Lib.hid hP.out, Lib.hid hF2.out⟩, by simp [intOf]; omega⟩
            · have HH := Lib.hid (And.intro hK2.out (And.intro hP.out hF2.out))
              by_cases h5 : a1 = b1
              · have h6 : ¬ a2 = b2 := fun e => h4 ⟨h5, e⟩
                subst h5
                clear h4
                go_wp2_with fail
                go_region
                go_wp2_with fail
                exact ⟨⟨kk + 1, k2 + 1, by simp, by simp, by omega, by omega, by omega, by omega, Lib.hid ((HH.out.1.setCell (p := ⟨g, kk * 2, none⟩) (.inl rfl) _).setCell (p := ⟨g, kk * 2 + 1, none⟩) (.inl rfl) _).drew, Lib.hid (HH.out.2.1.set (by omega)), Lib.hid (HH.out.2.2.set _ _ _ _)⟩, by simp [intOf]; omega⟩
              · clear h4
                go_wp2_with fail
                go_region
                go_wp2_with fail
                exact ⟨⟨kk + 1, k2 + 1, by simp, by simp, by omega, by omega, by omega, by omega, Lib.hid ((HH.out.1.setCell (p := ⟨g, kk * 2, none⟩) (.inl rfl) _).setCell (p := ⟨g, kk * 2 + 1, none⟩) (.inl rfl) _).drew, Lib.hid (HH.out.2.1.set (by omega)), Lib.hid (HH.out.2.2.set _ _ _ _)⟩, by simp [intOf]; omega⟩
          · have h3' : ¬ (k2 : Int) < ((n - k : Nat) : Int) := by omega
            have hkk : kk < n := by omega
            have hkc : (kk : Int) ≤ (n : Int) := by omega
            have hcl : ∀ ty, (Builtin.clear_ #[63] ty #[.slice (some ⟨g, kk * 2, none⟩) (n - kk) (cap - kk)]).run Tryz.prog wr = .ok (.tuple #[]) (wr.setCells g (kk * 2) (List.replicate ((n - kk) * 2) (.int .i64 0))) :=
              fun ty => clear2 wr g (kk * 2) (n - kk) (cap - kk) ty (by omega) (fun j hj => pts_cell hP.out _ (by omega)) (fun j hj => hF2.out _)
            go_wp2_with fail
            go_ret
            exact ⟨⟨kk, rfl, by omega, ⟨fun e => by omega, fun e => absurd e HX.out⟩⟩, Kept.setCells _ _ _ hK2.out⟩
      · have HN := Lib.hid (show pt L (k - 1) ≠ pt L k from fun e => he (by rw [hx.out, hy.out] at e; simp at e; exact ⟨e.1.symm, e.2.symm⟩))
        clear hx hy
        by_cases he1 : p1 = q1
        · have he2 : ¬ p2 = q2 := fun e => he ⟨he1, e⟩
          subst he1
          clear he
          go_wp2_with fail
          go_region
          go_wp2_with fail
          exact ⟨⟨k + 1, by simp, by omega, by omega, Lib.hid (fun j h0 hj => by rcases Nat.lt_or_eq_of_le (Nat.le_of_lt_succ hj) with e | rfl; exact hI.out j h0 e; exact HN.out), Lib.hid hK.out.drew, Lib.hid hS.out, Lib.hid hR.out⟩, by simp [intOf]; omega⟩
        · clear he
          go_wp2_with fail
          go_region
          go_wp2_with fail
          exact ⟨⟨k + 1, by simp, by omega, by omega, Lib.hid (fun j h0 hj => by rcases Nat.lt_or_eq_of_le (Nat.le_of_lt_succ hj) with e | rfl; exact hI.out j h0 e; exact HN.out), Lib.hid hK.out.drew, Lib.hid hS.out, Lib.hid hR.out⟩, by simp [intOf]; omega⟩
    · have h' : ¬ (k : Int) < (n : Int) := by omega
      go_wp2_with fail
      go_ret
      exact ⟨⟨n, rfl, Nat.le_refl _, ⟨fun _ j h0 hj => hI.out j h0 (by have := hL2.out; omega), fun _ => rfl⟩⟩, hK.out⟩
end Go.Proofs.YtjgndfphbmkhaaaGreatDoor
