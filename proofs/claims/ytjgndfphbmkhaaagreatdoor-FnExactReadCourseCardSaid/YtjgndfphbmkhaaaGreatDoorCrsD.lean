/-
  The stations of a course. Conditions: its lines are lines of valid points, its marks are few.
-/
import Derived.Test.YtjgndfphbmkhaaaGreatDoorCrsC
import Derived.Maps.AppendAt
import Derived.Maps.Range
import Derived.Deep.AppendLies
namespace Go.Proofs.YtjgndfphbmkhaaaGreatDoor
set_option linter.unusedVariables false
open Go.RowKit Go.Deep

def pflat : List (Int × Int) → List Value
  | [] => []
  | p :: l => .int .i64 p.1 :: .int .i64 p.2 :: pflat l
theorem pflat_length : ∀ l : List (Int × Int), (pflat l).length = l.length * 2
  | [] => rfl
  | p :: l => by simp [pflat, pflat_length l]; omega
theorem pflat_append : ∀ a b : List (Int × Int), pflat (a ++ b) = pflat a ++ pflat b
  | [], b => rfl
  | p :: a, b => by simp [pflat, pflat_append a b]
def pt (l : List (Int × Int)) (k : Nat) : Int × Int := l.getD k (0, 0)
theorem pt_of {l : List (Int × Int)} {i : Nat} (h : i < l.length) : l[i]? = some (pt l i) := by
  unfold pt
  rw [List.getD_eq_getElem?_getD, List.getElem?_eq_getElem h]; rfl
theorem pflat_get : ∀ (l : List (Int × Int)) (i : Nat) (p : Int × Int), l[i]? = some p → (pflat l)[i * 2]? = some (.int .i64 p.1) ∧ (pflat l)[i * 2 + 1]? = some (.int .i64 p.2)
  | [], i, p, h => by simp at h
  | c :: l, 0, p, h => by simp at h; subst h; exact ⟨rfl, rfl⟩
  | c :: l, i + 1, p, h => by
    have := pflat_get l i p (by simpa using h)
    rw [show (i + 1) * 2 = i * 2 + 1 + 1 by omega]
    simpa [pflat] using this
/-- the points of marks -/
def ptsOf (l : List Mk) : List (Int × Int) := l.map fun m => (m.x, m.y)
theorem ptsOf_succ {l : List Mk} {k : Nat} (h : k < l.length) : ptsOf (l.take (k + 1)) = ptsOf (l.take k) ++ [((mk l k).x, (mk l k).y)] := by
  unfold ptsOf
  rw [List.take_add_one, mk_of h]
  simp
/-- the stations -/
def stn (x0 x1 x2 x3 x4 x5 x6 x7 : Int) (l : List Mk) : List (Int × Int) := (midZ x0 x2, midZ x1 x3) :: (ptsOf l ++ [(midZ x4 x6, midZ x5 x7)])
theorem stn_len (x0 x1 x2 x3 x4 x5 x6 x7 : Int) (l : List Mk) : (stn x0 x1 x2 x3 x4 x5 x6 x7 l).length = l.length + 2 := by simp [stn, ptsOf]
theorem one2 (a b : Int) : ∀ u ∈ [Value.int .i64 a, .int .i64 b], u.oneCell' = true := by
  intro u hu
  simp at hu
  rcases hu with rfl | rfl <;> rfl
theorem pgrown_below {w w' : World} {base : Nat} {row : Option Nat} (h : w.grownBy w' row) (hb : base ≤ w.heap.size) (hr : ∀ k, row = some k → base ≤ k) : Below base w w' :=
  ⟨h.os, h.tape, h.output, h.size, fun k hk => h.block k (by omega) (fun e => by have := hr k e.symm; omega)⟩
theorem pheap_new {w : World} {o : Obj} {n : Nat} (h : w.heap.size = n) : (w.alloc o).heap[n]? = some o := h ▸ heap_alloc_new w o
theorem pown_mono {w : World} {base base' size n : Nat} {e : TypeId} {v : Value} {xs : List Value} (h : w.ownsRow base e size v n xs) (hb : base' ≤ base) : w.ownsRow base' e size v n xs := by
  obtain ⟨h1, h2⟩ := h
  refine ⟨h1, ?_⟩
  rcases h2 with h2 | ⟨g, cap, cur, hv, hg, r⟩
  · exact .inl h2
  · exact .inr ⟨g, cap, cur, hv, Nat.le_trans hb hg, r⟩
theorem pown_below {w w' : World} {base size n : Nat} {e : TypeId} {v : Value} {xs : List Value} (h : w.ownsRow base e size v n xs) (hb : Below w.heap.size w w') : w'.ownsRow base e size v n xs := by
  obtain ⟨h1, h2⟩ := h
  refine ⟨h1, ?_⟩
  rcases h2 with h2 | ⟨g, cap, cur, hv, hg, hh, r⟩
  · exact .inl h2
  · refine .inr ⟨g, cap, cur, hv, hg, ?_, r⟩
    have hlt : g < w.heap.size := by
      rcases Nat.lt_or_ge g w.heap.size with h' | h'
      · exact h'
      · rw [Array.getElem?_eq_none h'] at hh; cases hh
    exact (hb.block g hlt).trans hh
theorem infoPt : (Tryz.prog.info? 23).map (fun i => (i.zero, i.size, i.bytes)) = some (some (.agg #[.int .i64 0, .int .i64 0]), 2, 16) := by kernel_rfl
set_option maxRecDepth 100000 in
set_option maxHeartbeats 4000000 in
theorem stationsOf_c (x0 x1 x2 x3 x4 x5 x6 x7 : Int) (a : Option Addr) (cap : Nat) (l : List Mk) (w : World) (hl : l.length ≤ 8) (h : RowAt w a (mflat l)) (hA : isPt x0 x1 = true) (hB : isPt x2 x3 = true) (hC : isPt x4 x5 = true) (hD : isPt x6 x7 = true) :
    Calls Tryz.prog 37 #[.agg #[.int .i64 x0, .int .i64 x1, .int .i64 x2, .int .i64 x3, .int .i64 x4, .int .i64 x5, .int .i64 x6, .int .i64 x7, .slice a l.length cap]] w fun e w' => (∃ g cp, e = .returned (.slice (some ⟨g, 0, none⟩) (l.length + 2) cp) ∧ w'.ownsRow w.heap.size 23 2 (.slice (some ⟨g, 0, none⟩) (l.length + 2) cp) (l.length + 2) (pflat (stn x0 x1 x2 x3 x4 x5 x6 x7 l))) ∧ Below w.heap.size w w' := by
  obtain ⟨i0, hi, ti0, ti1, ti2⟩ := info_parts infoPt
  obtain ⟨W, hW⟩ : ∃ W, W = w.alloc (.cells #[.int .i64 x0, .int .i64 x1, .int .i64 x2, .int .i64 x3, .int .i64 x4, .int .i64 x5, .int .i64 x6, .int .i64 x7, .slice a l.length cap] 28) := ⟨_, rfl⟩
  have HD : Below w.heap.size w W := by subst hW; exact (by repeat (first | with_reducible exact Below.refl _ _ | with_reducible assumption | with_reducible refine Below.drew ?_ | with_reducible refine Below.alloc ?_ (by first | exact Nat.le_refl _ | (simp; done) | (simp; omega) | omega) _ | with_reducible refine Below.setCell ?_ (by first | exact Nat.le_refl _ | (simp; done) | (simp; omega) | omega) _ | with_reducible refine Below.trans ?_ (Below.mono (by with_reducible assumption) (by first | exact Nat.le_refl _ | (simp; done) | (simp; omega) | omega))))
  have b0 : W.cell? ⟨w.heap.size, 0, none⟩ = some (.int .i64 x0) := by subst hW; simp [go_sem]
  have b1 : W.cell? ⟨w.heap.size, 1, none⟩ = some (.int .i64 x1) := by subst hW; simp [go_sem]
  have b2 : W.cell? ⟨w.heap.size, 2, none⟩ = some (.int .i64 x2) := by subst hW; simp [go_sem]
  have b3 : W.cell? ⟨w.heap.size, 3, none⟩ = some (.int .i64 x3) := by subst hW; simp [go_sem]
  have b4 : W.cell? ⟨w.heap.size, 4, none⟩ = some (.int .i64 x4) := by subst hW; simp [go_sem]
  have b5 : W.cell? ⟨w.heap.size, 5, none⟩ = some (.int .i64 x5) := by subst hW; simp [go_sem]
  have b6 : W.cell? ⟨w.heap.size, 6, none⟩ = some (.int .i64 x6) := by subst hW; simp [go_sem]
  have b7 : W.cell? ⟨w.heap.size, 7, none⟩ = some (.int .i64 x7) := by subst hW; simp [go_sem]
  have b8 : W.cell? ⟨w.heap.size, 8, none⟩ = some (.slice a l.length cap) := by subst hW; simp [go_sem]
  have LW : w.heap.size < W.heap.size := by subst hW; simp
  have H := Lib.hid h
  clear h
  unfold stn
  go_enter Tryz.func37, Tryz.ntmps37
  go_wp2_with fail
  rw [← hW]
  clear hW
  refine (middleOf_c x0 x1 x2 x3 W hA hB).mono ?_
  rintro e V ⟨rfl, hb⟩
  replace HD := HD.trans (hb.mono HD.size)
  replace b4 := (hb.cell (p := ⟨w.heap.size, 4, none⟩) LW).trans b4
  replace b5 := (hb.cell (p := ⟨w.heap.size, 5, none⟩) LW).trans b5
  replace b6 := (hb.cell (p := ⟨w.heap.size, 6, none⟩) LW).trans b6
  replace b7 := (hb.cell (p := ⟨w.heap.size, 7, none⟩) LW).trans b7
  replace b8 := (hb.cell (p := ⟨w.heap.size, 8, none⟩) LW).trans b8
  clear b0 b1 b2 b3
  replace LW := Nat.lt_of_lt_of_le LW hb.size
  have HH := Lib.hid (H.out.below HD)
  have M0 := Lib.hid (hA)
  clear hb hA hB H
  go_wp2_with fail
  go_loopw [3, 13] (fun v i wr => ∃ (k g cp : Nat), i = .int .i64 k ∧ v = .slice (some ⟨g, 0, none⟩) (k + 1) cp ∧ k ≤ l.length ∧ Hid (wr.ownsRow V.heap.size 23 2 (.slice (some ⟨g, 0, none⟩) (k + 1) cp) (k + 1) (pflat ((midZ x0 x2, midZ x1 x3) :: ptsOf (l.take k)))) ∧ V.heap.size ≤ g ∧ g < wr.heap.size ∧ Below V.heap.size V wr) (fun _ i _ => l.length - (intOf i).toNat)
  case atStart => exact ⟨0, V.heap.size, 1, rfl, rfl, Nat.zero_le _, Lib.hid (World.ownsRow_lit V #[.int .i64 (midZ x0 x2), .int .i64 (midZ x1 x3)] 1 (Nat.le_refl _) (by unfold maxLen; omega) rfl), Nat.le_refl _, by simp, (by repeat (first | with_reducible exact Below.refl _ _ | with_reducible assumption | with_reducible refine Below.drew ?_ | with_reducible refine Below.alloc ?_ (by first | exact Nat.le_refl _ | (simp; done) | (simp; omega) | omega) _ | with_reducible refine Below.setCell ?_ (by first | exact Nat.le_refl _ | (simp; done) | (simp; omega) | omega) _ | with_reducible refine Below.trans ?_ (Below.mono (by with_reducible assumption) (by first | exact Nat.le_refl _ | (simp; done) | (simp; omega) | omega))))⟩
  case round =>
    obtain ⟨k, g, cp, rfl, rfl, hk, hor, hg1, hg2, hbl⟩ := hrel
    have c4 := (hbl.cell (p := ⟨w.heap.size, 4, none⟩) LW).trans b4
    have c5 := (hbl.cell (p := ⟨w.heap.size, 5, none⟩) LW).trans b5
    have c6 := (hbl.cell (p := ⟨w.heap.size, 6, none⟩) LW).trans b6
    have c7 := (hbl.cell (p := ⟨w.heap.size, 7, none⟩) LW).trans b7
    have c8 := (hbl.cell (p := ⟨w.heap.size, 8, none⟩) LW).trans b8
    have hz := hbl.size
    have hlw : w.heap.size < wr.heap.size := by omega
    by_cases h : k < l.length
    · obtain ⟨b, off, rfl, hlt, d0, d1, d2, d3, d4⟩ := mark_cell (HH.out.below hbl) h
      have h' : (k : Int) < (l.length : Int) := by omega
      have hm := Lib.hid (ptsOf_succ h)
      clear b4 b5 b6 b7 b8 c4 c5 c6 c7
      generalize mk l k = m at *
      obtain ⟨n0, u0, u1, u2, u3⟩ := m
      dsimp only at d0 d1 d2 d3 d4
      go_wp2_with (at_builtin; refine wpList_append_lies _ rfl _ _ 63 rfl V.heap.size 23 i0 _ 2 16 Tryz.underlying63 hi ti0 ti1 ti2 rfl (by decide) (.slice (some ⟨g, 0, none⟩) (k + 1) cp) (k + 1) (pflat ((midZ x0 x2, midZ x1 x3) :: ptsOf (l.take k))) rfl (by repeat (first | with_reducible exact hor.out | with_reducible refine World.ownsRow.alloc ?_ _ | with_reducible refine ownsRow_setCell_other ?_ (by simp [Value.ownBlock]; omega) _ | with_reducible refine World.ownsRow.drew ?_)) ⟨wr.heap.size + 1, 0, none⟩ 1 1 [.int .i64 u0, .int .i64 u1] rfl rfl (World.news_of_block (pheap_new (by simp))) (one2 _ _) (by decide) (by unfold maxLen; omega) (by omega) (by simp; omega) (wr.heap.size + 1 + 1) (by simp) ?_; intro g' cp' w1 hown1 hgrow1 hat1 hlt1)
      have hG := pgrown_below (base := V.heap.size) hgrow1 (by simp; omega) (by intro j e; simp [Value.ownBlock] at e; omega)
      have HB1 : Below V.heap.size V w1 := Below.trans (by exact (by repeat (first | with_reducible exact Below.refl _ _ | with_reducible assumption | with_reducible refine Below.drew ?_ | with_reducible refine Below.alloc ?_ (by first | exact Nat.le_refl _ | (simp; done) | (simp; omega) | omega) _ | with_reducible refine Below.setCell ?_ (by first | exact Nat.le_refl _ | (simp; done) | (simp; omega) | omega) _ | with_reducible refine Below.trans ?_ (Below.mono (by with_reducible assumption) (by first | exact Nat.le_refl _ | (simp; done) | (simp; omega) | omega))))) hG
      have hga : V.heap.size ≤ g' := by rcases hat1 with e | e; (simp [Value.ownBlock] at e; omega); omega
      clear hG hgrow1 hat1
      go_wp2
      refine ⟨⟨k + 1, g', cp', by simp, rfl, by omega, Lib.hid ?_, hga, hlt1, HB1⟩, by simp [intOf]; omega⟩
      rw [hm.out]
      have := hown1
      rw [show pflat ((midZ x0 x2, midZ x1 x3) :: ptsOf (l.take k)) ++ [.int .i64 u0, .int .i64 u1] = pflat ((midZ x0 x2, midZ x1 x3) :: (ptsOf (l.take k) ++ [(u0, u1)])) by rw [← List.cons_append, pflat_append]; rfl] at this
      exact this
    · have hkl := Lib.hid (show k = l.length by omega)
      have h' : (l.length : Int) ≤ (k : Int) := by omega
      have h'' : ¬ (k : Int) < (l.length : Int) := by omega
      clear b4 b5 b6 b7 b8
      go_wp2_with fail
      refine (middleOf_c x4 x5 x6 x7 wr hC hD).mono ?_
      rintro e X ⟨rfl, hbX⟩
      have hor1 := Lib.hid (pown_below hor.out hbX)
      replace hbl := hbl.trans (hbX.mono hbl.size)
      replace hg2 := Nat.lt_of_lt_of_le hg2 hbX.size
      have hzX := hbX.size
      clear hbX c4 c5 c6 c7 c8 hor
      have hor := hor1
      clear hor1
      go_wp2_with (at_builtin; refine wpList_append_lies _ rfl _ _ 63 rfl V.heap.size 23 i0 _ 2 16 Tryz.underlying63 hi ti0 ti1 ti2 rfl (by decide) (.slice (some ⟨g, 0, none⟩) (k + 1) cp) (k + 1) (pflat ((midZ x0 x2, midZ x1 x3) :: ptsOf (l.take k))) rfl (by repeat (first | with_reducible exact hor.out | with_reducible refine World.ownsRow.alloc ?_ _ | with_reducible refine ownsRow_setCell_other ?_ (by simp [Value.ownBlock]; omega) _ | with_reducible refine World.ownsRow.drew ?_)) ⟨X.heap.size, 0, none⟩ 1 1 [.int .i64 (midZ x4 x6), .int .i64 (midZ x5 x7)] rfl rfl (World.news_of_block (pheap_new (by simp))) (one2 _ _) (by decide) (by unfold maxLen; omega) (by omega) (by simp; omega) (X.heap.size + 1) (by simp) ?_; intro g' cp' w1 hown1 hgrow1 hat1 hlt1)
      have hG := pgrown_below (base := V.heap.size) hgrow1 (by simp; omega) (by intro j e; simp [Value.ownBlock] at e; omega)
      have HB1 : Below V.heap.size V w1 := Below.trans (by exact (by repeat (first | with_reducible exact Below.refl _ _ | with_reducible assumption | with_reducible refine Below.drew ?_ | with_reducible refine Below.alloc ?_ (by first | exact Nat.le_refl _ | (simp; done) | (simp; omega) | omega) _ | with_reducible refine Below.setCell ?_ (by first | exact Nat.le_refl _ | (simp; done) | (simp; omega) | omega) _ | with_reducible refine Below.trans ?_ (Below.mono (by with_reducible assumption) (by first | exact Nat.le_refl _ | (simp; done) | (simp; omega) | omega))))) hG
      clear hG hgrow1
      rw [show pflat ((midZ x0 x2, midZ x1 x3) :: ptsOf (l.take k)) ++ [.int .i64 (midZ x4 x6), .int .i64 (midZ x5 x7)] = pflat ((midZ x0 x2, midZ x1 x3) :: (ptsOf l ++ [(midZ x4 x6, midZ x5 x7)])) by rw [hkl.out, List.take_length, ← List.cons_append, pflat_append]; rfl] at hown1
      go_wp2
      go_ret
      exact ⟨⟨g', cp', congrArg (fun n : Nat => Ending.returned (Value.slice (some ⟨g', 0, none⟩) (n + 2) cp')) hkl.out, by rw [← hkl.out]; exact pown_mono hown1 HD.size⟩, HD.trans (HB1.mono HD.size)⟩
set_option maxRecDepth 100000 in
set_option maxHeartbeats 4000000 in
theorem l04Stations_c (x0 x1 x2 x3 x4 x5 x6 x7 : Int) (a : Option Addr) (cap : Nat) (l : List Mk) (w : World) (hl : l.length ≤ 8) (h : RowAt w a (mflat l)) (hA : isPt x0 x1 = true) (hB : isPt x2 x3 = true) (hC : isPt x4 x5 = true) (hD : isPt x6 x7 = true) :
    Calls Tryz.prog 54 #[.agg #[.int .i64 x0, .int .i64 x1, .int .i64 x2, .int .i64 x3, .int .i64 x4, .int .i64 x5, .int .i64 x6, .int .i64 x7, .slice a l.length cap]] w fun e w' => (∃ g cp, e = .returned (.slice (some ⟨g, 0, none⟩) (l.length + 2) cp) ∧ w'.ownsRow w.heap.size 23 2 (.slice (some ⟨g, 0, none⟩) (l.length + 2) cp) (l.length + 2) (pflat (stn x0 x1 x2 x3 x4 x5 x6 x7 l))) ∧ Below w.heap.size w w' := by
  obtain ⟨i0, hi, ti0, ti1, ti2⟩ := info_parts infoPt
  obtain ⟨W, hW⟩ : ∃ W, W = w.alloc (.cells #[.int .i64 x0, .int .i64 x1, .int .i64 x2, .int .i64 x3, .int .i64 x4, .int .i64 x5, .int .i64 x6, .int .i64 x7, .slice a l.length cap] 28) := ⟨_, rfl⟩
  have HD : Below w.heap.size w W := by subst hW; exact (by repeat (first | with_reducible exact Below.refl _ _ | with_reducible assumption | with_reducible refine Below.drew ?_ | with_reducible refine Below.alloc ?_ (by first | exact Nat.le_refl _ | (simp; done) | (simp; omega) | omega) _ | with_reducible refine Below.setCell ?_ (by first | exact Nat.le_refl _ | (simp; done) | (simp; omega) | omega) _ | with_reducible refine Below.trans ?_ (Below.mono (by with_reducible assumption) (by first | exact Nat.le_refl _ | (simp; done) | (simp; omega) | omega))))
  have b0 : W.cell? ⟨w.heap.size, 0, none⟩ = some (.int .i64 x0) := by subst hW; simp [go_sem]
  have b1 : W.cell? ⟨w.heap.size, 1, none⟩ = some (.int .i64 x1) := by subst hW; simp [go_sem]
  have b2 : W.cell? ⟨w.heap.size, 2, none⟩ = some (.int .i64 x2) := by subst hW; simp [go_sem]
  have b3 : W.cell? ⟨w.heap.size, 3, none⟩ = some (.int .i64 x3) := by subst hW; simp [go_sem]
  have b4 : W.cell? ⟨w.heap.size, 4, none⟩ = some (.int .i64 x4) := by subst hW; simp [go_sem]
  have b5 : W.cell? ⟨w.heap.size, 5, none⟩ = some (.int .i64 x5) := by subst hW; simp [go_sem]
  have b6 : W.cell? ⟨w.heap.size, 6, none⟩ = some (.int .i64 x6) := by subst hW; simp [go_sem]
  have b7 : W.cell? ⟨w.heap.size, 7, none⟩ = some (.int .i64 x7) := by subst hW; simp [go_sem]
  have b8 : W.cell? ⟨w.heap.size, 8, none⟩ = some (.slice a l.length cap) := by subst hW; simp [go_sem]
  have LW : w.heap.size < W.heap.size := by subst hW; simp
  have H := Lib.hid h
  clear h
  unfold stn
  go_enter Tryz.func54, Tryz.ntmps54
  go_wp2_with fail
  rw [← hW]
  clear hW
  refine (l04Middle_c x0 x1 x2 x3 W hA hB).mono ?_
  rintro e V ⟨rfl, hb⟩
  replace HD := HD.trans (hb.mono HD.size)
  replace b4 := (hb.cell (p := ⟨w.heap.size, 4, none⟩) LW).trans b4
  replace b5 := (hb.cell (p := ⟨w.heap.size, 5, none⟩) LW).trans b5
  replace b6 := (hb.cell (p := ⟨w.heap.size, 6, none⟩) LW).trans b6
  replace b7 := (hb.cell (p := ⟨w.heap.size, 7, none⟩) LW).trans b7
  replace b8 := (hb.cell (p := ⟨w.heap.size, 8, none⟩) LW).trans b8
  clear b0 b1 b2 b3
  replace LW := Nat.lt_of_lt_of_le LW hb.size
  have HH := Lib.hid (H.out.below HD)
  have M0 := Lib.hid (hA)
  clear hb hA hB H
  go_wp2_with fail
  go_loopw [3, 4] (fun v i wr => ∃ (k g cp : Nat), i = .int .i64 k ∧ v = .slice (some ⟨g, 0, none⟩) (k + 1) cp ∧ k ≤ l.length ∧ Hid (wr.ownsRow V.heap.size 23 2 (.slice (some ⟨g, 0, none⟩) (k + 1) cp) (k + 1) (pflat ((midZ x0 x2, midZ x1 x3) :: ptsOf (l.take k)))) ∧ V.heap.size ≤ g ∧ g < wr.heap.size ∧ Below V.heap.size V wr) (fun _ i _ => l.length - (intOf i).toNat)
  case atStart => exact ⟨0, V.heap.size, 1, rfl, rfl, Nat.zero_le _, Lib.hid (World.ownsRow_lit V #[.int .i64 (midZ x0 x2), .int .i64 (midZ x1 x3)] 1 (Nat.le_refl _) (by unfold maxLen; omega) rfl), Nat.le_refl _, by simp, (by repeat (first | with_reducible exact Below.refl _ _ | with_reducible assumption | with_reducible refine Below.drew ?_ | with_reducible refine Below.alloc ?_ (by first | exact Nat.le_refl _ | (simp; done) | (simp; omega) | omega) _ | with_reducible refine Below.setCell ?_ (by first | exact Nat.le_refl _ | (simp; done) | (simp; omega) | omega) _ | with_reducible refine Below.trans ?_ (Below.mono (by with_reducible assumption) (by first | exact Nat.le_refl _ | (simp; done) | (simp; omega) | omega))))⟩
  case round =>
    obtain ⟨k, g, cp, rfl, rfl, hk, hor, hg1, hg2, hbl⟩ := hrel
    have c4 := (hbl.cell (p := ⟨w.heap.size, 4, none⟩) LW).trans b4
    have c5 := (hbl.cell (p := ⟨w.heap.size, 5, none⟩) LW).trans b5
    have c6 := (hbl.cell (p := ⟨w.heap.size, 6, none⟩) LW).trans b6
    have c7 := (hbl.cell (p := ⟨w.heap.size, 7, none⟩) LW).trans b7
    have c8 := (hbl.cell (p := ⟨w.heap.size, 8, none⟩) LW).trans b8
    have hz := hbl.size
    have hlw : w.heap.size < wr.heap.size := by omega
    by_cases h : k < l.length
    · obtain ⟨b, off, rfl, hlt, d0, d1, d2, d3, d4⟩ := mark_cell (HH.out.below hbl) h
      have h' : (k : Int) < (l.length : Int) := by omega
      have hm := Lib.hid (ptsOf_succ h)
      clear b4 b5 b6 b7 b8 c4 c5 c6 c7
      generalize mk l k = m at *
      obtain ⟨n0, u0, u1, u2, u3⟩ := m
      dsimp only at d0 d1 d2 d3 d4
      go_wp2_with (at_builtin; refine wpList_append_lies _ rfl _ _ 63 rfl V.heap.size 23 i0 _ 2 16 Tryz.underlying63 hi ti0 ti1 ti2 rfl (by decide) (.slice (some ⟨g, 0, none⟩) (k + 1) cp) (k + 1) (pflat ((midZ x0 x2, midZ x1 x3) :: ptsOf (l.take k))) rfl (by repeat (first | with_reducible exact hor.out | with_reducible refine World.ownsRow.alloc ?_ _ | with_reducible refine ownsRow_setCell_other ?_ (by simp [Value.ownBlock]; omega) _ | with_reducible refine World.ownsRow.drew ?_)) ⟨wr.heap.size, 0, none⟩ 1 1 [.int .i64 u0, .int .i64 u1] rfl rfl (World.news_of_block (pheap_new (by simp))) (one2 _ _) (by decide) (by unfold maxLen; omega) (by omega) (by simp; omega) (wr.heap.size + 1) (by simp) ?_; intro g' cp' w1 hown1 hgrow1 hat1 hlt1)
      have hG := pgrown_below (base := V.heap.size) hgrow1 (by simp; omega) (by intro j e; simp [Value.ownBlock] at e; omega)
      have HB1 : Below V.heap.size V w1 := Below.trans (by exact (by repeat (first | with_reducible exact Below.refl _ _ | with_reducible assumption | with_reducible refine Below.drew ?_ | with_reducible refine Below.alloc ?_ (by first | exact Nat.le_refl _ | (simp; done) | (simp; omega) | omega) _ | with_reducible refine Below.setCell ?_ (by first | exact Nat.le_refl _ | (simp; done) | (simp; omega) | omega) _ | with_reducible refine Below.trans ?_ (Below.mono (by with_reducible assumption) (by first | exact Nat.le_refl _ | (simp; done) | (simp; omega) | omega))))) hG
      have hga : V.heap.size ≤ g' := by rcases hat1 with e | e; (simp [Value.ownBlock] at e; omega); omega
      clear hG hgrow1 hat1
      go_wp2
      refine ⟨⟨k + 1, g', cp', by simp, rfl, by omega, Lib.hid ?_, hga, hlt1, HB1⟩, by simp [intOf]; omega⟩
      rw [hm.out]
      have := hown1
      rw [show pflat ((midZ x0 x2, midZ x1 x3) :: ptsOf (l.take k)) ++ [.int .i64 u0, .int .i64 u1] = pflat ((midZ x0 x2, midZ x1 x3) :: (ptsOf (l.take k) ++ [(u0, u1)])) by rw [← List.cons_append, pflat_append]; rfl] at this
      exact this
    · have hkl := Lib.hid (show k = l.length by omega)
      have h' : (l.length : Int) ≤ (k : Int) := by omega
      have h'' : ¬ (k : Int) < (l.length : Int) := by omega
      clear b4 b5 b6 b7 b8
      go_wp2_with fail
      refine (l04Middle_c x4 x5 x6 x7 wr hC hD).mono ?_
      rintro e X ⟨rfl, hbX⟩
      have hor1 := Lib.hid (pown_below hor.out hbX)
      replace hbl := hbl.trans (hbX.mono hbl.size)
      replace hg2 := Nat.lt_of_lt_of_le hg2 hbX.size
      have hzX := hbX.size
      clear hbX c4 c5 c6 c7 c8 hor
      have hor := hor1
      clear hor1
      go_wp2_with (at_builtin; refine wpList_append_lies _ rfl _ _ 63 rfl V.heap.size 23 i0 _ 2 16 Tryz.underlying63 hi ti0 ti1 ti2 rfl (by decide) (.slice (some ⟨g, 0, none⟩) (k + 1) cp) (k + 1) (pflat ((midZ x0 x2, midZ x1 x3) :: ptsOf (l.take k))) rfl (by repeat (first | with_reducible exact hor.out | with_reducible refine World.ownsRow.alloc ?_ _ | with_reducible refine ownsRow_setCell_other ?_ (by simp [Value.ownBlock]; omega) _ | with_reducible refine World.ownsRow.drew ?_)) ⟨X.heap.size, 0, none⟩ 1 1 [.int .i64 (midZ x4 x6), .int .i64 (midZ x5 x7)] rfl rfl (World.news_of_block (pheap_new (by simp))) (one2 _ _) (by decide) (by unfold maxLen; omega) (by omega) (by simp; omega) (X.heap.size + 1) (by simp) ?_; intro g' cp' w1 hown1 hgrow1 hat1 hlt1)
      have hG := pgrown_below (base := V.heap.size) hgrow1 (by simp; omega) (by intro j e; simp [Value.ownBlock] at e; omega)
      have HB1 : Below V.heap.size V w1 := Below.trans (by exact (by repeat (first | with_reducible exact Below.refl _ _ | with_reducible assumption | with_reducible refine Below.drew ?_ | with_reducible refine Below.alloc ?_ (by first | exact Nat.le_refl _ | (simp; done) | (simp; omega) | omega) _ | with_reducible refine Below.setCell ?_ (by first | exact Nat.le_refl _ | (simp; done) | (simp; omega) | omega) _ | with_reducible refine Below.trans ?_ (Below.mono (by with_reducible assumption) (by first | exact Nat.le_refl _ | (simp; done) | (simp; omega) | omega))))) hG
      clear hG hgrow1
      rw [show pflat ((midZ x0 x2, midZ x1 x3) :: ptsOf (l.take k)) ++ [.int .i64 (midZ x4 x6), .int .i64 (midZ x5 x7)] = pflat ((midZ x0 x2, midZ x1 x3) :: (ptsOf l ++ [(midZ x4 x6, midZ x5 x7)])) by rw [hkl.out, List.take_length, ← List.cons_append, pflat_append]; rfl] at hown1
      go_wp2
      go_ret
      exact ⟨⟨g', cp', congrArg (fun n : Nat => Ending.returned (Value.slice (some ⟨g', 0, none⟩) (n + 2) cp')) hkl.out, by rw [← hkl.out]; exact pown_mono hown1 HD.size⟩, HD.trans (HB1.mono HD.size)⟩
end Go.Proofs.YtjgndfphbmkhaaaGreatDoor
