/-
  The laws' own functions on courses: sizes, copies, equality. Conditions stand with each.
-/
import Derived.Test.YtbeigoejdckpiaaDoorCrsF
namespace Go.Proofs.YtbeigoejdckpiaaDoor
set_option linter.unusedVariables false
open Go.RowKit Go.Deep

theorem below_hid {n : Nat} {w w' : World} (h : Hid (Below n w w')) : Below n w w' := h.out
set_option maxHeartbeats 400000 in
theorem szMark_c (m : Mk) (left : Int) (w : World) (hs : m.name.size ≤ maxLen) (h0 : 0 ≤ left) (h1 : left ≤ 1048576) : Calls Tryd.prog 75 #[.agg #[.string m.name, .int .i64 m.x, .int .i64 m.y, .int .i64 m.s, .int .i64 m.z], .int .i64 left] w fun e w' => (∃ z : Int, e = .returned (.int .i64 z) ∧ -1 ≤ z ∧ z ≤ left) ∧ Below w.heap.size w w' := by
  have hm9 : maxLen ≤ 9223372036854775807 := by decide
  have hs' := Nat.le_trans hs hm9
  obtain ⟨n, x, y, s, z⟩ := m
  dsimp only at *
  clear hs hm9
  generalize hk : n.size = k at *
  by_cases h : left - (k : Int) < 0
  · go_enter Tryd.func75, Tryd.ntmps75
    go_wp2
    go_ret
    exact ⟨⟨-1, rfl, by omega, by omega⟩, (by repeat (first | with_reducible exact Below.refl _ _ | with_reducible assumption | with_reducible refine Below.drew ?_ | with_reducible refine Below.alloc ?_ (by first | exact Nat.le_refl _ | (simp; done) | (simp; omega) | omega) _ | with_reducible refine Below.setCell ?_ (by first | exact Nat.le_refl _ | (simp; done) | (simp; omega) | omega) _ | with_reducible refine Below.trans ?_ (Below.mono (by with_reducible assumption) (by first | exact Nat.le_refl _ | (simp; done) | (simp; omega) | omega))))⟩
  · go_enter Tryd.func75, Tryd.ntmps75
    go_wp2
    go_ret
    exact ⟨⟨left - k, by first | rfl | (simp [*]; done), by omega, by omega⟩, (by repeat (first | with_reducible exact Below.refl _ _ | with_reducible assumption | with_reducible refine Below.drew ?_ | with_reducible refine Below.alloc ?_ (by first | exact Nat.le_refl _ | (simp; done) | (simp; omega) | omega) _ | with_reducible refine Below.setCell ?_ (by first | exact Nat.le_refl _ | (simp; done) | (simp; omega) | omega) _ | with_reducible refine Below.trans ?_ (Below.mono (by with_reducible assumption) (by first | exact Nat.le_refl _ | (simp; done) | (simp; omega) | omega))))⟩
set_option maxRecDepth 100000 in
set_option maxHeartbeats 2000000 in
theorem szMarkS_c (a : Option Addr) (cap : Nat) (l : List Mk) (left : Int) (w : World) (hn : l.length ≤ 9223372036854775807) (h : RowAt w a (mflat l)) (hs : ∀ i, i < l.length → (mk l i).name.size ≤ maxLen) (h0 : 0 ≤ left) (h1 : left ≤ 1048576) : Calls Tryd.prog 45 #[.slice a l.length cap, .int .i64 left] w fun e w' => (∃ z : Int, e = .returned (.int .i64 z) ∧ (0 ≤ z → (l.length : Int) ≤ left)) ∧ Below w.heap.size w w' := by
  have HS := Lib.hid (And.intro h hs)
  clear h hs
  by_cases hc : left - (l.length : Int) < 0
  · go_enter Tryd.func45, Tryd.ntmps45
    go_wp2_with fail
    go_ret
    exact ⟨⟨-1, rfl, by omega⟩, Below.refl _ _⟩
  · have HL := Lib.hid (show (l.length : Int) ≤ left by omega)
    have hl2 : (l.length : Int) ≤ 1048576 := by omega
    go_enter Tryd.func45, Tryd.ntmps45
    go_wp2_with fail
    generalize hq : left - (l.length : Int) = q at *
    have hq1 : 0 ≤ q := by omega
    have hq2 : q ≤ 1048576 := by omega
    clear hq hc h0 h1
    go_loopw [1, 5] (fun y x wr => ∃ (k : Nat) (z : Int), x = .int .i64 k ∧ y = .int .i64 z ∧ 0 ≤ z ∧ z ≤ 1048576 ∧ k ≤ l.length ∧ Below w.heap.size w wr) (fun _ x _ => l.length - (intOf x).toNat)
    case atStart => exact ⟨0, q, rfl, rfl, hq1, hq2, Nat.zero_le _, Below.refl _ _⟩
    case round =>
      obtain ⟨k, z, rfl, rfl, hz1, hz2, hk, hbl⟩ := hrel
      by_cases hlt : k < l.length
      · have h' : (k : Int) < (l.length : Int) := by omega
        obtain ⟨b, off, rfl, hb, c0, c1, c2, c3, c4⟩ := mark_cell (HS.out.1.below hbl) hlt
        have hsz := HS.out.2 k hlt
        generalize mk l k = m at *
        have hcall := fun w => szMark_c m z w hsz hz1 hz2
        obtain ⟨n0, u0, u1, u2, u3⟩ := m
        dsimp only at c0 c1 c2 c3 c4 hcall
        clear hsz
        go_wp2_with (go_at_call 75; refine (hcall _).mono ?_; rintro e w1 ⟨⟨z', rfl, hz3, hz4⟩, hb1⟩)
        all_goals first
          | (go_ret; exact ⟨⟨-1, rfl, fun _ => HL.out⟩, hbl.trans (hb1.mono hbl.size)⟩)
          | exact ⟨⟨k + 1, z', by simp, rfl, by omega, by omega, by omega, hbl.trans (hb1.mono hbl.size)⟩, by simp [intOf]; omega⟩
      · have h' : ¬ (k : Int) < (l.length : Int) := by omega
        go_wp2_with fail
        go_ret
        exact ⟨⟨z, rfl, fun _ => HL.out⟩, hbl⟩
set_option maxRecDepth 100000 in
set_option maxHeartbeats 2000000 in
theorem szCourse_c (x0 x1 x2 x3 x4 x5 x6 x7 : Int) (a : Option Addr) (cap : Nat) (l : List Mk) (left : Int) (w : World) (hn : l.length ≤ 9223372036854775807) (h : RowAt w a (mflat l)) (hs : ∀ i, i < l.length → (mk l i).name.size ≤ maxLen) (h0 : 0 ≤ left) (h1 : left ≤ 1048576) :
    Calls Tryd.prog 12 #[.agg #[.int .i64 x0, .int .i64 x1, .int .i64 x2, .int .i64 x3, .int .i64 x4, .int .i64 x5, .int .i64 x6, .int .i64 x7, .slice a l.length cap], .int .i64 left] w fun e w' => (∃ z : Int, e = .returned (.int .i64 z) ∧ (0 ≤ z → (l.length : Int) ≤ left)) ∧ Below w.heap.size w w' := by
  obtain ⟨W, hW⟩ : ∃ W, W = w.alloc (.cells #[.int .i64 x0, .int .i64 x1, .int .i64 x2, .int .i64 x3, .int .i64 x4, .int .i64 x5, .int .i64 x6, .int .i64 x7, .slice a l.length cap] 28) := ⟨_, rfl⟩
  have HD : Below w.heap.size w W := by subst hW; exact (by repeat (first | with_reducible exact Below.refl _ _ | with_reducible assumption | with_reducible refine Below.drew ?_ | with_reducible refine Below.alloc ?_ (by first | exact Nat.le_refl _ | (simp; done) | (simp; omega) | omega) _ | with_reducible refine Below.setCell ?_ (by first | exact Nat.le_refl _ | (simp; done) | (simp; omega) | omega) _ | with_reducible refine Below.trans ?_ (Below.mono (by with_reducible assumption) (by first | exact Nat.le_refl _ | (simp; done) | (simp; omega) | omega))))
  have b8 : W.cell? ⟨w.heap.size, 8, none⟩ = some (.slice a l.length cap) := by subst hW; simp [go_sem]
  go_enter Tryd.func12, Tryd.ntmps12
  go_wp2_with fail
  rw [← hW]
  clear hW
  refine (szMarkS_c a cap l left W hn (h.below HD) hs h0 h1).mono ?_
  rintro e V ⟨⟨z, rfl, hz⟩, hb⟩
  go_wp2_with fail
  · go_ret
    exact ⟨⟨-1, rfl, by omega⟩, HD.trans (hb.mono HD.size)⟩
  · go_ret
    exact ⟨⟨z, rfl, hz⟩, HD.trans (hb.mono HD.size)⟩
set_option maxRecDepth 100000 in
set_option maxHeartbeats 2000000 in
theorem toMark_c (m : Mk) (w : World) : Calls Tryd.prog 79 #[.agg #[.string m.name, .int .i64 m.x, .int .i64 m.y, .int .i64 m.s, .int .i64 m.z]] w fun e w' => e = .returned (.agg #[.string m.name, .int .i64 m.x, .int .i64 m.y, .int .i64 m.s, .int .i64 m.z]) ∧ Below w.heap.size w w' := by
  obtain ⟨n, x, y, s, z⟩ := m
  dsimp only
  go_enter Tryd.func79, Tryd.ntmps79
  go_wp2_with (go_at_call 65; refine (toPoint_c _ _ _).mono ?_; rintro e w1 ⟨rfl, hb⟩; (try replace hb := below_trans (by with_reducible assumption) hb); obtain ⟨hc, hf⟩ := bcell hb; have hz := hb.size; (try simp at hz); (try have hz0 : w.heap.size ≤ w1.heap.size := by omega); (try have hz1 : w.heap.size < w1.heap.size := by omega); (try have hz2 : w.heap.size + 1 < w1.heap.size := by omega); (try have hz3 : w.heap.size + 1 + 1 < w1.heap.size := by omega); (try have hz4 : w.heap.size + 1 + 1 + 1 < w1.heap.size := by omega))
  exact bodyPost_ret (v := .agg #[.string n, .int .i64 x, .int .i64 y, .int .i64 s, .int .i64 z]) (by simp [results, Tryd.results79, go_sem, *]) rfl ⟨rfl, (by repeat (first | with_reducible exact Below.refl _ _ | with_reducible assumption | with_reducible refine Below.drew ?_ | with_reducible refine Below.alloc ?_ (by first | exact Nat.le_refl _ | (simp; done) | (simp; omega) | omega) _ | with_reducible refine Below.setCell ?_ (by first | exact Nat.le_refl _ | (simp; done) | (simp; omega) | omega) _ | with_reducible refine Below.trans ?_ (Below.mono (by with_reducible assumption) (by first | exact Nat.le_refl _ | (simp; done) | (simp; omega) | omega))))⟩
def mz0 : Mk := ⟨ByteArray.empty, 0, 0, 0, 0⟩
def mfill (l : List Mk) (k : Nat) : List Mk := l.take k ++ List.replicate (l.length - k) mz0
theorem mfill_len {l : List Mk} {k : Nat} (h : k ≤ l.length) : (mfill l k).length = l.length := by simp [mfill]; omega
theorem mfill_zero (l : List Mk) : mfill l 0 = List.replicate l.length mz0 := by simp [mfill]
theorem mfill_all (l : List Mk) : mfill l l.length = l := by simp [mfill]
theorem mfill_get {l : List Mk} {k : Nat} (h : k < l.length) : (mfill l k)[k]? = some mz0 := by
  unfold mfill
  rw [List.getElem?_append_right (by simp; omega), List.getElem?_replicate, if_pos (by simp; omega)]
theorem mfill_succ {l : List Mk} {k : Nat} (h : k < l.length) : (mfill l k).set k (mk l k) = mfill l (k + 1) := by
  unfold mfill
  rw [List.take_add_one, mk_of h, List.set_append_right _ _ (by simp; omega), show l.length - k = (l.length - (k + 1)) + 1 by omega, List.replicate_succ, List.append_assoc]
  simp [Nat.min_eq_left (Nat.le_of_lt h)]
theorem mflat_set : ∀ (l : List Mk) (k : Nat) (m : Mk), k < l.length → (((((mflat l).set (k * 5) (.string m.name)).set (k * 5 + 1) (.int .i64 m.x)).set (k * 5 + 2) (.int .i64 m.y)).set (k * 5 + 3) (.int .i64 m.s)).set (k * 5 + 4) (.int .i64 m.z) = mflat (l.set k m)
  | [], k, m, h => by simp at h
  | c :: l, 0, m, h => rfl
  | c :: l, k + 1, m, h => by
    have := mflat_set l k m (by simpa using h)
    rw [show (k + 1) * 5 = k * 5 + 1 + 1 + 1 + 1 + 1 by omega]
    simp only [mflat, List.set_cons_succ, show k * 5 + 1 + 1 + 1 + 1 + 1 + 1 = k * 5 + 1 + 1 + 1 + 1 + 1 + 1 from rfl, show k * 5 + 1 + 1 + 1 + 1 + 1 + 2 = (k * 5 + 2) + 1 + 1 + 1 + 1 + 1 by omega, show k * 5 + 1 + 1 + 1 + 1 + 1 + 3 = (k * 5 + 3) + 1 + 1 + 1 + 1 + 1 by omega, show k * 5 + 1 + 1 + 1 + 1 + 1 + 4 = (k * 5 + 4) + 1 + 1 + 1 + 1 + 1 by omega]
    rw [this]
theorem infoMk : (Tryd.prog.info? 64).map (fun i => (i.zero, i.size, i.bytes)) = some (some (.agg #[.string ByteArray.empty, .int .i64 0, .int .i64 0, .int .i64 0, .int .i64 0]), 5, 48) := by kernel_rfl
theorem made_mk (n : Nat) : (madeCells (Value.cells (.agg #[.string ByteArray.empty, .int .i64 0, .int .i64 0, .int .i64 0, .int .i64 0])) (n * 5)).toList = mflat (List.replicate n mz0) := by
  apply List.ext_getElem?
  intro j
  by_cases hj : j < n * 5
  · obtain ⟨f0, f1, f2, f3, f4⟩ := mflat_get (List.replicate n mz0) (j / 5) mz0 (by rw [List.getElem?_replicate, if_pos (by omega)])
    have : j % 5 = 0 ∨ j % 5 = 1 ∨ j % 5 = 2 ∨ j % 5 = 3 ∨ j % 5 = 4 := by omega
    rcases this with h | h | h | h | h
    · rw [show j / 5 * 5 = j by omega] at f0; rw [f0]; simp [madeCells, Value.cells, hj, h, mz0]
    · rw [show j / 5 * 5 + 1 = j by omega] at f1; rw [f1]; simp [madeCells, Value.cells, hj, h, mz0]
    · rw [show j / 5 * 5 + 2 = j by omega] at f2; rw [f2]; simp [madeCells, Value.cells, hj, h, mz0]
    · rw [show j / 5 * 5 + 3 = j by omega] at f3; rw [f3]; simp [madeCells, Value.cells, hj, h, mz0]
    · rw [show j / 5 * 5 + 4 = j by omega] at f4; rw [f4]; simp [madeCells, Value.cells, hj, h, mz0]
  · rw [show (mflat (List.replicate n mz0))[j]? = none from List.getElem?_eq_none (by rw [mflat_length, List.length_replicate]; omega)]
    simp [madeCells, Value.cells, hj]
set_option maxRecDepth 100000 in
set_option maxHeartbeats 4000000 in
theorem toMarkS_c (a : Option Addr) (cap : Nat) (l : List Mk) (w : World) (hl : l.length ≤ 1048576) (h : RowAt w a (mflat l)) : Calls Tryd.prog 50 #[.slice a l.length cap] w fun e w' => (∃ g : Nat, e = .returned (.slice (some ⟨g, 0, none⟩) l.length l.length) ∧ w'.ownsRow w.heap.size 64 5 (.slice (some ⟨g, 0, none⟩) l.length l.length) l.length (mflat l) ∧ w.heap.size ≤ g ∧ g < w'.heap.size) ∧ Below w.heap.size w w' := by
  obtain ⟨i0, hi, hz0, hz1, hz2⟩ := info_parts infoMk
  have H := Lib.hid h
  clear h
  go_enter Tryd.func50, Tryd.ntmps50
  go_wp2_with (at_make; refine wpList_make_full _ rfl _ _ 34 rfl w.heap.size 64 i0 _ 5 Tryd.underlying34 hi hz0 hz1 .i64 .i64 _ _ l.length rfl rfl rfl rfl (by rw [hz2]; omega) (by unfold maxLen; omega) (Nat.le_refl _) ?_; intro w1 hown hgrow)
  rw [made_mk, ← mfill_zero] at hown
  have hb0 : Below w.heap.size w w1 := ⟨hgrow.os, hgrow.tape, hgrow.output, hgrow.size, fun k hk => hgrow.block k hk (by simp)⟩
  have hlt0 : w.heap.size < w1.heap.size := by
    obtain ⟨_, h2⟩ := hown
    rcases h2 with ⟨h2, _⟩ | ⟨g', cap', cur, hv, hg, hh, _⟩
    · simp at h2
    · simp at hv
      obtain ⟨rfl, _⟩ := hv
      rcases Nat.lt_or_ge w.heap.size w1.heap.size with h' | h'
      · exact h'
      · rw [Array.getElem?_eq_none h'] at hh; cases hh
  clear hgrow
  go_loopw [4] (fun x wr => ∃ k : Nat, x = .int .i64 k ∧ k ≤ l.length ∧ Hid (wr.ownsRow w.heap.size 64 5 (.slice (some ⟨w.heap.size, 0, none⟩) l.length l.length) l.length (mflat (mfill l k))) ∧ w.heap.size < wr.heap.size ∧ Below w.heap.size w wr) (fun x _ => l.length - (intOf x).toNat)
  case atStart => exact ⟨0, rfl, Nat.zero_le _, Lib.hid hown, hlt0, hb0⟩
  case round =>
    obtain ⟨k, rfl, hk, ho, hlw, hbl⟩ := hrel
    by_cases h : k < l.length
    · obtain ⟨b, off, rfl, hb, c0, c1, c2, c3, c4⟩ := mark_cell (H.out.below hbl) h
      have h' : (k : Int) < (l.length : Int) := by omega
      have hS := Lib.hid (mflat_set (mfill l k) k (mk l k) (by rw [mfill_len hk]; exact h))
      have hT := Lib.hid (mfill_succ h)
      have hG := Lib.hid (mflat_get _ _ _ (mfill_get h))
      have HC := Lib.hid (fun w => toMark_c (mk l k) w)
      generalize mk l k = m at *
      obtain ⟨n0, u0, u1, u2, u3⟩ := m
      dsimp only at c0 c1 c2 c3 c4
      go_wp2_with (
        go_at_call 79; refine (HC.out _).mono ?_; rintro e w2 ⟨rfl, hb⟩
        have ho2 := pown_below ho.out hb
        have hb2 := hbl.trans (hb.mono hbl.size)
        have hl3 := Nat.lt_of_lt_of_le hlw hb.size
        obtain ⟨f0, f1, f2, f3, f4⟩ := hG.out
        have g0 := (ho2.cellAt (k * 5) (by omega)).trans f0
        have g1 := (ho2.cellAt (k * 5 + 1) (by omega)).trans f1
        have g2 := (ho2.cellAt (k * 5 + 2) (by omega)).trans f2
        have g3 := (ho2.cellAt (k * 5 + 3) (by omega)).trans f3
        have g4 := (ho2.cellAt (k * 5 + 4) (by omega)).trans f4
        have q0 := ho2.frozenAt (k * 5)
        have q1 := ho2.frozenAt (k * 5 + 1)
        have q2 := ho2.frozenAt (k * 5 + 2)
        have q3 := ho2.frozenAt (k * 5 + 3)
        have q4 := ho2.frozenAt (k * 5 + 4)
        clear f0 f1 f2 f3 f4 c0 c1 c2 c3 c4)
      refine ⟨⟨k + 1, by simp, by omega, ?_, ?_, ?_⟩, by simp [intOf]; omega⟩
      · have s3 := ((((ho2.stored (k * 5) (.string n0)).1.stored (k * 5 + 1) (.int .i64 u0)).1.stored (k * 5 + 2) (.int .i64 u1)).1.stored (k * 5 + 3) (.int .i64 u2)).1.stored (k * 5 + 4) (.int .i64 u3)
        rw [hS.out, hT.out] at s3
        exact Lib.hid s3.1
      · simp; omega
      · exact (by repeat (first | with_reducible exact Below.refl _ _ | with_reducible assumption | with_reducible refine Below.drew ?_ | with_reducible refine Below.alloc ?_ (by first | exact Nat.le_refl _ | (simp; done) | (simp; omega) | omega) _ | with_reducible refine Below.setCell ?_ (by first | exact Nat.le_refl _ | (simp; done) | (simp; omega) | omega) _ | with_reducible refine Below.trans ?_ (Below.mono (by with_reducible assumption) (by first | exact Nat.le_refl _ | (simp; done) | (simp; omega) | omega))))
    · have hkl := Lib.hid (show k = l.length by omega)
      have h' : ¬ (k : Int) < (l.length : Int) := by omega
      have ho2 := ho.out
      rw [hkl.out, mfill_all] at ho2
      go_wp2
      exact bodyPost_ret (v := .slice (some ⟨w.heap.size, 0, none⟩) l.length l.length) (by simp [results, Tryd.results50, go_sem]) rfl ⟨⟨_, rfl, ho2, Nat.le_refl _, hlw⟩, hbl⟩
end Go.Proofs.YtbeigoejdckpiaaDoor
