/-
  Two rows of fixes, one behind the other: the library's function that joins them. Conditions: the cells lie in the world; the rows are short and not empty.
-/
import Derived.Test.YtdepdkpehbkcjaaCut0
import Derived.Test.YtdepdkpehbkcjaaRows2
import Derived.Lib.AppendZeros
import Derived.Deep.AppendLies
namespace Go.Proofs.Ytdepdkpehbkcjaa
set_option linter.unusedVariables false
open Go.RowKit Go.Deep

theorem fix_news {w : World} {b off : Nat} {l : List Fx} (h : FixAt w (some ⟨b, off, none⟩) l) : ∀ j u, (flat l)[j]? = some u → w.cell? ((⟨b, off, none⟩ : Addr).add j) = some u := fun j u hu => by
  have hj : j < (flat l).length := (List.getElem?_eq_some_iff.1 hu).1
  rw [flat_length] at hj
  obtain ⟨i, r, hr, rfl⟩ : ∃ i r, r < 3 ∧ j = i * 3 + r := ⟨j / 3, j % 3, Nat.mod_lt _ (by omega), by omega⟩
  have hi : i < l.length := by omega
  obtain ⟨b', off', ha, _, c0, c1, c2⟩ := h i _ (fx_of hi)
  simp at ha
  obtain ⟨rfl, rfl⟩ := ha
  obtain ⟨f0, f1, f2⟩ := flat_get l i _ (fx_of hi)
  rw [add_none]
  match r, hr with
  | 0, _ => rw [Nat.add_zero, f0] at hu; rw [← hu]; exact c0
  | 1, _ => rw [f1] at hu; rw [← hu, ← Nat.add_assoc]; exact c1
  | 2, _ => rw [f2] at hu; rw [← hu, ← Nat.add_assoc]; exact c2
theorem flat_one : ∀ (l : List Fx), ∀ u ∈ flat l, u.oneCell' = true
  | [], u, hu => by simp [flat] at hu
  | f :: l, u, hu => by
    simp only [flat, List.mem_cons] at hu
    rcases hu with rfl | rfl | rfl | hu
    · rfl
    · rfl
    · rfl
    · exact flat_one l u hu
theorem infoFixJ : (Try.prog.info? 32).map (fun i => (i.zero, i.size, i.bytes)) = some (some (.agg #[.int .i64 0, .int .i64 0, .int .i64 0]), 3, 24) := by kernel_rfl
theorem own_zero {w : World} {base g cap : Nat} {e : TypeId} {cs : Array Value} (hb : base ≤ g) (hh : w.heap[g]? = some (.cells cs e (0, 0))) (hm : cap ≤ maxLen) (hs : cs.size = cap * 3) : w.ownsRow base e 3 (.slice (some ⟨g, 0, none⟩) 0 cap) 0 [] :=
  ⟨by simp, .inr ⟨g, cap, cs, rfl, hb, hh, Nat.zero_le _, hm, hs, by simp⟩⟩
set_option maxRecDepth 100000 in
set_option maxHeartbeats 1000000 in
theorem growFix_c (n : Nat) (w : World) (h0 : 0 < n) (hn : n ≤ 1000) : Calls Try.prog 109 #[.slice none 0 0, .int .i64 n] w fun e w' => (∃ (g cap : Nat), e = .returned (.slice (some ⟨g, 0, none⟩) 0 cap) ∧ w'.ownsRow w.heap.size 32 3 (.slice (some ⟨g, 0, none⟩) 0 cap) 0 [] ∧ w.heap.size ≤ g) ∧ Below w.heap.size w w' := by
  obtain ⟨i0, hi, ti0, ti1, ti2⟩ := info_parts infoFixJ
  have hn1 : 0 < (n : Int) := by omega
  have hr := Lib.run_append_nil_zeros (P := Try.prog) w 24 3 24 32 i0 _ .i64 .i64 Try.underlying24 Try.underlying3 hi ti0 n h0 (by rw [ti1]; omega) (by omega) (by rw [ti2]; omega)
  have hge := grownCap_ge w n 0 32
  have hcm := grownCap_le_maxLen w n 0 32 (by unfold maxLen; omega)
  have hsz : (Builtin.zeroCells (Value.cells (.agg #[.int .i64 0, .int .i64 0, .int .i64 0])) n ++ Builtin.zeroCells (Value.cells (.agg #[.int .i64 0, .int .i64 0, .int .i64 0])) (grownCap w n 0 32 - n)).size = grownCap w n 0 32 * 3 := by
    rw [Array.size_append, size_zeroCells, size_zeroCells, show (Value.cells (.agg #[.int .i64 0, .int .i64 0, .int .i64 0])).size = 3 from rfl, ← Nat.add_mul]
    congr 1; omega
  have HS := Lib.hid hsz
  have HR := Lib.hid hr
  clear hr hsz
  generalize grownCap w n 0 32 = gc at *
  go_enter Try.func109, Try.ntmps109
  go_wp2_with (at_builtin; refine Lib.wpList_append_run _ rfl _ _ 24 3 rfl (.slice none 0 0) (.int .i64 n) rfl rfl _ _ HR.out ?_)
  go_ret
  exact ⟨⟨w.heap.size, gc, rfl, own_zero (Nat.le_refl _) (heap_new rfl) hcm HS.out, Nat.le_refl _⟩, (by repeat (first | with_reducible exact Below.refl _ _ | with_reducible assumption | with_reducible refine Below.drew ?_ | with_reducible refine Below.alloc ?_ (by first | exact Nat.le_refl _ | (simp; done) | (simp; omega) | omega) _ | with_reducible refine Below.setCell ?_ (by first | exact Nat.le_refl _ | (simp; done) | (simp; omega) | omega) _ | with_reducible refine Below.trans ?_ (Below.mono (by with_reducible assumption) (by first | exact Nat.le_refl _ | (simp; done) | (simp; omega) | omega))))⟩
set_option maxRecDepth 100000 in
set_option maxHeartbeats 1000000 in
theorem concatFix_c (p b0 o0 b1 o1 c0 c1 : Nat) (l m : List Fx) (w : World) (hl : 0 < l.length) (hl2 : l.length ≤ 40) (hm : 0 < m.length) (hm2 : m.length ≤ 40) (k0 : w.cell? ⟨p, 0, none⟩ = some (.slice (some ⟨b0, o0, none⟩) l.length c0)) (k1 : w.cell? ⟨p, 1, none⟩ = some (.slice (some ⟨b1, o1, none⟩) m.length c1)) (hp : p < w.heap.size) (hf : FixAt w (some ⟨b0, o0, none⟩) l) (hg : FixAt w (some ⟨b1, o1, none⟩) m) : Calls Try.prog 74 #[.slice (some ⟨p, 0, none⟩) 2 2] w fun e w' => (∃ (g cap : Nat), e = .returned (.slice (some ⟨g, 0, none⟩) (l.length + m.length) cap) ∧ w'.ownsRow w.heap.size 32 3 (.slice (some ⟨g, 0, none⟩) (l.length + m.length) cap) (l.length + m.length) (flat l ++ flat m) ∧ w.heap.size ≤ g) ∧ Below w.heap.size w w' := by
  have hF := Lib.hid hf
  have hG := Lib.hid hg
  clear hf hg
  obtain ⟨i0, hi, ti0, ti1, ti2⟩ := info_parts infoFixJ
  have hn1 : (0 : Int) < l.length := by omega
  have hm1 : (0 : Int) < m.length := by omega
  go_enter Try.func74, Try.ntmps74
  go_wp2_with fail
  go_loop [3, 11] (fun x i => (x = .int .i64 0 ∧ i = .int .i64 0) ∨ (x = .int .i64 l.length ∧ i = .int .i64 1) ∨ (x = .int .i64 ((l.length : Int) + m.length) ∧ i = .int .i64 2)) (fun _ i => 2 - (intOf i).toNat)
  case atStart => exact .inl ⟨rfl, rfl⟩
  case round =>
    rcases hrel with ⟨rfl, rfl⟩ | ⟨rfl, rfl⟩ | ⟨rfl, rfl⟩
    · go_wp2
      go_round
      case rel => exact .inr (.inl ⟨rfl, rfl⟩)
      case measure => simp [intOf]
    · go_wp2
      go_round
      case rel => exact .inr (.inr ⟨rfl, rfl⟩)
      case measure => simp [intOf]
    · go_wp2_with fail
      have cg := growFix_c (l.length + m.length) w (by omega) (by omega)
      rw [Int.natCast_add] at cg
      refine cg.mono ?_
      rintro e W ⟨⟨g2, cp2, rfl, ho, hgg⟩, hb⟩
      have own2 := Lib.hid ho
      clear ho cg
      go_wp2_with fail
      go_loopw [6, 27] (fun v i wr => ∃ (k g cp n : Nat) (xs : List Value), v = .slice (some ⟨g, 0, none⟩) n cp ∧ i = .int .i64 k ∧ Hid ((k = 0 ∧ n = 0 ∧ xs = []) ∨ (k = 1 ∧ n = l.length ∧ xs = flat l) ∨ (k = 2 ∧ n = l.length + m.length ∧ xs = flat l ++ flat m)) ∧ Hid (wr.ownsRow w.heap.size 32 3 (.slice (some ⟨g, 0, none⟩) n cp) n xs) ∧ w.heap.size ≤ g ∧ g < wr.heap.size ∧ Below w.heap.size w wr) (fun _ i _ => 2 - (intOf i).toNat)
      case atStart => exact ⟨0, g2, cp2, 0, [], rfl, rfl, Lib.hid (.inl ⟨rfl, rfl, rfl⟩), own2, hgg, (own2.out.lt g2 rfl).2, hb⟩
      case round =>
      obtain ⟨k, g, cp, n, xs, rfl, rfl, hs, own, hg1, hg2, HB⟩ := hrel
      clear own2 hgg hb
      rcases hs.out with ⟨rfl, rfl, rfl⟩ | ⟨rfl, rfl, rfl⟩ | ⟨rfl, rfl, rfl⟩
      all_goals clear hs
      · have c := (HB.cell (p := ⟨p, 0, none⟩) hp).trans k0
        have FW := Lib.hid (FixAt.below hF.out HB)
        have hpr : p < wr.heap.size := Nat.lt_of_lt_of_le hp HB.size
        go_wp2_with (at_builtin; refine wpList_append_lies _ rfl _ _ 24 rfl w.heap.size 32 i0 _ 3 24 Try.underlying24 hi ti0 ti1 ti2 rfl (by decide) (.slice (some ⟨g, 0, none⟩) 0 cp) 0 ([]) rfl own.out ⟨b0, o0, none⟩ l.length _ (flat l) rfl (flat_length l) (fix_news FW.out) (flat_one l) (by omega) (by unfold maxLen; omega) (by omega) HB.size wr.heap.size rfl ?_; intro g' cp' w1 hown1 hgrow1 hat1 hlt1)
        have hG := grown_below (base := w.heap.size) hgrow1 HB.size (by intro j e; simp [Value.ownBlock] at e; omega)
        have HB1 : Below w.heap.size w w1 := Below.trans HB hG
        have hga : w.heap.size ≤ g' := by rcases hat1 with e | e; (simp [Value.ownBlock] at e; omega); (have := HB.size; omega)
        have HO := Lib.hid hown1
        clear hG hgrow1 hat1 hown1
        go_wp2
        exact ⟨⟨1, g', cp', l.length, flat l, by simp, rfl, Lib.hid (.inr (.inl ⟨rfl, rfl, rfl⟩)), Lib.hid (by have := HO.out; simpa using this), hga, hlt1, HB1⟩, by simp [intOf]⟩
      · have c := (HB.cell (p := ⟨p, 1, none⟩) hp).trans k1
        have FW := Lib.hid (FixAt.below hG.out HB)
        have hpr : p < wr.heap.size := Nat.lt_of_lt_of_le hp HB.size
        go_wp2_with (at_builtin; refine wpList_append_lies _ rfl _ _ 24 rfl w.heap.size 32 i0 _ 3 24 Try.underlying24 hi ti0 ti1 ti2 rfl (by decide) (.slice (some ⟨g, 0, none⟩) l.length cp) l.length (flat l) rfl own.out ⟨b1, o1, none⟩ m.length _ (flat m) rfl (flat_length m) (fix_news FW.out) (flat_one m) (by omega) (by unfold maxLen; omega) (by omega) HB.size wr.heap.size rfl ?_; intro g' cp' w1 hown1 hgrow1 hat1 hlt1)
        have hG := grown_below (base := w.heap.size) hgrow1 HB.size (by intro j e; simp [Value.ownBlock] at e; omega)
        have HB1 : Below w.heap.size w w1 := Below.trans HB hG
        have hga : w.heap.size ≤ g' := by rcases hat1 with e | e; (simp [Value.ownBlock] at e; omega); (have := HB.size; omega)
        have HO := Lib.hid hown1
        clear hG hgrow1 hat1 hown1
        go_wp2
        exact ⟨⟨2, g', cp', (l.length + m.length), (flat l ++ flat m), by rfl, rfl, Lib.hid (.inr (.inr ⟨rfl, rfl, rfl⟩)), HO, hga, hlt1, HB1⟩, by simp [intOf]⟩
      · go_wp2
        go_ret
        exact ⟨⟨g, cp, rfl, own.out, hg1⟩, HB⟩
end Go.Proofs.Ytdepdkpehbkcjaa
