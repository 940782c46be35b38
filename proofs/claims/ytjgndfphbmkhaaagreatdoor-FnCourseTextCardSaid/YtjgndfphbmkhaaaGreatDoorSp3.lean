/-
  The words of a text, both sides; a point read from words; a row of numbers. Conditions: the text is short.
  Numbers and points read from words, both sides. Conditions: the words lie in the world, the library's variables hold what they hold.
  Reading a course: what a reader answers; a course's block in the midst of a statement. No condition.
-/
import Derived.Test.YtjgndfphbmkhaaaGreatDoorSpl
import Derived.Test.YtjgndfphbmkhaaaGreatDoorRd6
import Derived.Test.YtjgndfphbmkhaaaGreatDoorCrsI
import Derived.Test.YtjgndfphbmkhaaaGreatDoorShelfC
import Derived.Test.YtjgndfphbmkhaaaGreatDoorH4
import Derived.Deep.AppendLies
import Derived.Test.YtjgndfphbmkhaaaGreatDoorCrsZ
import Derived.Test.YtjgndfphbmkhaaaGreatDoorTxt7
import Derived.Test.YtjgndfphbmkhaaaGreatDoorCrsU
namespace Go.Proofs.YtjgndfphbmkhaaaGreatDoor
section
set_option linter.unusedVariables false
open Go.RowKit Go.Deep

def wflat (ws : List ByteArray) : List Value := ws.map Value.string
theorem wflat_snoc (ws : List ByteArray) (u : ByteArray) : wflat ws ++ [.string u] = wflat (ws ++ [u]) := by simp [wflat]
theorem wflat_len (ws : List ByteArray) : (wflat ws).length = ws.length := by simp [wflat]
theorem wflat_get {ws : List ByteArray} {i : Nat} (h : i < ws.length) : (wflat ws)[i]? = some (.string (wd ws i)) := by
  unfold wflat
  rw [List.getElem?_map, wd_get h]; rfl
theorem oneS (u : ByteArray) : ∀ v ∈ [Value.string u], v.oneCell' = true := fun v h => by
  rw [List.mem_singleton] at h; subst h; rfl
theorem oneI (u : Int) : ∀ v ∈ [Value.int .i64 u], v.oneCell' = true := fun v h => by
  rw [List.mem_singleton] at h; subst h; rfl
theorem kept_grownS {w w' : World} {g : Nat} (h : w.grownBy w' (some g)) : Kept g w w' := ⟨h.os, h.tape, h.output, h.size, fun k hk hn => h.block k hk (fun e => hn (Option.some.inj e))⟩
theorem infoStrS : (Tryz.prog.info? 9).map (fun i => (i.zero, i.size, i.bytes)) = some (some (.string ByteArray.empty), 1, 16) := by kernel_rfl
/-- a word's cell -/
theorem wd_cell {w : World} {g : Nat} {ws : List ByteArray} (h : RowAt w (some ⟨g, 0, none⟩) (wflat ws)) {i : Nat} (hi : i < ws.length) : w.cell? ⟨g, i, none⟩ = some (.string (wd ws i)) := by
  obtain ⟨b, off, ha, _, hc⟩ := h i _ (wflat_get hi)
  simp at ha
  obtain ⟨rfl, rfl⟩ := ha
  rw [Nat.zero_add] at hc
  exact hc
set_option maxRecDepth 100000 in
set_option maxHeartbeats 4000000 in
theorem l01Split_c (s : ByteArray) (w : World) (hs : s.size ≤ 1048576) : Calls Tryz.prog 18 #[.string s, .int .u8 32] w fun e w' => (∃ g cp : Nat, e = .returned (.slice (some ⟨g, 0, none⟩) (wordsB s).length cp) ∧ RowAt w' (some ⟨g, 0, none⟩) (wflat (wordsB s)) ∧ w.heap.size ≤ g ∧ g < w'.heap.size) ∧ Below w.heap.size w w' := by
  obtain ⟨i0, hi, ti0, ti1, ti2⟩ := info_parts infoStrS
  go_enter Tryz.func18, Tryz.ntmps18
  go_wp2_with fail
  go_loopw [5, 6, 7] (fun o fv iv wr => ∃ (g cp f i : Nat) (ws : List ByteArray), o = .slice (some ⟨g, 0, none⟩) ws.length cp ∧ fv = .int .i64 f ∧ iv = .int .i64 i ∧ Hid (SpI s ws f i) ∧ Hid (wr.ownsRow w.heap.size 9 1 (.slice (some ⟨g, 0, none⟩) ws.length cp) ws.length (wflat ws)) ∧ g < wr.heap.size ∧ w.heap.size ≤ g ∧ Below w.heap.size w wr) (fun _ _ i _ => s.size + 1 - (intOf i).toNat)
  case atStart => exact ⟨w.heap.size, 0, 0, 0, [], rfl, rfl, rfl, Lib.hid (spI_0 s), Lib.hid (World.ownsRow_lit w #[] 0 (Nat.le_refl _) (by unfold maxLen; omega) rfl), by simp, Nat.le_refl _, (by repeat (first | with_reducible exact Below.refl _ _ | with_reducible assumption | with_reducible refine Below.drew ?_ | with_reducible refine Below.alloc ?_ (by first | exact Nat.le_refl _ | (simp; done) | (simp; omega) | omega) _ | with_reducible refine Below.setCell ?_ (by first | exact Nat.le_refl _ | (simp; done) | (simp; omega) | omega) _ | with_reducible refine Below.trans ?_ (Below.mono (by with_reducible assumption) (by first | exact Nat.le_refl _ | (simp; done) | (simp; omega) | omega))))⟩
  case round =>
    obtain ⟨g, cp, f, i, ws, rfl, rfl, rfl, hS, hO, hlt, hg1, HD⟩ := hrel
    have hle := spI_le hS.out
    have hwz := HD.size
    by_cases h : i ≤ s.size
    · have hf := spI_fr hS.out h
      have h' : (i : Int) ≤ (s.size : Int) := by omega
      have hf' : (f : Int) ≤ (i : Int) := by omega
      have w1 : IntKind.i64.wrap ((i : Int) + 1) = (i : Int) + 1 := by rw [IntKind.wrap_i64]; omega
      by_cases he : i = s.size
      · subst he
        have HE := Lib.hid (spI_end hS.out)
        clear hS
        go_wp2_with (at_builtin; refine wpList_append_lies _ rfl _ _ 41 rfl w.heap.size 9 i0 _ 1 16 Tryz.underlying41 hi ti0 ti1 ti2 rfl (by decide) (.slice (some ⟨g, 0, none⟩) ws.length cp) ws.length (wflat ws) rfl (by repeat (first | with_reducible exact hO.out | with_reducible refine World.ownsRow.alloc ?_ _ | with_reducible refine World.ownsRow.drew ?_)) ⟨wr.heap.size, 0, none⟩ 1 1 [.string (s.extract f s.size)] rfl rfl (World.news_of_block (pheap_new (by simp))) (oneS _) (by decide) (by unfold maxLen; omega) (by omega) (by simp; omega) (wr.heap.size + 1) (by simp) ?_; intro g' cp' w1 hown1 hgrow1 hat1 hlt1)
        have hkS : Kept g wr w1 := Kept.trans (Kept.alloc (Kept.refl _ _) _) (kept_grownS hgrow1)
        have hD2 := HD.trans (hkS.below hg1 hwz)
        go_wp2_with fail
        exact ⟨⟨g', cp', s.size + 1, s.size + 1, ws ++ [s.extract f s.size], by simp, by simp, by simp, Lib.hid (HE.out), Lib.hid (by rw [show (ws ++ [s.extract f s.size]).length = ws.length + 1 by simp, ← wflat_snoc]; exact hown1), hlt1, by rcases hat1 with e | e; (have e3 : g = g' := Option.some.inj e; omega); first | omega | (simp at e; omega), hD2⟩, by first | (simp [intOf]; done) | (simp [intOf]; omega)⟩
      · have he' : ((i : Int) == (s.size : Int)) = false := by simp; omega
        have hx : i < s.size := by omega
        have hx' : (i : Int) < (s.size : Int) := by omega
        have eb := bytR_at s i hx
        by_cases hb : bytR s i = 32
        · have e32 : (((s[i]'hx).toNat : Int) == 32) = true := by rw [eb, hb]; rfl
          have HE := Lib.hid (spI_cut hS.out hx hb)
          clear hS eb hb he
          go_wp2_with (at_builtin; refine wpList_append_lies _ rfl _ _ 41 rfl w.heap.size 9 i0 _ 1 16 Tryz.underlying41 hi ti0 ti1 ti2 rfl (by decide) (.slice (some ⟨g, 0, none⟩) ws.length cp) ws.length (wflat ws) rfl (by repeat (first | with_reducible exact hO.out | with_reducible refine World.ownsRow.alloc ?_ _ | with_reducible refine World.ownsRow.drew ?_)) ⟨wr.heap.size, 0, none⟩ 1 1 [.string (s.extract f i)] rfl rfl (World.news_of_block (pheap_new (by simp))) (oneS _) (by decide) (by unfold maxLen; omega) (by omega) (by simp; omega) (wr.heap.size + 1) (by simp) ?_; intro g' cp' w1 hown1 hgrow1 hat1 hlt1)
          have hkS : Kept g wr w1 := Kept.trans (Kept.alloc (Kept.refl _ _) _) (kept_grownS hgrow1)
          have hD2 := HD.trans (hkS.below hg1 hwz)
          go_wp2_with fail
          exact ⟨⟨g', cp', i + 1, i + 1, ws ++ [s.extract f i], by simp, by simp, by simp, Lib.hid (HE.out), Lib.hid (by rw [show (ws ++ [s.extract f i]).length = ws.length + 1 by simp, ← wflat_snoc]; exact hown1), hlt1, by rcases hat1 with e | e; (have e3 : g = g' := Option.some.inj e; omega); first | omega | (simp at e; omega), hD2⟩, by first | (simp [intOf]; done) | (simp [intOf]; omega)⟩
        · have hn : ¬ (bytR s i).toNat = 32 := fun e => hb (by rw [← UInt8.ofNat_toNat (x := bytR s i), e]; rfl)
          have e32 : (((s[i]'hx).toNat : Int) == 32) = false := by rw [eb]; simp; omega
          have HE := Lib.hid (spI_skip hS.out hx hb)
          clear hS eb hb he hn
          go_wp2_with fail
          exact ⟨⟨g, cp, f, i + 1, ws, rfl, rfl, by simp, HE, hO, hlt, hg1, HD⟩, by simp [intOf]; omega⟩
    · have h' : (s.size : Int) < (i : Int) := by omega
      have HE := Lib.hid (spI_fin hS.out (by omega))
      clear hS
      go_wp2_with fail
      exact bodyPost_ret (v := .slice (some ⟨g, 0, none⟩) ws.length cp) (by simp [results, Tryz.results18, go_sem]) rfl ⟨⟨g, cp, by rw [← HE.out], by rw [← HE.out]; exact rowAt_own hO.out, hg1, hlt⟩, HD⟩
theorem split_c (s : ByteArray) (m : Int) (w : World) (hs : s.size ≤ 1048576) (hm : w.cell? ⟨0, 0, none⟩ = some (.int .i64 m)) : Calls Tryz.prog 21 #[.string s, .string ⟨#[32]⟩] w fun e w' => (∃ g cp : Nat, e = .returned (.slice (some ⟨g, 0, none⟩) (wordsB s).length cp) ∧ RowAt w' (some ⟨g, 0, none⟩) (wflat (wordsB s)) ∧ w.heap.size ≤ g ∧ g < w'.heap.size ∧ (wordsB s).length ≤ cp) ∧ Below w.heap.size w w' := by
  refine (Tryz.strings_Split s ⟨#[32]⟩ m w (by omega) hm (by decide)).mono ?_
  rintro e w' ⟨rfl, rfl⟩
  rw [splitB_words _ s rfl, ← words_len]
  have ho := World.ownsRow_lit (base := w.heap.size) (e := 9) (size := 1) w ((wordsB s).map Value.string).toArray (wordsB s).length (Nat.le_refl _) (by have := words_le s; unfold maxLen; omega) (by simp)
  exact ⟨⟨_, _, rfl, by have := rowAt_own ho; simpa [wflat] using this, Nat.le_refl _, by simp, Nat.le_refl _⟩, (Below.refl _ _).alloc (Nat.le_refl _) _⟩
end

section
set_option linter.unusedVariables false
open Go.RowKit Go.Deep

def ifl (ns : List Int) : List Value := ns.map (Value.int .i64)
theorem ifl_snoc (ns : List Int) (u : Int) : ifl ns ++ [.int .i64 u] = ifl (ns ++ [u]) := by simp [ifl]
theorem ifl_len (ns : List Int) : (ifl ns).length = ns.length := by simp [ifl]
/-- a number of a row -/
def nm (ns : List Int) (i : Nat) : Int := ns.getD i 0
theorem ifl_get {ns : List Int} {i : Nat} (h : i < ns.length) : (ifl ns)[i]? = some (.int .i64 (nm ns i)) := by
  unfold ifl nm
  rw [List.getElem?_map, List.getElem?_eq_getElem h, List.getD_eq_getElem?_getD, List.getElem?_eq_getElem h]; rfl
theorem nm_cell {w : World} {g : Nat} {ns : List Int} (h : RowAt w (some ⟨g, 0, none⟩) (ifl ns)) {i : Nat} (hi : i < ns.length) : w.cell? ⟨g, i, none⟩ = some (.int .i64 (nm ns i)) := by
  obtain ⟨b, off, ha, _, hc⟩ := h i _ (ifl_get hi)
  simp at ha
  obtain ⟨rfl, rfl⟩ := ha
  rw [Nat.zero_add] at hc
  exact hc
/-- the first numbers of a row are the words' -/
def NsOf (ws : List ByteArray) (ns : List Int) : Prop := ∀ i, i < ns.length → NumOf (wd ws i) (nm ns i)
theorem nsOf_nil (ws : List ByteArray) : NsOf ws [] := fun i h => absurd h (Nat.not_lt_zero _)
theorem nsOf_snoc {ws : List ByteArray} {ns : List Int} {u : Int} (h : NsOf ws ns) (hu : NumOf (wd ws ns.length) u) : NsOf ws (ns ++ [u]) := fun i hi => by
  rw [List.length_append, List.length_singleton] at hi
  unfold nm
  rw [List.getD_eq_getElem?_getD]
  rcases Nat.lt_or_ge i ns.length with g | g
  · rw [List.getElem?_append_left g]
    have := h i g
    unfold nm at this
    rwa [List.getD_eq_getElem?_getD] at this
  · obtain rfl : i = ns.length := by omega
    rw [List.getElem?_append_right (Nat.le_refl _), Nat.sub_self]
    exact hu
theorem infoIntS : (Tryz.prog.info? 2).map (fun i => (i.zero, i.size, i.bytes)) = some (some (.int .i64 0), 1, 8) := by kernel_rfl
theorem lv_num {s : ByteArray} {n : Int} {ok : Bool} (h : LvP s n ok) : NumOf s n := fun m h0 h1 e => (h.2.2 m h0 h1 e).2
set_option maxRecDepth 100000 in
set_option maxHeartbeats 4000000 in
theorem numbersOf_c (gw cw : Nat) (ws : List ByteArray) (w : World) (hl : ws.length ≤ 2000) (hsz : ∀ i, (wd ws i).size ≤ 1048576) (hr : RowAt w (some ⟨gw, 0, none⟩) (wflat ws)) (hg : gw < w.heap.size) (ht : NumT w) : Calls Tryz.prog 22 #[.slice (some ⟨gw, 0, none⟩) ws.length cw] w fun e w' => (∃ (g cp : Nat) (ns : List Int), e = .returned (.slice (some ⟨g, 0, none⟩) ws.length cp) ∧ ns.length = ws.length ∧ NsOf ws ns ∧ RowAt w' (some ⟨g, 0, none⟩) (ifl ns) ∧ w.heap.size ≤ g ∧ g < w'.heap.size ∧ ws.length ≤ cp) ∧ Below w.heap.size w w' := by
  obtain ⟨i0, hi, ti0, ti1, ti2⟩ := info_parts infoIntS
  have HR := Lib.hid hr
  have HT := Lib.hid ht
  have HZ := Lib.hid hsz
  clear hr ht hsz
  go_enter Tryz.func22, Tryz.ntmps22
  go_wp2_with fail
  go_loopw [3, 11] (fun o iv wr => ∃ (g cp : Nat) (ns : List Int), o = .slice (some ⟨g, 0, none⟩) ns.length cp ∧ iv = .int .i64 (ns.length : Int) ∧ ns.length ≤ ws.length ∧ Hid (NsOf ws ns) ∧ Hid (wr.ownsRow w.heap.size 2 1 (.slice (some ⟨g, 0, none⟩) ns.length cp) ns.length (ifl ns)) ∧ g < wr.heap.size ∧ w.heap.size ≤ g ∧ Below w.heap.size w wr) (fun _ i _ => ws.length - (intOf i).toNat)
  case atStart => exact ⟨w.heap.size, 0, [], rfl, rfl, Nat.zero_le _, Lib.hid (nsOf_nil ws), Lib.hid (World.ownsRow_lit w #[] 0 (Nat.le_refl _) (by unfold maxLen; omega) rfl), by simp, Nat.le_refl _, (by repeat (first | with_reducible exact Below.refl _ _ | with_reducible assumption | with_reducible refine Below.drew ?_ | with_reducible refine Below.alloc ?_ (by first | exact Nat.le_refl _ | (simp; done) | (simp; omega) | omega) _ | with_reducible refine Below.setCell ?_ (by first | exact Nat.le_refl _ | (simp; done) | (simp; omega) | omega) _ | with_reducible refine Below.trans ?_ (Below.mono (by with_reducible assumption) (by first | exact Nat.le_refl _ | (simp; done) | (simp; omega) | omega))))⟩
  case round =>
    obtain ⟨g, cp, ns, rfl, rfl, hle, hS, hO, hlt, hg1, HD⟩ := hrel
    by_cases h : ns.length < ws.length
    · have h' : (ns.length : Int) < (ws.length : Int) := by omega
      have hc := wd_cell (HR.out.below HD) h
      have hgr : gw < wr.heap.size := Nat.lt_of_lt_of_le hg HD.size
      have CN := Lib.hid (fun w ht => number_c (wd ws ns.length) w (HZ.out _) ht)
      have HNS := Lib.hid (fun u hu => nsOf_snoc (u := u) hS.out hu)
      generalize wd ws ns.length = x at *
      go_wp2_with fail
      refine (CN.out _ (HT.out.below HD)).mono ?_
      rintro e V1 ⟨⟨v, ok, hP, rfl⟩, hb⟩
      have HN := Lib.hid (HNS.out v (lv_num hP))
      replace HD := HD.trans (hb.mono HD.size)
      replace hO := Lib.hid (pown_below hO.out hb)
      replace hlt := Nat.lt_of_lt_of_le hlt hb.size
      have hwz := HD.size
      clear hc CN HNS hP hb hgr
      go_wp2_with (at_builtin; refine wpList_append_lies _ rfl _ _ 49 rfl w.heap.size 2 i0 _ 1 8 Tryz.underlying49 hi ti0 ti1 ti2 rfl (by decide) (.slice (some ⟨g, 0, none⟩) ns.length cp) ns.length (ifl ns) rfl (by repeat (first | with_reducible exact hO.out | with_reducible refine World.ownsRow.alloc ?_ _ | with_reducible refine World.ownsRow.drew ?_)) ⟨V1.heap.size, 0, none⟩ 1 1 [.int .i64 v] rfl rfl (World.news_of_block (pheap_new (by simp))) (oneI _) (by decide) (by unfold maxLen; omega) (by omega) (by simp; omega) (V1.heap.size + 1) (by simp) ?_; intro g' cp' w1 hown1 hgrow1 hat1 hlt1)
      have hkS : Kept g V1 w1 := Kept.trans (Kept.alloc (Kept.refl _ _) _) (kept_grownS hgrow1)
      have hD2 := HD.trans (hkS.below hg1 hwz)
      go_wp2_with fail
      exact ⟨⟨g', cp', ns ++ [v], by simp, by simp, by simp; omega, HN, Lib.hid (by rw [show (ns ++ [v]).length = ns.length + 1 by simp, ← ifl_snoc]; exact hown1), hlt1, by rcases hat1 with e | e; (have e3 : g = g' := Option.some.inj e; omega); first | omega | (simp at e; omega), hD2⟩, by simp [intOf]; omega⟩
    · have h' : ¬ (ns.length : Int) < (ws.length : Int) := by omega
      have HE := Lib.hid (show ns.length = ws.length by omega)
      have hcap : ns.length ≤ cp := by
        rcases hO.out.2 with ⟨hn, _⟩ | ⟨g2, cap2, cur2, hv, _, _, hnc, _⟩
        · simp at hn
        · simp at hv; omega
      go_wp2_with fail
      exact bodyPost_ret (v := .slice (some ⟨g, 0, none⟩) ns.length cp) (by simp [results, Tryz.results22, go_sem]) rfl ⟨⟨g, cp, (show (Ending.returned (.slice (some ⟨g, 0, none⟩) ns.length cp) : Ending) = .returned (.slice (some ⟨g, 0, none⟩) ws.length cp) from by rw [HE.out]), ns, HE.out, hS.out, rowAt_own hO.out, hg1, hlt, by have := HE.out; omega⟩, HD⟩
set_option maxRecDepth 100000 in
set_option maxHeartbeats 4000000 in
theorem l04Read_c (gw cw : Nat) (ws : List ByteArray) (k : Nat) (w : World) (hl : ws.length ≤ 2000000) (hk : k + 1 < ws.length) (hsz : ∀ i, (wd ws i).size ≤ 1048576) (hr : RowAt w (some ⟨gw, 0, none⟩) (wflat ws)) (hg : gw < w.heap.size) : Calls Tryz.prog 19 #[.slice (some ⟨gw, 0, none⟩) ws.length cw, .int .i64 (k : Int)] w fun e w' => (∃ x y : Int, e = .returned (.agg #[.int .i64 x, .int .i64 y]) ∧ NumOf (wd ws k) x ∧ NumOf (wd ws (k + 1)) y) ∧ Below w.heap.size w w' := by
  have c0 := wd_cell hr (show k < ws.length by omega)
  have c1 := wd_cell hr hk
  have C0 := Lib.hid (fun w => l01Value_c (wd ws k) w (hsz _))
  have C1 := Lib.hid (fun w => l01Value_c (wd ws (k + 1)) w (hsz _))
  clear hr hsz
  generalize wd ws k = x0 at *
  generalize wd ws (k + 1) = x1 at *
  have i0 : (k : Int) < (ws.length : Int) := by omega
  have i1 : IntKind.i64.wrap ((k : Int) + 1) = (k : Int) + 1 := by rw [IntKind.wrap_i64]; omega
  have i2 : (k : Int) + 1 < (ws.length : Int) := by omega
  have i3 : ((k : Int) + 1).toNat = k + 1 := by omega
  have i4 : (0 : Int) ≤ (k : Int) + 1 := by omega
  have i5 : k < ws.length := by omega
  go_enter Tryz.func19, Tryz.ntmps19
  go_wp2_with fail
  refine (C0.out _).mono ?_
  rintro e V1 ⟨⟨v0, ok0, hP0, rfl⟩, hb1⟩
  have H0 := Lib.hid (lv_num hP0)
  have HB1 := Lib.hid hb1
  have hz1 := hb1.size
  simp only [World.size_alloc] at hz1
  replace c1 := (((Below.refl w.heap.size w).alloc (Nat.le_refl _) _).trans (hb1.mono (by simp))).cell (p := ⟨gw, k + 1, none⟩) hg |>.trans c1
  have hg1 : gw < V1.heap.size := by omega
  have b0 : V1.cell? ⟨w.heap.size, 0, none⟩ = some (.int .i64 0) := (hb1.cell (p := ⟨w.heap.size, 0, none⟩) (by simp)).trans (by simp [go_sem])
  have b1 : V1.cell? ⟨w.heap.size, 1, none⟩ = some (.int .i64 0) := (hb1.cell (p := ⟨w.heap.size, 1, none⟩) (by simp)).trans (by simp [go_sem])
  have bf : ∀ o, V1.frozen? ⟨w.heap.size, o, none⟩ = false := fun o => (hb1.frozen (p := ⟨w.heap.size, o, none⟩) (by simp)).trans (World.frozen?_alloc_at _ _ _ _ rfl)
  have hw1 : w.heap.size < V1.heap.size := by omega
  clear hP0 hb1 c0
  go_wp2_with fail
  refine (C1.out _).mono ?_
  rintro e V2 ⟨⟨v1, ok1, hP1, rfl⟩, hb2⟩
  have H1 := Lib.hid (lv_num hP1)
  replace b0 := (hb2.cell (p := ⟨w.heap.size, 0, none⟩) hw1).trans b0
  replace b1 := (hb2.cell (p := ⟨w.heap.size, 1, none⟩) hw1).trans b1
  replace bf := fun o => (hb2.frozen (p := ⟨w.heap.size, o, none⟩) hw1).trans (bf o)
  have hD : Below w.heap.size w V2 := (((Below.refl w.heap.size w).alloc (Nat.le_refl _) _).trans (HB1.out.mono (by simp))).trans (hb2.mono (by omega))
  have hw2 := Nat.lt_of_lt_of_le hw1 hb2.size
  clear hP1 hb2 c1 HB1
  go_wp2_with fail
  exact bodyPost_ret (v := .agg #[.int .i64 v0, .int .i64 v1]) (by simp [results, Tryz.results19, go_sem, b0, b1]) rfl ⟨⟨_, _, rfl, H0.out, H1.out⟩, (by repeat (first | with_reducible exact Below.refl _ _ | with_reducible assumption | with_reducible refine Below.drew ?_ | with_reducible refine Below.alloc ?_ (by first | exact Nat.le_refl _ | (simp; done) | (simp; omega) | omega) _ | with_reducible refine Below.setCell ?_ (by first | exact Nat.le_refl _ | (simp; done) | (simp; omega) | omega) _ | with_reducible refine Below.trans ?_ (Below.mono (by with_reducible assumption) (by first | exact Nat.le_refl _ | (simp; done) | (simp; omega) | omega))))⟩
set_option maxRecDepth 100000 in
set_option maxHeartbeats 4000000 in
theorem lineOf_c (g off cp : Nat) (x0 x1 x2 x3 : Int) (w : World) (hg : g < w.heap.size) (c0 : w.cell? ⟨g, off, none⟩ = some (.int .i64 x0)) (c1 : w.cell? ⟨g, off + 1, none⟩ = some (.int .i64 x1)) (c2 : w.cell? ⟨g, off + 2, none⟩ = some (.int .i64 x2)) (c3 : w.cell? ⟨g, off + 3, none⟩ = some (.int .i64 x3)) : Calls Tryz.prog 23 #[.slice (some ⟨g, off, none⟩) 4 cp] w fun e w' => e = .returned (.agg #[.int .i64 x0, .int .i64 x1, .int .i64 x2, .int .i64 x3]) ∧ Below w.heap.size w w' := by
  go_enter Tryz.func23, Tryz.ntmps23
  go_upto_region 1 with fail
  go_region_held3 (fun wx => Below w.heap.size w wx ∧ ∀ b o, b < w.heap.size → wx.cell? ⟨b, o, none⟩ = w.cell? ⟨b, o, none⟩)
    (repeat (first | with_reducible assumption | with_reducible exact (held_set (held_set (held_set (held_set (by with_reducible assumption) (by first | exact Nat.le_refl _ | (simp; done) | (simp; omega) | omega) _) (by first | exact Nat.le_refl _ | (simp; done) | (simp; omega) | omega) _) (by first | exact Nat.le_refl _ | (simp; done) | (simp; omega) | omega) _) (by first | exact Nat.le_refl _ | (simp; done) | (simp; omega) | omega) _) | with_reducible exact held_step (by assumption) hb | with_reducible refine held_alloc ?_ _ | with_reducible exact held_start _ _ | with_reducible exact held_begin _))
    (fail)
  all_goals go_wp2_with fail
  all_goals exact bodyPost_ret (v := .agg #[.int .i64 x0, .int .i64 x1, .int .i64 x2, .int .i64 x3]) (by simp [results, Tryz.results23, go_sem]) rfl ⟨rfl, (by repeat (first | with_reducible exact Below.refl _ _ | with_reducible assumption | with_reducible refine Below.drew ?_ | with_reducible refine Below.alloc ?_ (by first | exact Nat.le_refl _ | (simp; done) | (simp; omega) | omega) _ | with_reducible refine Below.setCell ?_ (by first | exact Nat.le_refl _ | (simp; done) | (simp; omega) | omega) _ | with_reducible refine Below.trans ?_ (Below.mono (by with_reducible assumption) (by first | exact Nat.le_refl _ | (simp; done) | (simp; omega) | omega))))⟩
end

section
set_option linter.unusedVariables false
open Go.RowKit Go.Deep

/-- what a reader of courses answers: a course whose text this is, and every course's text is read -/
def RcP (s : ByteArray) (x0 x1 x2 x3 x4 x5 x6 x7 : Int) (l : List Mk) (ok : Bool) : Prop :=
  (ok = true → s = ctR x0 x1 x2 x3 x4 x5 x6 x7 l ∧ 1 ≤ s.size) ∧ (ok = false → x0 = 0 ∧ x1 = 0 ∧ x2 = 0 ∧ x3 = 0 ∧ x4 = 0 ∧ x5 = 0 ∧ x6 = 0 ∧ x7 = 0 ∧ l = []) ∧
  ∀ (z0 z1 z2 z3 z4 z5 z6 z7 : Int) (k : List Mk), s = ctR z0 z1 z2 z3 z4 z5 z6 z7 k → 1 ≤ s.size → ok = true ∧ x0 = z0 ∧ x1 = z1 ∧ x2 = z2 ∧ x3 = z3 ∧ x4 = z4 ∧ x5 = z5 ∧ x6 = z6 ∧ x7 = z7 ∧ l = k
/-- no course has this text -/
def NoCrs (s : ByteArray) : Prop := ∀ (z0 z1 z2 z3 z4 z5 z6 z7 : Int) (k : List Mk), s = ctR z0 z1 z2 z3 z4 z5 z6 z7 k → ¬ 1 ≤ s.size
theorem rcp_no {s : ByteArray} (h : NoCrs s) : RcP s 0 0 0 0 0 0 0 0 [] false :=
  ⟨fun e => (by cases e), fun _ => ⟨rfl, rfl, rfl, rfl, rfl, rfl, rfl, rfl, rfl⟩, fun z0 z1 z2 z3 z4 z5 z6 z7 k e h1 => absurd h1 (h z0 z1 z2 z3 z4 z5 z6 z7 k e)⟩
theorem rcp_yes {s : ByteArray} {x0 x1 x2 x3 x4 x5 x6 x7 : Int} {l : List Mk} (h : CrRd (wordsB s) x0 x1 x2 x3 x4 x5 x6 x7 l) (e : s = ctR x0 x1 x2 x3 x4 x5 x6 x7 l) (h1 : 1 ≤ s.size) : RcP s x0 x1 x2 x3 x4 x5 x6 x7 l true :=
  ⟨fun _ => ⟨e, h1⟩, fun e => (by cases e), fun z0 z1 z2 z3 z4 z5 z6 z7 k e2 h2 => ⟨rfl, rd_crs e2 h2 h⟩⟩
theorem noCrs_ne {s : ByteArray} {x0 x1 x2 x3 x4 x5 x6 x7 : Int} {l : List Mk} (h : CrRd (wordsB s) x0 x1 x2 x3 x4 x5 x6 x7 l) (e : s ≠ ctR x0 x1 x2 x3 x4 x5 x6 x7 l) : NoCrs s := fun z0 z1 z2 z3 z4 z5 z6 z7 k e2 h2 => by
  obtain ⟨r0, r1, r2, r3, r4, r5, r6, r7, rl⟩ := rd_crs e2 h2 h
  exact e (by rw [r0, r1, r2, r3, r4, r5, r6, r7, rl]; exact e2)
theorem rcp_same {s : ByteArray} {x0 x1 x2 x3 x4 x5 x6 x7 y0 y1 y2 y3 y4 y5 y6 y7 : Int} {l k : List Mk} {a b : Bool} (h : RcP s x0 x1 x2 x3 x4 x5 x6 x7 l a) (g : RcP s y0 y1 y2 y3 y4 y5 y6 y7 k b) :
    x0 = y0 ∧ x1 = y1 ∧ x2 = y2 ∧ x3 = y3 ∧ x4 = y4 ∧ x5 = y5 ∧ x6 = y6 ∧ x7 = y7 ∧ l = k ∧ a = b := by
  cases b
  · cases a
    · obtain ⟨e0, e1, e2, e3, e4, e5, e6, e7, e8⟩ := h.2.1 rfl
      obtain ⟨f0, f1, f2, f3, f4, f5, f6, f7, f8⟩ := g.2.1 rfl
      subst_vars
      exact ⟨rfl, rfl, rfl, rfl, rfl, rfl, rfl, rfl, rfl, rfl⟩
    · obtain ⟨e, e1⟩ := h.1 rfl
      have := (g.2.2 _ _ _ _ _ _ _ _ _ e e1).1
      cases this
  · obtain ⟨e, e1⟩ := g.1 rfl
    obtain ⟨h0, h1, h2, h3, h4, h5, h6, h7, h8, h9⟩ := h.2.2 _ _ _ _ _ _ _ _ _ e e1
    exact ⟨h1, h2, h3, h4, h5, h6, h7, h8, h9, h0⟩
theorem rcp_len {s : ByteArray} {x0 x1 x2 x3 x4 x5 x6 x7 : Int} {l : List Mk} {ok : Bool} (h : RcP s x0 x1 x2 x3 x4 x5 x6 x7 l ok) : l.length ≤ 8 ∧ ∀ i, i < l.length → (mk l i).name.size ≤ 8 := by
  cases ok
  · obtain ⟨_, _, _, _, _, _, _, _, e⟩ := h.2.1 rfl
    rw [e]
    exact ⟨Nat.zero_le _, fun i hi => absurd hi (Nat.not_lt_zero _)⟩
  · obtain ⟨e, e1⟩ := h.1 rfl
    obtain ⟨h1, h2, h3⟩ := ctR_ok (e ▸ e1)
    obtain ⟨_, _, _, l8, hm, _⟩ := courseOK_true h1
    exact ⟨l8, fun i hi => (mkT (hm i hi).1).1⟩
/-- the answer, as it lies in the world -/
def RcE (s : ByteArray) (base : Nat) (e : Ending) (w' : World) : Prop := ∃ (x0 x1 x2 x3 x4 x5 x6 x7 : Int) (l : List Mk) (ok : Bool) (a : Option Addr) (cp : Nat), RcP s x0 x1 x2 x3 x4 x5 x6 x7 l ok ∧
  e = .returned (.tuple #[.agg #[.int .i64 x0, .int .i64 x1, .int .i64 x2, .int .i64 x3, .int .i64 x4, .int .i64 x5, .int .i64 x6, .int .i64 x7, .slice a l.length cp], .bool ok]) ∧ w'.ownsRow base 47 5 (.slice a l.length cp) l.length (mflat l)
theorem rce_no {s : ByteArray} {base : Nat} {w' : World} (h : NoCrs s) : RcE s base (.returned (.tuple #[.agg #[.int .i64 0, .int .i64 0, .int .i64 0, .int .i64 0, .int .i64 0, .int .i64 0, .int .i64 0, .int .i64 0, .slice none 0 0], .bool false])) w' :=
  ⟨0, 0, 0, 0, 0, 0, 0, 0, [], false, none, 0, rcp_no h, rfl, World.ownsRow_nil _ _ _ _⟩
theorem rce_yes {s : ByteArray} {base : Nat} {w' : World} {x0 x1 x2 x3 x4 x5 x6 x7 : Int} {l : List Mk} {g cp : Nat} (h : RcP s x0 x1 x2 x3 x4 x5 x6 x7 l true) (ho : w'.ownsRow base 47 5 (.slice (some ⟨g, 0, none⟩) l.length cp) l.length (mflat l)) : RcE s base (.returned (.tuple #[.agg #[.int .i64 x0, .int .i64 x1, .int .i64 x2, .int .i64 x3, .int .i64 x4, .int .i64 x5, .int .i64 x6, .int .i64 x7, .slice (some ⟨g, 0, none⟩) l.length cp], .bool true])) w' :=
  ⟨x0, x1, x2, x3, x4, x5, x6, x7, l, true, some ⟨g, 0, none⟩, cp, h, rfl, ho⟩
/-- a course's block -/
structure Blk9 (C : Nat) (x0 x1 x2 x3 x4 x5 x6 x7 : Int) (u : Value) (X : World) : Prop where
  c0 : X.cell? ⟨C, 0, none⟩ = some (.int .i64 x0)
  c1 : X.cell? ⟨C, 1, none⟩ = some (.int .i64 x1)
  c2 : X.cell? ⟨C, 2, none⟩ = some (.int .i64 x2)
  c3 : X.cell? ⟨C, 3, none⟩ = some (.int .i64 x3)
  c4 : X.cell? ⟨C, 4, none⟩ = some (.int .i64 x4)
  c5 : X.cell? ⟨C, 5, none⟩ = some (.int .i64 x5)
  c6 : X.cell? ⟨C, 6, none⟩ = some (.int .i64 x6)
  c7 : X.cell? ⟨C, 7, none⟩ = some (.int .i64 x7)
  c8 : X.cell? ⟨C, 8, none⟩ = some u
  lt : C < X.heap.size
  fr : ∀ o, X.frozen? ⟨C, o, none⟩ = false
theorem Blk9.below {C : Nat} {x0 x1 x2 x3 x4 x5 x6 x7 : Int} {u : Value} {X Y : World} {n : Nat} (h : Blk9 C x0 x1 x2 x3 x4 x5 x6 x7 u X) (hb : Below n X Y) (hn : C < n) : Blk9 C x0 x1 x2 x3 x4 x5 x6 x7 u Y := by
  have hc := fun o => hb.cell (p := ⟨C, o, none⟩) hn
  have hf := fun o => hb.frozen (p := ⟨C, o, none⟩) hn
  exact ⟨(hc 0).trans h.c0, (hc 1).trans h.c1, (hc 2).trans h.c2, (hc 3).trans h.c3, (hc 4).trans h.c4, (hc 5).trans h.c5, (hc 6).trans h.c6, (hc 7).trans h.c7, (hc 8).trans h.c8, Nat.lt_of_lt_of_le h.lt hb.size, fun o => (hf o).trans (h.fr o)⟩
theorem Blk9.far {C : Nat} {x0 x1 x2 x3 x4 x5 x6 x7 : Int} {u : Value} {X : World} (h : Blk9 C x0 x1 x2 x3 x4 x5 x6 x7 u X) {D o : Nat} (hD : D ≠ C) (v : Value) : Blk9 C x0 x1 x2 x3 x4 x5 x6 x7 u (X.setCell ⟨D, o, none⟩ v) := by
  have hc : ∀ j, (X.setCell ⟨D, o, none⟩ v).cell? ⟨C, j, none⟩ = X.cell? ⟨C, j, none⟩ := fun j => World.cell?_setCell_other _ _ _ _ (by first | (simp; done) | (simp; omega))
  exact ⟨(hc 0).trans h.c0, (hc 1).trans h.c1, (hc 2).trans h.c2, (hc 3).trans h.c3, (hc 4).trans h.c4, (hc 5).trans h.c5, (hc 6).trans h.c6, (hc 7).trans h.c7, (hc 8).trans h.c8, by simpa [World.setCell] using h.lt, fun j => (World.frozen?_setCell ..).trans (h.fr j)⟩
theorem Blk9.set8 {C : Nat} {x0 x1 x2 x3 x4 x5 x6 x7 : Int} {u : Value} {X : World} (h : Blk9 C x0 x1 x2 x3 x4 x5 x6 x7 u X) (v : Value) : Blk9 C x0 x1 x2 x3 x4 x5 x6 x7 v (X.setCell ⟨C, 8, none⟩ v) := by
  have hc : ∀ j, j < 8 → (X.setCell ⟨C, 8, none⟩ v).cell? ⟨C, j, none⟩ = X.cell? ⟨C, j, none⟩ := fun j hj => World.cell?_setCell_other _ _ _ _ (by first | (simp; done) | (simp; omega))
  exact ⟨(hc 0 (by decide)).trans h.c0, (hc 1 (by decide)).trans h.c1, (hc 2 (by decide)).trans h.c2, (hc 3 (by decide)).trans h.c3, (hc 4 (by decide)).trans h.c4, (hc 5 (by decide)).trans h.c5, (hc 6 (by decide)).trans h.c6, (hc 7 (by decide)).trans h.c7, World.cell?_setCell_same _ _ _ h.c8, by simpa [World.setCell] using h.lt, fun j => (World.frozen?_setCell ..).trans (h.fr j)⟩
theorem Blk9.set47 {C : Nat} {x0 x1 x2 x3 x4 x5 x6 x7 : Int} {u : Value} {X : World} (h : Blk9 C x0 x1 x2 x3 x4 x5 x6 x7 u X) (y4 y5 y6 y7 : Int) : Blk9 C x0 x1 x2 x3 y4 y5 y6 y7 u ((((X.setCell ⟨C, 4, none⟩ (.int .i64 y4)).setCell ⟨C, 5, none⟩ (.int .i64 y5)).setCell ⟨C, 6, none⟩ (.int .i64 y6)).setCell ⟨C, 7, none⟩ (.int .i64 y7)) := by
  have o1 : ∀ (Y : World) (j k : Nat) (v : Value), j ≠ k → (Y.setCell ⟨C, k, none⟩ v).cell? ⟨C, j, none⟩ = Y.cell? ⟨C, j, none⟩ := fun Y j k v hj => World.cell?_setCell_other _ _ _ _ (by first | (simp; done) | (simp; omega))
  have s1 : ∀ (Y : World) (k : Nat) (u v : Value), Y.cell? ⟨C, k, none⟩ = some u → (Y.setCell ⟨C, k, none⟩ v).cell? ⟨C, k, none⟩ = some v := fun Y k u v hj => World.cell?_setCell_same _ _ _ hj
  have far : ∀ j u, j ≠ 4 → j ≠ 5 → j ≠ 6 → j ≠ 7 → X.cell? ⟨C, j, none⟩ = some u → ((((X.setCell ⟨C, 4, none⟩ (.int .i64 y4)).setCell ⟨C, 5, none⟩ (.int .i64 y5)).setCell ⟨C, 6, none⟩ (.int .i64 y6)).setCell ⟨C, 7, none⟩ (.int .i64 y7)).cell? ⟨C, j, none⟩ = some u := fun j u h4 h5 h6 h7 hu => by
    rw [o1 _ _ _ _ h7, o1 _ _ _ _ h6, o1 _ _ _ _ h5, o1 _ _ _ _ h4]; exact hu
  refine ⟨far 0 _ (by decide) (by decide) (by decide) (by decide) h.c0, far 1 _ (by decide) (by decide) (by decide) (by decide) h.c1, far 2 _ (by decide) (by decide) (by decide) (by decide) h.c2, far 3 _ (by decide) (by decide) (by decide) (by decide) h.c3, ?_, ?_, ?_, ?_, far 8 _ (by decide) (by decide) (by decide) (by decide) h.c8, by simpa [World.setCell] using h.lt, fun j => ?_⟩
  · rw [o1 _ _ _ _ (by decide), o1 _ _ _ _ (by decide), o1 _ _ _ _ (by decide)]; exact s1 _ _ _ _ h.c4
  · rw [o1 _ _ _ _ (by decide), o1 _ _ _ _ (by decide)]; exact s1 _ _ _ _ ((o1 _ _ _ _ (by decide)).trans h.c5)
  · rw [o1 _ _ _ _ (by decide)]; exact s1 _ _ _ _ ((o1 _ _ _ _ (by decide)).trans ((o1 _ _ _ _ (by decide)).trans h.c6))
  · exact s1 _ _ _ _ ((o1 _ _ _ _ (by decide)).trans ((o1 _ _ _ _ (by decide)).trans ((o1 _ _ _ _ (by decide)).trans h.c7)))
  · exact (World.frozen?_setCell ..).trans ((World.frozen?_setCell ..).trans ((World.frozen?_setCell ..).trans ((World.frozen?_setCell ..).trans (h.fr j))))
theorem wpNamedZ {P : Program} {c : Code} {Q : Exit → Act → World → Prop} {ac : Act} {w : World} (h : ∀ Y, Y = w → Code.wp P c Q ac Y) : Code.wp P c Q ac w := h w rfl
theorem rowAt_setZ {X : World} {a : Option Addr} {xs : List Value} (h : RowAt X a xs) {C o : Nat} (hC : ∀ b off, a = some ⟨b, off, none⟩ → b ≠ C) (v : Value) : RowAt (X.setCell ⟨C, o, none⟩ v) a xs := fun i u hu => by
  obtain ⟨b, off, ha, hlt, hc⟩ := h i u hu
  have := hC b off ha
  exact ⟨b, off, ha, by simpa [World.setCell] using hlt, (World.cell?_setCell_other _ _ _ _ (by first | (simp; done) | (simp; omega))).trans hc⟩
theorem mk_snocZ (L : List Mk) (m : Mk) : mk (L ++ [m]) L.length = m := by
  unfold mk
  rw [List.getD_eq_getElem?_getD, List.getElem?_append_right (Nat.le_refl _), Nat.sub_self]; rfl
theorem mk_oldZ {L : List Mk} {m : Mk} {i : Nat} (h : i < L.length) : mk (L ++ [m]) i = mk L i := by
  unfold mk
  rw [List.getD_eq_getElem?_getD, List.getD_eq_getElem?_getD, List.getElem?_append_left h]
/-- the marks read so far -/
def MsRd (ws : List ByteArray) (L : List Mk) : Prop := ∀ j, j < L.length → MkRd ws j (mk L j)
theorem msRd_nil (ws : List ByteArray) : MsRd ws [] := fun j h => absurd h (Nat.not_lt_zero _)
theorem msRd_snoc {ws : List ByteArray} {L : List Mk} {m : Mk} (h : MsRd ws L) (hm : MkRd ws L.length m) : MsRd ws (L ++ [m]) := fun j hj => by
  rw [List.length_append, List.length_singleton] at hj
  rcases Nat.lt_or_ge j L.length with g | g
  · rw [mk_oldZ g]; exact h j g
  · obtain rfl : j = L.length := by omega
    rw [mk_snocZ]; exact hm
theorem mflat_snocZ (L : List Mk) (m : Mk) : mflat (L ++ [m]) = mflat L ++ [.string m.name, .int .i64 m.x, .int .i64 m.y, .int .i64 m.s, .int .i64 m.z] := by rw [mflat_append]; rfl
theorem oneMk (s : ByteArray) (a b c d : Int) : ∀ u ∈ [Value.string s, .int .i64 a, .int .i64 b, .int .i64 c, .int .i64 d], u.oneCell' = true := fun u h => by
  simp only [List.mem_cons, List.not_mem_nil, or_false] at h
  rcases h with rfl | rfl | rfl | rfl | rfl <;> rfl
theorem msRd_sizes {s : ByteArray} {L : List Mk} (h : MsRd (wordsB s) L) (i : Nat) (hi : i < L.length) : (mk L i).name.size ≤ s.size := by
  rw [(h i hi).1]; exact wd_size s _
def sbB : ByteArray := ⟨#[115, 116, 97, 114, 98, 111, 97, 114, 100]⟩
theorem sbB_list : sbB.toList = [115, 116, 97, 114, 98, 111, 97, 114, 100] := by
  unfold sbB
  first | rfl | decide | simp
end
end Go.Proofs.YtjgndfphbmkhaaaGreatDoor
