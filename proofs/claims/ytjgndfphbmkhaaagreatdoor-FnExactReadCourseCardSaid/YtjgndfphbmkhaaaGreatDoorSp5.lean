/-
  Reading a course, the program's side. Conditions: the text is short, the library's variables hold what they hold.
-/
import Derived.Test.YtjgndfphbmkhaaaGreatDoorSp3
import Derived.Test.YtjgndfphbmkhaaaGreatDoorDraw
namespace Go.Proofs.YtjgndfphbmkhaaaGreatDoor
set_option linter.unusedVariables false
open Go.RowKit Go.Deep

/-- the library's variables that reading a course looks at -/
def RcT (w : World) : Prop := NumT w ∧ ∃ m, w.cell? ⟨0, 0, none⟩ = some (.int .i64 m)
theorem RcT.below {w w' : World} (h : RcT w) (hb : Below w.heap.size w w') : RcT w' := by
  obtain ⟨h1, m, hc⟩ := h
  exact ⟨h1.below hb, m, (hb.cell (p := ⟨_, 0, none⟩) (Lib.lt_of_cell hc)).trans hc⟩
theorem rowAt_keptZ {C : Nat} {X Y : World} {a : Option Addr} {xs : List Value} (h : RowAt X a xs) (hk : Kept C X Y) (hC : ∀ b off, a = some ⟨b, off, none⟩ → b ≠ C) : RowAt Y a xs := fun i u hu => by
  obtain ⟨b, off, ha, hlt, hc⟩ := h i u hu
  exact ⟨b, off, ha, Nat.lt_of_lt_of_le hlt hk.size, ((kcell hk).1 b _ hlt (hC b off ha)).trans hc⟩
theorem Blk9.kept {C D : Nat} {x0 x1 x2 x3 x4 x5 x6 x7 : Int} {u : Value} {X Y : World} (h : Blk9 D x0 x1 x2 x3 x4 x5 x6 x7 u X) (hk : Kept C X Y) (hD : D ≠ C) : Blk9 D x0 x1 x2 x3 x4 x5 x6 x7 u Y := by
  have hc := fun o => (kcell hk).1 D o h.lt hD
  have hf := fun o => (kcell hk).2 D o h.lt hD
  exact ⟨(hc 0).trans h.c0, (hc 1).trans h.c1, (hc 2).trans h.c2, (hc 3).trans h.c3, (hc 4).trans h.c4, (hc 5).trans h.c5, (hc 6).trans h.c6, (hc 7).trans h.c7, (hc 8).trans h.c8, Nat.lt_of_lt_of_le h.lt hk.size, fun o => (hf o).trans (h.fr o)⟩
theorem kheld_of {C : Nat} {W X : World} (h : Kept C W X) : Kept C W X ∧ ∀ b o, b < W.heap.size → b ≠ C → X.cell? ⟨b, o, none⟩ = W.cell? ⟨b, o, none⟩ := ⟨h, (kcell h).1⟩
theorem rowAt_ownA {w : World} {base size n cap : Nat} {a : Option Addr} {e : TypeId} {xs : List Value} (h : w.ownsRow base e size (.slice a n cap) n xs) : RowAt w a xs := row_ownP h h.1
theorem own_capZ {w : World} {base n cap size : Nat} {a : Option Addr} {e : TypeId} {xs : List Value} (h : w.ownsRow base e size (.slice a n cap) n xs) : n ≤ cap := by
  obtain ⟨h1, h2⟩ := h
  rcases h2 with ⟨h2, _⟩ | ⟨g', cap', cur, hv', hg, hh, hc, _⟩
  · simp at h2; omega
  · simp at hv'
    obtain ⟨_, rfl⟩ := hv'
    omega
theorem rce_yesA {s : ByteArray} {base : Nat} {w' : World} {x0 x1 x2 x3 x4 x5 x6 x7 : Int} {l : List Mk} {a : Option Addr} {cp : Nat} (h : RcP s x0 x1 x2 x3 x4 x5 x6 x7 l true) (ho : w'.ownsRow base 47 5 (.slice a l.length cp) l.length (mflat l)) : RcE s base (.returned (.tuple #[.agg #[.int .i64 x0, .int .i64 x1, .int .i64 x2, .int .i64 x3, .int .i64 x4, .int .i64 x5, .int .i64 x6, .int .i64 x7, .slice a l.length cp], .bool true])) w' :=
  ⟨x0, x1, x2, x3, x4, x5, x6, x7, l, true, a, cp, h, rfl, ho⟩
theorem alloc_keepZ {Y w1 : World} {cs : Array Value} {T : TypeId} (hb : Below (Y.alloc (.cells cs T)).heap.size (Y.alloc (.cells cs T)) w1) : (∀ o, w1.cell? ⟨Y.heap.size, o, none⟩ = cs[o]?) ∧ (∀ o, w1.frozen? ⟨Y.heap.size, o, none⟩ = false) ∧ Y.heap.size < w1.heap.size :=
  ⟨fun o => (hb.cell (p := ⟨Y.heap.size, o, none⟩) (by simp)).trans (cell_of_row (w := Y.alloc (.cells cs T)) Y.heap.size o cs T (0, 0) (heap_alloc_new Y _)), fun o => (hb.frozen (p := ⟨Y.heap.size, o, none⟩) (by simp)).trans (World.frozen?_alloc_at _ _ _ _ rfl), below_lt hb⟩
theorem alloc_keepZd {Y w1 : World} {cs : Array Value} {T : TypeId} (hb : Below (Y.alloc (.cells cs T)).drew.heap.size (Y.alloc (.cells cs T)).drew w1) : (∀ o, w1.cell? ⟨Y.heap.size, o, none⟩ = cs[o]?) ∧ (∀ o, w1.frozen? ⟨Y.heap.size, o, none⟩ = false) ∧ Y.heap.size < w1.heap.size :=
  alloc_keepZ (T := T) (cs := cs) ⟨hb.os, hb.tape, hb.output, hb.size, hb.block⟩
theorem alloc_keepZ2 {B : Nat} {w0 w1 : World} {cs : Array Value} (h : (∀ o, w0.cell? ⟨B, o, none⟩ = cs[o]?) ∧ (∀ o, w0.frozen? ⟨B, o, none⟩ = false) ∧ B < w0.heap.size) (hb : Below w0.heap.size w0 w1) : (∀ o, w1.cell? ⟨B, o, none⟩ = cs[o]?) ∧ (∀ o, w1.frozen? ⟨B, o, none⟩ = false) ∧ B < w1.heap.size :=
  ⟨fun o => (hb.cell (p := ⟨B, o, none⟩) h.2.2).trans (h.1 o), fun o => (hb.frozen (p := ⟨B, o, none⟩) h.2.2).trans (h.2.1 o), Nat.lt_of_lt_of_le h.2.2 hb.size⟩
theorem own_farZ0 {wr wa w2 : World} {base C n cp size : Nat} {a : Option Addr} {e : TypeId} {xs : List Value} (hb : Below wr.heap.size wr wa) (ho : wr.ownsRow base e size (.slice a n cp) n xs) (hg : wa.grownBy w2 (Value.slice a n cp).ownBlock) (hC : C < base) (hl : C < wr.heap.size) : w2.heap[C]? = wr.heap[C]? := by
  refine (hg.block C (Nat.lt_of_lt_of_le hl hb.size) ?_).trans (hb.block C hl)
  intro h
  rcases ho.2 with ⟨h2, _⟩ | ⟨g', cap', cur, hv', hg', _⟩
  · simp at h2
    obtain ⟨rfl, _⟩ := h2
    simp [Value.ownBlock] at h
  · simp at hv'
    obtain ⟨rfl, rfl⟩ := hv'
    simp [Value.ownBlock] at h
    omega
theorem own_farZ {wr wa w2 : World} {base C n cp size o : Nat} {a : Option Addr} {e : TypeId} {xs : List Value} {u : Value} (hb : Below wr.heap.size wr wa) (ho : wr.ownsRow base e size (.slice a n cp) n xs) (hg : wa.grownBy w2 (Value.slice a n cp).ownBlock) (hC : C < base) (hl : C < wr.heap.size) (h : wr.cell? ⟨C, o, none⟩ = some u) : w2.cell? ⟨C, o, none⟩ = some u :=
  (World.cell?_of_block (w := wr) (own_farZ0 hb ho hg hC hl)).trans h
theorem own_frzZ {wr wa w2 : World} {base C n cp size : Nat} {a : Option Addr} {e : TypeId} {xs : List Value} (hb : Below wr.heap.size wr wa) (ho : wr.ownsRow base e size (.slice a n cp) n xs) (hg : wa.grownBy w2 (Value.slice a n cp).ownBlock) (hC : C < base) (hl : C < wr.heap.size) (h : ∀ o, wr.frozen? ⟨C, o, none⟩ = false) : ∀ o, w2.frozen? ⟨C, o, none⟩ = false := fun o =>
  (World.frozen?_of_block (w := wr) (own_farZ0 hb ho hg hC hl)).trans (h o)
theorem own_blkZ {wr wa w2 : World} {base C n cp size : Nat} {a : Option Addr} {e : TypeId} {xs : List Value} {x0 x1 x2 x3 x4 x5 x6 x7 : Int} {u : Value} (hb : Below wr.heap.size wr wa) (ho : wr.ownsRow base e size (.slice a n cp) n xs) (hg : wa.grownBy w2 (Value.slice a n cp).ownBlock) (hC : C < base) (h : Blk9 C x0 x1 x2 x3 x4 x5 x6 x7 u wr) : Blk9 C x0 x1 x2 x3 x4 x5 x6 x7 u w2 := by
  have hc := fun o => World.cell?_of_block (w := wr) (w' := w2) (a := ⟨C, o, none⟩) (own_farZ0 hb ho hg hC h.lt)
  have hf := fun o => World.frozen?_of_block (w := wr) (w' := w2) (a := ⟨C, o, none⟩) (own_farZ0 hb ho hg hC h.lt)
  exact ⟨(hc 0).trans h.c0, (hc 1).trans h.c1, (hc 2).trans h.c2, (hc 3).trans h.c3, (hc 4).trans h.c4, (hc 5).trans h.c5, (hc 6).trans h.c6, (hc 7).trans h.c7, (hc 8).trans h.c8, Nat.lt_of_lt_of_le h.lt (Nat.le_trans hb.size hg.size), fun o => (hf o).trans (h.fr o)⟩
theorem own_grownZ {V wr wa w2 : World} {C n cp size : Nat} {a : Option Addr} {e : TypeId} {xs : List Value} (hk : Kept C V wr) (hb : Below wr.heap.size wr wa) (ho : wr.ownsRow V.heap.size e size (.slice a n cp) n xs) (hg : wa.grownBy w2 (Value.slice a n cp).ownBlock) (hC : C < V.heap.size) : Kept C V w2 :=
  ⟨hg.os.trans (hb.os.trans hk.os), hg.tape.trans (hb.tape.trans hk.tape), hg.output.trans (hb.output.trans hk.output), Nat.le_trans hk.size (Nat.le_trans hb.size hg.size), fun k hk1 hk2 => (own_farZ0 hb ho hg hk1 (Nat.lt_of_lt_of_le hk1 hk.size)).trans (hk.block k hk1 hk2)⟩
theorem own_baseZ {w : World} {base n cp size : Nat} {a : Option Addr} {e : TypeId} {xs : List Value} (ho : w.ownsRow base e size (.slice a n cp) n xs) : ∀ k, (Value.slice a n cp).ownBlock = some k → base ≤ k := fun k h => by
  rcases ho.2 with ⟨h2, _⟩ | ⟨g', cap', cur, hv', hg', _⟩
  · simp at h2
    obtain ⟨rfl, _⟩ := h2
    simp [Value.ownBlock] at h
  · simp at hv'
    obtain ⟨rfl, rfl⟩ := hv'
    simp [Value.ownBlock] at h
    omega
theorem own_setZ {w : World} {base n cp size R o : Nat} {a : Option Addr} {e : TypeId} {xs : List Value} (ho : w.ownsRow base e size (.slice a n cp) n xs) (hne : ∀ k, (Value.slice a n cp).ownBlock = some k → k ≠ R) (v : Value) : (w.setCell ⟨R, o, none⟩ v).ownsRow base e size (.slice a n cp) n xs :=
  ownsRow_setCell_other ho (fun h => hne _ h rfl) v
theorem kheld_set {C : Nat} {W X : World} {o : Nat} (h : Kept C W X ∧ ∀ b o, b < W.heap.size → b ≠ C → X.cell? ⟨b, o, none⟩ = W.cell? ⟨b, o, none⟩) (v : Value) : Kept C W (X.setCell ⟨C, o, none⟩ v) ∧ ∀ b o', b < W.heap.size → b ≠ C → (X.setCell ⟨C, o, none⟩ v).cell? ⟨b, o', none⟩ = W.cell? ⟨b, o', none⟩ := kheld_of (h.1.setCell (.inl rfl) v)
theorem kheld_alloc {C : Nat} {W X : World} (h : Kept C W X ∧ ∀ b o, b < W.heap.size → b ≠ C → X.cell? ⟨b, o, none⟩ = W.cell? ⟨b, o, none⟩) (u : Obj) : Kept C W (X.alloc u) ∧ ∀ b o', b < W.heap.size → b ≠ C → (X.alloc u).cell? ⟨b, o', none⟩ = W.cell? ⟨b, o', none⟩ := kheld_of (h.1.alloc u)
theorem kheld_drew {C : Nat} {W X : World} (h : Kept C W X ∧ ∀ b o, b < W.heap.size → b ≠ C → X.cell? ⟨b, o, none⟩ = W.cell? ⟨b, o, none⟩) : Kept C W X.drew ∧ ∀ b o', b < W.heap.size → b ≠ C → X.drew.cell? ⟨b, o', none⟩ = W.cell? ⟨b, o', none⟩ := kheld_of h.1.drew
set_option maxRecDepth 100000 in
set_option maxHeartbeats 16000000 in
theorem ReadCourse_c (s : ByteArray) (w : World) (hs : s.size ≤ 1048576) (ht : RcT w) : Calls Tryz.prog 6 #[.string s] w fun e w' => RcE s w.heap.size e w' ∧ Below w.heap.size w w' := by
  obtain ⟨i0, hi, ti0, ti1, ti2⟩ := info_parts infoMk
  have HT0 := Lib.hid ht
  have HT9 := Lib.hid ht
  clear ht
  go_enter Tryz.func6, Tryz.ntmps6
  go_wp2_with fail
  have HTa := HT0.out.below ((Below.refl w.heap.size w).alloc (Nat.le_refl _) (.cells #[.int .i64 0, .int .i64 0, .int .i64 0, .int .i64 0, .int .i64 0, .int .i64 0, .int .i64 0, .int .i64 0, .slice none 0 0] 28))
  obtain ⟨_, mx, hmx⟩ := HTa
  refine (split_c s mx _ hs hmx).mono ?_
  rintro e V1 ⟨⟨g, cw, rfl, hr, hg0, hg, hcw⟩, hb⟩
  have HR := Lib.hid (show Blk9 w.heap.size 0 0 0 0 0 0 0 0 (.slice none 0 0) V1 from (⟨by simp [go_sem], by simp [go_sem], by simp [go_sem], by simp [go_sem], by simp [go_sem], by simp [go_sem], by simp [go_sem], by simp [go_sem], by simp [go_sem], by simp, fun o => World.frozen?_alloc_at _ _ _ _ rfl⟩ : Blk9 w.heap.size 0 0 0 0 0 0 0 0 (.slice none 0 0) (w.alloc (.cells #[.int .i64 0, .int .i64 0, .int .i64 0, .int .i64 0, .int .i64 0, .int .i64 0, .int .i64 0, .int .i64 0, .slice none 0 0] 28))).below hb (by simp))
  have HD : Below w.heap.size w V1 := ((Below.refl w.heap.size w).alloc (Nat.le_refl _) _).trans (hb.mono (by simp))
  have HT := Lib.hid (HT0.out.below HD)
  have HW := Lib.hid hr
  have hgw : w.heap.size < g := by simp at hg0; omega
  have HZ := Lib.hid (fun i => Nat.le_trans (wd_size s i) hs)
  have HL := Lib.hid (show ∀ z0 z1 z2 z3 z4 z5 z6 z7 k, s = ctR z0 z1 z2 z3 z4 z5 z6 z7 k → 1 ≤ s.size → s.size ≤ 1000 ∧ (wordsB s).length = 10 + 6 * k.length ∧ 1 ≤ k.length ∧ k.length ≤ 8 from fun z0 z1 z2 z3 z4 z5 z6 z7 k e h => crs_words e h)
  have hwl := words_le s
  have HCY := Lib.hid (fun x0 x1 x2 x3 x4 x5 x6 x7 l h e h1 => rcp_yes (s := s) (x0 := x0) (x1 := x1) (x2 := x2) (x3 := x3) (x4 := x4) (x5 := x5) (x6 := x6) (x7 := x7) (l := l) h e h1)
  have HCN := Lib.hid (fun x0 x1 x2 x3 x4 x5 x6 x7 l h e => noCrs_ne (s := s) (x0 := x0) (x1 := x1) (x2 := x2) (x3 := x3) (x4 := x4) (x5 := x5) (x6 := x6) (x7 := x7) (l := l) h e)
  have HMZ := Lib.hid (fun L h => msRd_sizes (s := s) (L := L) h)
  clear hr hb hg0 HT0 hmx
  generalize wordsB s = ws at *
  by_cases hb0 : s.size ≤ 1000
  case neg =>
    have HN := Lib.hid (show NoCrs s from fun z0 z1 z2 z3 z4 z5 z6 z7 k e h1 => (by have := HL.out z0 z1 z2 z3 z4 z5 z6 z7 k e h1; omega))
    have hb0' : (1000 : Int) < (s.size : Int) := by omega
    clear HL HCY HCN HMZ HZ
    have r0 := HR.out.c0
    have r1 := HR.out.c1
    have r2 := HR.out.c2
    have r3 := HR.out.c3
    have r4 := HR.out.c4
    have r5 := HR.out.c5
    have r6 := HR.out.c6
    have r7 := HR.out.c7
    have r8 := HR.out.c8
    have rl := HR.out.lt
    have rf := HR.out.fr
    clear HR HW HT
    go_wp2_with fail
    all_goals exact bodyPost_ret (v := .tuple #[.agg #[.int .i64 0, .int .i64 0, .int .i64 0, .int .i64 0, .int .i64 0, .int .i64 0, .int .i64 0, .int .i64 0, .slice none 0 0], .bool false]) (by simp [results, Tryz.results6, go_sem, *]) rfl ⟨rce_no HN.out, (by repeat (first | with_reducible exact Below.refl _ _ | with_reducible assumption | with_reducible refine Below.drew ?_ | with_reducible refine Below.alloc ?_ (by first | exact Nat.le_refl _ | (simp; done) | (simp; omega) | omega) _ | with_reducible refine Below.setCell ?_ (by first | exact Nat.le_refl _ | (simp; done) | (simp; omega) | omega) _ | with_reducible refine Below.trans ?_ (Below.mono (by with_reducible assumption) (by first | exact Nat.le_refl _ | (simp; done) | (simp; omega) | omega))))⟩
  case pos =>
    have hb0' : ¬ (1000 : Int) < (s.size : Int) := by omega
    by_cases h16 : ws.length < 10
    case pos =>
      have HN := Lib.hid (show NoCrs s from fun z0 z1 z2 z3 z4 z5 z6 z7 k e h1 => (by have := HL.out z0 z1 z2 z3 z4 z5 z6 z7 k e h1; omega))
      have h16' : (ws.length : Int) < 10 := by omega
      clear HL HCY HCN HMZ HZ h16
      have r0 := HR.out.c0
      have r1 := HR.out.c1
      have r2 := HR.out.c2
      have r3 := HR.out.c3
      have r4 := HR.out.c4
      have r5 := HR.out.c5
      have r6 := HR.out.c6
      have r7 := HR.out.c7
      have r8 := HR.out.c8
      have rl := HR.out.lt
      have rf := HR.out.fr
      clear HR HW HT
      go_wp2_with fail
      all_goals exact bodyPost_ret (v := .tuple #[.agg #[.int .i64 0, .int .i64 0, .int .i64 0, .int .i64 0, .int .i64 0, .int .i64 0, .int .i64 0, .int .i64 0, .slice none 0 0], .bool false]) (by simp [results, Tryz.results6, go_sem, *]) rfl ⟨rce_no HN.out, (by repeat (first | with_reducible exact Below.refl _ _ | with_reducible assumption | with_reducible refine Below.drew ?_ | with_reducible refine Below.alloc ?_ (by first | exact Nat.le_refl _ | (simp; done) | (simp; omega) | omega) _ | with_reducible refine Below.setCell ?_ (by first | exact Nat.le_refl _ | (simp; done) | (simp; omega) | omega) _ | with_reducible refine Below.trans ?_ (Below.mono (by with_reducible assumption) (by first | exact Nat.le_refl _ | (simp; done) | (simp; omega) | omega))))⟩
    case neg =>
      have h16' : ¬ (ws.length : Int) < 10 := by omega
      obtain ⟨q, r, hqr, hr6⟩ : ∃ q r, ws.length = 10 + 6 * q + r ∧ r < 6 := ⟨(ws.length - 10) / 6, (ws.length - 10) % 6, by omega, by omega⟩
      have t1 : IntKind.i64.wrap ((ws.length : Int) - 10) = (ws.length : Int) - 10 := by rw [IntKind.wrap_i64]; omega
      have t2 : ((ws.length : Int) - 10).tmod 6 = (r : Int) := by rw [Int.tmod_eq_emod_of_nonneg (by omega)]; omega
      have t3 : IntKind.i64.wrap (r : Int) = (r : Int) := by rw [IntKind.wrap_i64]; omega
      by_cases h6 : r = 0
      case neg =>
        have HN := Lib.hid (show NoCrs s from fun z0 z1 z2 z3 z4 z5 z6 z7 k e h1 => (by have := HL.out z0 z1 z2 z3 z4 z5 z6 z7 k e h1; omega))
        have h6c : ¬ (r : Int) = 0 := by omega
        have h6d : ((r : Int) == 0) = false := by simp; omega
        have h6e : ((r : Int) != 0) = true := by simp; omega
        have h6f : decide ((r : Int) = 0) = false := by simp; omega
        clear HL HCY HCN HMZ HZ h16 hqr hr6
        have r0 := HR.out.c0
        have r1 := HR.out.c1
        have r2 := HR.out.c2
        have r3 := HR.out.c3
        have r4 := HR.out.c4
        have r5 := HR.out.c5
        have r6 := HR.out.c6
        have r7 := HR.out.c7
        have r8 := HR.out.c8
        have rl := HR.out.lt
        have rf := HR.out.fr
        clear HR HW HT
        go_wp2_with fail
        all_goals exact bodyPost_ret (v := .tuple #[.agg #[.int .i64 0, .int .i64 0, .int .i64 0, .int .i64 0, .int .i64 0, .int .i64 0, .int .i64 0, .int .i64 0, .slice none 0 0], .bool false]) (by simp [results, Tryz.results6, go_sem, *]) rfl ⟨rce_no HN.out, (by repeat (first | with_reducible exact Below.refl _ _ | with_reducible assumption | with_reducible refine Below.drew ?_ | with_reducible refine Below.alloc ?_ (by first | exact Nat.le_refl _ | (simp; done) | (simp; omega) | omega) _ | with_reducible refine Below.setCell ?_ (by first | exact Nat.le_refl _ | (simp; done) | (simp; omega) | omega) _ | with_reducible refine Below.trans ?_ (Below.mono (by with_reducible assumption) (by first | exact Nat.le_refl _ | (simp; done) | (simp; omega) | omega))))⟩
      case pos =>
        subst h6
        have HQ := Lib.hid (show ws.length = 10 + 6 * q by omega)
        have hq9 : q ≤ 200 := by omega
        clear HL hqr h16 hr6
        go_wp2_with fail
        refine (numbersOf_c g cw ws V1 (by omega) HZ.out HW.out hg HT.out.1).mono ?_
        rintro e V2 ⟨⟨gn, cn, ns, rfl, hnl, hns, hnr, hg2, hgn, hcn⟩, hb2⟩
        replace HD := HD.trans (hb2.mono HD.size)
        replace HR := Lib.hid (HR.out.below hb2 HR.out.lt)
        replace HW := Lib.hid (RowAt.below HW.out hb2)
        replace HT := Lib.hid (HT.out.below hb2)
        replace hg := Nat.lt_of_lt_of_le hg hb2.size
        have HNW := Lib.hid hnr
        have HNS := Lib.hid hns
        have HNL := Lib.hid hnl
        have c1 := nm_cell hnr (show 1 < ns.length by omega)
        have c2 := nm_cell hnr (show 2 < ns.length by omega)
        have c3 := nm_cell hnr (show 3 < ns.length by omega)
        have c4 := nm_cell hnr (show 4 < ns.length by omega)
        have d0 := nm_cell hnr (show ws.length - 4 + 0 < ns.length by omega)
        have d1 := nm_cell hnr (show ws.length - 4 + 1 < ns.length by omega)
        have d2 := nm_cell hnr (show ws.length - 4 + 2 < ns.length by omega)
        have d3 := nm_cell hnr (show ws.length - 4 + 3 < ns.length by omega)
        have N1 := Lib.hid (hns 1 (by omega))
        have N2 := Lib.hid (hns 2 (by omega))
        have N3 := Lib.hid (hns 3 (by omega))
        have N4 := Lib.hid (hns 4 (by omega))
        have M0 := Lib.hid (hns (ws.length - 4 + 0) (by omega))
        have M1 := Lib.hid (hns (ws.length - 4 + 1) (by omega))
        have M2 := Lib.hid (hns (ws.length - 4 + 2) (by omega))
        have M3 := Lib.hid (hns (ws.length - 4 + 3) (by omega))
        clear hnr hns hnl hb2
        generalize nm ns 1 = x0 at c1 N1
        generalize nm ns 2 = x1 at c2 N2
        generalize nm ns 3 = x2 at c3 N3
        generalize nm ns 4 = x3 at c4 N4
        generalize nm ns (ws.length - 4 + 0) = x4 at d0 M0
        generalize nm ns (ws.length - 4 + 1) = x5 at d1 M1
        generalize nm ns (ws.length - 4 + 2) = x6 at d2 M2
        generalize nm ns (ws.length - 4 + 3) = x7 at d3 M3
        have CL1 := Lib.hid (fun X (hX : Below V2.heap.size V2 X) => lineOf_c gn 1 (cn - 1) x0 x1 x2 x3 X (Nat.lt_of_lt_of_le hgn hX.size) ((hX.cell (p := ⟨gn, 1, none⟩) hgn).trans c1) ((hX.cell (p := ⟨gn, 2, none⟩) hgn).trans c2) ((hX.cell (p := ⟨gn, 3, none⟩) hgn).trans c3) ((hX.cell (p := ⟨gn, 4, none⟩) hgn).trans c4))
        have CL2 := Lib.hid (fun X (hX : Below V2.heap.size V2 X) => lineOf_c gn (ws.length - 4) (cn - (ws.length - 4)) x4 x5 x6 x7 X (Nat.lt_of_lt_of_le hgn hX.size) ((hX.cell (p := ⟨gn, ws.length - 4, none⟩) hgn).trans d0) ((hX.cell (p := ⟨gn, ws.length - 4 + 1, none⟩) hgn).trans d1) ((hX.cell (p := ⟨gn, ws.length - 4 + 2, none⟩) hgn).trans d2) ((hX.cell (p := ⟨gn, ws.length - 4 + 3, none⟩) hgn).trans d3))
        have w4 : IntKind.i64.wrap ((ws.length : Int) - 4) = (ws.length : Int) - 4 := by rw [IntKind.wrap_i64]; omega
        have w4a : ((ws.length : Int) - 4).toNat = ws.length - 4 := by omega
        have w4b : (0 : Int) ≤ (ws.length : Int) - 4 := by omega
        have w4c : (ws.length : Int) - 4 ≤ (ws.length : Int) := by omega
        have w4d : (ws.length : Int) ≤ (cn : Int) := by omega
        have w4e : (1 : Int) ≤ (cn : Int) := by omega
        have w4f : (5 : Int) ≤ (cn : Int) := by omega
        have w4g : ws.length - (ws.length - 4) = 4 := by omega
        have w4h : (5 : Int) ≤ (ws.length : Int) := by omega
        have w4k : (4 : Int) ≤ (ws.length : Int) := by omega
        have w4i : ¬ cn = 1 := by omega
        have w4j : ¬ cn = ws.length - 4 := by omega
        go_upto_region 6 with fail
        have hli0 : ∀ x : Obj, V2.heap.size < (V2.alloc x).heap.size := fun x => by simp
        have hgV : gn < V2.heap.size := hgn
        go_cut [7] (fun cv wx => ∃ C : Nat, cv = .pointer (some ⟨C, 0, none⟩) ∧ wx.cell? ⟨C, 0, none⟩ = some (.int .i64 x0) ∧ wx.cell? ⟨C, 1, none⟩ = some (.int .i64 x1) ∧ wx.cell? ⟨C, 2, none⟩ = some (.int .i64 x2) ∧ wx.cell? ⟨C, 3, none⟩ = some (.int .i64 x3) ∧ wx.cell? ⟨C, 4, none⟩ = some (.int .i64 x4) ∧ wx.cell? ⟨C, 5, none⟩ = some (.int .i64 x5) ∧ wx.cell? ⟨C, 6, none⟩ = some (.int .i64 x6) ∧ wx.cell? ⟨C, 7, none⟩ = some (.int .i64 x7) ∧ wx.cell? ⟨C, 8, none⟩ = some (.slice none 0 0) ∧ (∀ o, wx.frozen? ⟨C, o, none⟩ = false) ∧ V2.heap.size ≤ C ∧ C < wx.heap.size ∧ Below V2.heap.size V2 wx)
        case first =>
          go_region_held3 (fun wx => Below V2.heap.size V2 wx ∧ ∀ b o, b < V2.heap.size → wx.cell? ⟨b, o, none⟩ = V2.cell? ⟨b, o, none⟩)
            (repeat (first | with_reducible assumption | with_reducible refine held_set9 ?_ (by first | with_reducible exact Nat.le_refl _ | with_reducible assumption | omega | (simp; omega)) _ _ _ _ _ _ _ _ _ | with_reducible exact held_back (by with_reducible assumption) (by first | with_reducible exact Nat.le_refl _ | with_reducible assumption | omega | (simp; omega)) | with_reducible exact held_back (held_back (by with_reducible assumption) (by first | with_reducible exact Nat.le_refl _ | with_reducible assumption | omega | (simp; omega))) (by first | with_reducible exact Nat.le_refl _ | with_reducible assumption | omega | (simp; omega)) | with_reducible refine held_alloc ?_ _ | with_reducible exact held_step (by assumption) hb | with_reducible refine held_drew ?_ | with_reducible exact held_refl _ | with_reducible exact held_start _ _ | with_reducible exact held_begin _))
            (first | (go_at_call 23; with_reducible refine Calls.mono (CL1.out _ (And.left (by with_reducible assumption))) ?_; rintro e w1 ⟨rfl, hb⟩; have hz := held_size (by with_reducible assumption) hb; (try simp at hz); have hs1 := hb.size; (try simp at hs1); obtain ⟨hc, hf⟩ := bcell hb; (try have hl := below_lt hb); (try simp at hl); (first | have hq := alloc_keepZ hb | have hq := alloc_keepZd hb | have hq := alloc_keepZ2 hq hb | skip); (try (have hq1 := hq.1; have hq2 := hq.2.1; have hq3 := hq.2.2)); (try have hlW : V2.heap.size < w1.heap.size := by first | omega | (simp; omega))) | (go_at_call 23; with_reducible refine Calls.mono (CL2.out _ (And.left (by with_reducible assumption))) ?_; rintro e w1 ⟨rfl, hb⟩; have hz := held_size (by with_reducible assumption) hb; (try simp at hz); have hs1 := hb.size; (try simp at hs1); obtain ⟨hc, hf⟩ := bcell hb; (try have hl := below_lt hb); (try simp at hl); (first | have hq := alloc_keepZ hb | have hq := alloc_keepZd hb | have hq := alloc_keepZ2 hq hb | skip); (try (have hq1 := hq.1; have hq2 := hq.2.1; have hq3 := hq.2.2)); (try have hlW : V2.heap.size < w1.heap.size := by first | omega | (simp; omega))))
          all_goals (go_wp2_with fail; go_meet; exact ⟨_, rfl, (by go_light; go_simp), (by go_light; go_simp), (by go_light; go_simp), (by go_light; go_simp), (by go_light; go_simp), (by go_light; go_simp), (by go_light; go_simp), (by go_light; go_simp), (by go_light; go_simp), (by intro o; first | (simp [go_sem]; done) | (simp [go_sem, *]; done) | (go_light; go_simp)), (by go_light; first | exact Nat.le_refl _ | (simp; done) | (simp; omega) | omega), (by go_light; first | (simp; done) | (simp; omega) | omega), (held_of (by with_reducible exact And.left (by with_reducible assumption))).1⟩)
        case rest =>
          obtain ⟨C, rfl, k0, k1, k2, k3, k4, k5, k6, k7, k8, kf, hC1, hC2, hb3⟩ := hcut
          obtain ⟨V3, rfl⟩ : ∃ x : World, x = wc := ⟨_, rfl⟩
          have HC := Lib.hid (show Blk9 C x0 x1 x2 x3 x4 x5 x6 x7 (.slice none 0 0) V3 from ⟨k0, k1, k2, k3, k4, k5, k6, k7, k8, hC2, kf⟩)
          replace HD := HD.trans (hb3.mono HD.size)
          replace HR := Lib.hid (HR.out.below hb3 HR.out.lt)
          replace HW := Lib.hid (RowAt.below HW.out hb3)
          replace HNW := Lib.hid (RowAt.below HNW.out hb3)
          replace HT := Lib.hid (HT.out.below hb3)
          have hCV : C < V3.heap.size := hC2
          have hgC : g ≠ C := by omega
          have hnC : gn ≠ C := by omega
          have hRC : w.heap.size ≠ C := by omega
          have hwC : w.heap.size ≤ C := by omega
          replace hg := Nat.lt_of_lt_of_le hg hb3.size
          replace hgn := Nat.lt_of_lt_of_le hgn hb3.size
          have w5 : IntKind.i64.wrap ((ws.length : Int) - 5) = (ws.length : Int) - 5 := by rw [IntKind.wrap_i64]; omega
          clear hb3 CL1 CL2 c1 c2 c3 c4 d0 d1 d2 d3 w4i w4j w4k w4 w4a w4b w4c w4e w4f w4g hli0 hgV k0 k1 k2 k3 k4 k5 k6 k7 k8 kf
          go_wp2_with fail
          go_loopw [8] (fun av wr => ∃ (a : Option Addr) (cp k : Nat) (M : List Mk), av = .int .i64 (k : Int) ∧ Hid (k = 5 + 6 * M.length) ∧ Hid (M.length ≤ q) ∧ Hid (MsRd ws M) ∧ Hid (Blk9 C x0 x1 x2 x3 x4 x5 x6 x7 (.slice a M.length cp) wr) ∧ Hid (wr.ownsRow V3.heap.size 47 5 (.slice a M.length cp) M.length (mflat M)) ∧ Kept C V3 wr) (fun a _ => 2000 - (intOf a).toNat)
          case atStart => exact ⟨none, 0, 5, [], rfl, Lib.hid rfl, Lib.hid (Nat.zero_le _), Lib.hid (msRd_nil ws), HC, Lib.hid (World.ownsRow_nil _ _ _ _), Kept.refl _ _⟩
          case round =>
            obtain ⟨a, cp, k, M, rfl, hk, hMq, hM, HCr, hO, hkV⟩ := hrel
            have hk5 : 5 ≤ k ∧ k ≤ 1205 := by have := hk.out; have := hMq.out; omega
            have hM8 : M.length ≤ 200 := by have := hMq.out; omega
            have w6 : IntKind.i64.wrap ((k : Int) + 6) = (k : Int) + 6 := by rw [IntKind.wrap_i64]; omega
            have HWr := Lib.hid (rowAt_keptZ HW.out hkV (fun b off e => by simp at e; omega))
            have HNr := Lib.hid (rowAt_keptZ HNW.out hkV (fun b off e => by simp at e; omega))
            have hgr : g < wr.heap.size := Nat.lt_of_lt_of_le hg hkV.size
            have hgnr : gn < wr.heap.size := Nat.lt_of_lt_of_le hgn hkV.size
            by_cases h : M.length < q
            case pos =>
              have h' : (k : Int) < (ws.length : Int) - 5 := by have := hk.out; have := HQ.out; omega
              have hkn : k + 6 ≤ ws.length - 5 := by have := hk.out; have := HQ.out; omega
              have a1 : IntKind.i64.wrap ((k : Int) + 1) = (k : Int) + 1 := by rw [IntKind.wrap_i64]; omega
              have b1 : (k : Int) + 1 < (ws.length : Int) := by omega
              have d1 : ((k : Int) + 1).toNat = k + 1 := by omega
              have f1 : (0 : Int) ≤ (k : Int) + 1 := by omega
              have a2 : IntKind.i64.wrap ((k : Int) + 2) = (k : Int) + 2 := by rw [IntKind.wrap_i64]; omega
              have b2 : (k : Int) + 2 < (ws.length : Int) := by omega
              have d2 : ((k : Int) + 2).toNat = k + 2 := by omega
              have f2 : (0 : Int) ≤ (k : Int) + 2 := by omega
              have a3 : IntKind.i64.wrap ((k : Int) + 3) = (k : Int) + 3 := by rw [IntKind.wrap_i64]; omega
              have b3 : (k : Int) + 3 < (ws.length : Int) := by omega
              have d3 : ((k : Int) + 3).toNat = k + 3 := by omega
              have f3 : (0 : Int) ≤ (k : Int) + 3 := by omega
              have a4 : IntKind.i64.wrap ((k : Int) + 4) = (k : Int) + 4 := by rw [IntKind.wrap_i64]; omega
              have b4 : (k : Int) + 4 < (ws.length : Int) := by omega
              have d4 : ((k : Int) + 4).toNat = k + 4 := by omega
              have f4 : (0 : Int) ≤ (k : Int) + 4 := by omega
              have a5 : IntKind.i64.wrap ((k : Int) + 5) = (k : Int) + 5 := by rw [IntKind.wrap_i64]; omega
              have b5 : (k : Int) + 5 < (ws.length : Int) := by omega
              have d5 : ((k : Int) + 5).toNat = k + 5 := by omega
              have f5 : (0 : Int) ≤ (k : Int) + 5 := by omega
              have e1 := wd_cell HW.out (show k + 1 < ws.length by omega)
              have e4 := wd_cell HWr.out (show k + 4 < ws.length by omega)
              have e2 := nm_cell HNW.out (show k + 2 < ns.length by have := HNL.out; omega)
              have e3 := nm_cell HNW.out (show k + 3 < ns.length by have := HNL.out; omega)
              have e5 := nm_cell HNW.out (show k + 5 < ns.length by have := HNL.out; omega)
              have HMK := Lib.hid (show ∀ sd, sd = (if wd ws (k + 4) = sbB then (2 : Int) else 1) → MsRd ws (M ++ [⟨wd ws (k + 1), nm ns (k + 2), nm ns (k + 3), sd, nm ns (k + 5)⟩]) from fun sd h4 => msRd_snoc hM.out (by have := hk.out; have hl9 := HNL.out; subst this; exact ⟨rfl, HNS.out _ (by omega), HNS.out _ (by omega), h4, HNS.out _ (by omega)⟩))
              generalize wd ws (k + 1) = u1 at *
              generalize wd ws (k + 4) = u4 at *
              generalize nm ns (k + 2) = v2 at *
              generalize nm ns (k + 3) = v3 at *
              generalize nm ns (k + 5) = v5 at *
              have k8 := HCr.out.c8
              have kl := HCr.out.lt
              have kf := HCr.out.fr
              clear hM
              go_upto_region 11 with fail
              go_cut [50] (fun bv wx => ∃ bb : Bool, bv = .bool bb ∧ Hid (bb = true ↔ u4 = sbB) ∧ wr = wx)
              case first =>
                by_cases hsb : u4 = sbB
                case pos =>
                  rw [hsb] at e4
                  have HSB := Lib.hid hsb
                  clear hsb
                  unfold sbB at e4
                  go_wp2_with fail
                  all_goals go_meet
                  all_goals exact ⟨true, rfl, Lib.hid ⟨fun _ => HSB.out, fun _ => rfl⟩, rfl⟩
                case neg =>
                  have hsf : (u4.toList == [115, 116, 97, 114, 98, 111, 97, 114, 100]) = false := by cases hh : (u4.toList == [115, 116, 97, 114, 98, 111, 97, 114, 100]); rfl; exact absurd (str_same ((by simpa using hh : u4.toList = [115, 116, 97, 114, 98, 111, 97, 114, 100]).trans sbB_list.symm)) hsb
                  have HSB := Lib.hid hsb
                  clear hsb
                  go_wp2_with fail
                  all_goals go_meet
                  all_goals exact ⟨false, rfl, Lib.hid ⟨fun h => (by cases h), fun h => absurd h HSB.out⟩, rfl⟩
              case rest =>
                obtain ⟨bb, rfl, HBB, rfl⟩ := hcut
                rename_i hK
                refine hK _ _ ?_
                clear hK
                go_cut [9] (fun sv wx => ∃ sd : Int, sv = .int .i64 sd ∧ Hid (sd = (if u4 = sbB then (2 : Int) else 1)) ∧ wr = wx)
                case first =>
                  cases bb
                  case false =>
                    have HSD := Lib.hid (show (1 : Int) = (if u4 = sbB then (2 : Int) else 1) by rw [if_neg (fun h => by have := HBB.out.2 h; cases this)])
                    go_wp2_with fail
                    all_goals go_meet
                    all_goals exact ⟨1, rfl, HSD, rfl⟩
                  case true =>
                    have HSD := Lib.hid (show (2 : Int) = (if u4 = sbB then (2 : Int) else 1) by rw [if_pos (HBB.out.1 rfl)])
                    go_wp2_with fail
                    all_goals go_meet
                    all_goals exact ⟨2, rfl, HSD, rfl⟩
                case rest =>
                  obtain ⟨sd, rfl, HSD, rfl⟩ := hcut
                  go_upto_region 13 with fail
                  rw [show Op.load 26 (Operand.tmp 51) = id (Op.load 26 (Operand.tmp 51)) from rfl]
                  go_region_held3 (fun wx => Kept C V3 wx ∧ ∀ b o, b < V3.heap.size → b ≠ C → wx.cell? ⟨b, o, none⟩ = V3.cell? ⟨b, o, none⟩)
                    (repeat (first | with_reducible assumption | with_reducible exact kheld_of hKA | with_reducible exact kheld_of hkV | with_reducible refine kheld_set ?_ _ | with_reducible refine kheld_alloc ?_ _ | with_reducible refine kheld_drew ?_))
                    (first | (refine step_append_lies _ (by rfl) (.tmp 52) (.tmp 76) 26 (by rfl) V3.heap.size 47 i0 _ 5 48 Tryz.underlying26 hi ti0 ti1 ti2 rfl (by decide) (.slice a M.length cp) M.length (mflat M) (by rfl) (by repeat (first | with_reducible exact hO.out | with_reducible refine World.ownsRow.alloc ?_ _ | with_reducible refine World.ownsRow.drew ?_)) ⟨wr.heap.size, 0, none⟩ 1 1 [.string u1, .int .i64 v2, .int .i64 v3, .int .i64 sd, .int .i64 v5] (by rfl) rfl (World.news_of_block (pheap_new (by first | rfl | (simp; done)))) (oneMk _ _ _ _ _) (by decide) (by unfold maxLen; omega) (by omega) (by have := hkV.size; first | omega | (simp; omega)) (wr.heap.size + 1) (by simp) ?_; intro g2 cp2 w2 hown2 hgrow2 hat2 hlt2; obtain ⟨wa, hb9, hgrow3⟩ : ∃ wa, Below wr.heap.size wr wa ∧ wa.grownBy w2 (Value.slice a M.length cp).ownBlock := ⟨_, (by first | exact ((Below.refl _ _).alloc (Nat.le_refl _) _).drew | exact (Below.refl _ _).alloc (Nat.le_refl _) _ | exact (Below.refl _ _).drew.alloc (by simp) _), hgrow2⟩; have hKA : Kept C V3 w2 := own_grownZ hkV hb9 hO.out hgrow3 hCV; have q8 : w2.cell? ⟨C, 8, none⟩ = some (.slice a M.length cp) := own_farZ hb9 hO.out hgrow3 hCV kl k8; have qf : ∀ o, w2.frozen? ⟨C, o, none⟩ = false := own_frzZ hb9 hO.out hgrow3 hCV kl kf; have HB2 : Blk9 C x0 x1 x2 x3 x4 x5 x6 x7 (.slice a M.length cp) w2 := own_blkZ hb9 hO.out hgrow3 hCV HCr.out; have HB2 := Lib.hid HB2; have ql := HB2.out.lt))
                  all_goals have HM2 := Lib.hid (HMK.out sd HSD.out)
                  all_goals have hg3 : V3.heap.size ≤ g2 := (hown2.lt g2 rfl).1
                  all_goals have HO2 := Lib.hid (show (w2.setCell ⟨C, 8, none⟩ (.slice (some ⟨g2, 0, none⟩) (M.length + 1) cp2)).ownsRow V3.heap.size 47 5 (.slice (some ⟨g2, 0, none⟩) (M ++ [⟨u1, v2, v3, sd, v5⟩] : List Mk).length cp2) (M ++ [⟨u1, v2, v3, sd, v5⟩] : List Mk).length (mflat (M ++ [⟨u1, v2, v3, sd, v5⟩])) by rw [show (M ++ [⟨u1, v2, v3, sd, v5⟩] : List Mk).length = M.length + 1 by simp, mflat_snocZ]; exact ownsRow_setCell_other hown2 (by simp [Value.ownBlock]; omega) _)
                  all_goals have HC2 := Lib.hid (show Blk9 C x0 x1 x2 x3 x4 x5 x6 x7 (.slice (some ⟨g2, 0, none⟩) (M ++ [⟨u1, v2, v3, sd, v5⟩] : List Mk).length cp2) (w2.setCell ⟨C, 8, none⟩ (.slice (some ⟨g2, 0, none⟩) (M.length + 1) cp2)) by rw [show (M ++ [⟨u1, v2, v3, sd, v5⟩] : List Mk).length = M.length + 1 by simp]; exact HB2.out.set8 _)
                  all_goals have hK2 : Kept C V3 (w2.setCell ⟨C, 8, none⟩ (.slice (some ⟨g2, 0, none⟩) (M.length + 1) cp2)) := hKA.setCell (.inl rfl) _
                  all_goals go_wp2_with fail
                  all_goals exact ⟨⟨some ⟨g2, 0, none⟩, cp2, k + 6, M ++ [⟨u1, v2, v3, sd, v5⟩], by simp, Lib.hid (by have := hk.out; simp; omega), Lib.hid (by simp; omega), HM2, HC2, HO2, hK2⟩, by first | (simp [intOf]; done) | (simp [intOf]; omega)⟩
            case neg =>
              have hMl : M.length = q := by have := hMq.out; omega
              have h' : ¬ (k : Int) < (ws.length : Int) - 5 := by have := hk.out; have := HQ.out; omega
              have HML := Lib.hid hMl
              clear hMq hk hMl h
              have HD3 : Below w.heap.size w wr := HD.trans (hkV.below (by omega) HD.size)
              have HR3 := Lib.hid (HR.out.kept hkV hRC)
              have HT3 := Lib.hid (HT9.out.below HD3)
              have HRD := Lib.hid (show CrRd ws x0 x1 x2 x3 x4 x5 x6 x7 M from ⟨N1.out, N2.out, N3.out, N4.out, M0.out, by have := M1.out; rwa [show ws.length - 4 + 1 = ws.length - 3 by omega] at this, by have := M2.out; rwa [show ws.length - 4 + 2 = ws.length - 2 by omega] at this, by have := M3.out; rwa [show ws.length - 4 + 3 = ws.length - 1 by omega] at this, by have := HQ.out; have := HML.out; omega, hM.out⟩)
              have HMS := Lib.hid (HMZ.out M hM.out)
              clear N1 N2 N3 N4 M0 M1 M2 M3 hM HW HNW HWr HNr w6
              have k0 := HCr.out.c0
              have k1 := HCr.out.c1
              have k2 := HCr.out.c2
              have k3 := HCr.out.c3
              have k4 := HCr.out.c4
              have k5 := HCr.out.c5
              have k6 := HCr.out.c6
              have k7 := HCr.out.c7
              have k8 := HCr.out.c8
              have kl := HCr.out.lt
              have kf := HCr.out.fr
              go_wp2_with fail
              refine (CourseText_c x0 x1 x2 x3 x4 x5 x6 x7 a cp M wr (by omega) (rowAt_ownA hO.out) (fun i hi => Nat.le_trans (HMS.out i hi) (by unfold maxLen; omega)) (own_capZ hO.out) HT3.out.1.1).mono ?_
              rintro e X4 ⟨rfl, hb4⟩
              clear k0 k1 k2 k3 k4 k5 k6 k7 k8 kl kf
              replace HD3 := HD3.trans (hb4.mono HD3.size)
              replace HCr := Lib.hid (HCr.out.below hb4 HCr.out.lt)
              replace HR3 := Lib.hid (HR3.out.below hb4 HR3.out.lt)
              have hO1 := Lib.hid (pown_below hO.out hb4)
              replace hO := Lib.hid (pown_mono hO1.out HD.size)
              clear hb4 hkV
              by_cases h0 : 1 ≤ s.size
              case neg =>
                omega
              case pos =>
                have k0 := HCr.out.c0
                have k1 := HCr.out.c1
                have k2 := HCr.out.c2
                have k3 := HCr.out.c3
                have k4 := HCr.out.c4
                have k5 := HCr.out.c5
                have k6 := HCr.out.c6
                have k7 := HCr.out.c7
                have k8 := HCr.out.c8
                have kl := HCr.out.lt
                have kf := HCr.out.fr
                have r0 := HR3.out.c0
                have r1 := HR3.out.c1
                have r2 := HR3.out.c2
                have r3 := HR3.out.c3
                have r4 := HR3.out.c4
                have r5 := HR3.out.c5
                have r6 := HR3.out.c6
                have r7 := HR3.out.c7
                have r8 := HR3.out.c8
                have rl := HR3.out.lt
                have rf := HR3.out.fr
                by_cases hq : s = ctR x0 x1 x2 x3 x4 x5 x6 x7 M
                case pos =>
                  have HY := Lib.hid (HCY.out x0 x1 x2 x3 x4 x5 x6 x7 M HRD.out hq h0)
                  have hne : ∀ k, (Value.slice a M.length cp).ownBlock = some k → k ≠ w.heap.size := fun k e e2 => by have := own_baseZ hO1.out k e; omega
                  rw [← hq]
                  clear hq HCr HR3
                  go_wp2_with fail
                  all_goals exact bodyPost_ret (v := .tuple #[.agg #[.int .i64 x0, .int .i64 x1, .int .i64 x2, .int .i64 x3, .int .i64 x4, .int .i64 x5, .int .i64 x6, .int .i64 x7, .slice a M.length cp], .bool true]) (by simp [results, Tryz.results6, go_sem, *]) rfl ⟨rce_yesA HY.out (by repeat (first | with_reducible exact hO.out | with_reducible refine own_setZ ?_ hne _)), (by repeat (first | with_reducible exact Below.refl _ _ | with_reducible assumption | with_reducible refine Below.drew ?_ | with_reducible refine Below.alloc ?_ (by first | exact Nat.le_refl _ | (simp; done) | (simp; omega) | omega) _ | with_reducible refine Below.setCell ?_ (by first | exact Nat.le_refl _ | (simp; done) | (simp; omega) | omega) _ | with_reducible refine Below.trans ?_ (Below.mono (by with_reducible assumption) (by first | exact Nat.le_refl _ | (simp; done) | (simp; omega) | omega))))⟩
                case neg =>
                  have HN := Lib.hid (HCN.out x0 x1 x2 x3 x4 x5 x6 x7 M HRD.out hq)
                  have HV := Lib.hid hq
                  clear hq HCr HR3
                  generalize ctR x0 x1 x2 x3 x4 x5 x6 x7 M = T at *
                  have hts : (T.toList == s.toList) = false := by cases hh : (T.toList == s.toList); rfl; exact absurd ((str_beqR _ _).1 hh).symm HV.out
                  go_wp2_with fail
                  all_goals exact bodyPost_ret (v := .tuple #[.agg #[.int .i64 0, .int .i64 0, .int .i64 0, .int .i64 0, .int .i64 0, .int .i64 0, .int .i64 0, .int .i64 0, .slice none 0 0], .bool false]) (by simp [results, Tryz.results6, go_sem, *]) rfl ⟨rce_no HN.out, (by repeat (first | with_reducible exact Below.refl _ _ | with_reducible assumption | with_reducible refine Below.drew ?_ | with_reducible refine Below.alloc ?_ (by first | exact Nat.le_refl _ | (simp; done) | (simp; omega) | omega) _ | with_reducible refine Below.setCell ?_ (by first | exact Nat.le_refl _ | (simp; done) | (simp; omega) | omega) _ | with_reducible refine Below.trans ?_ (Below.mono (by with_reducible assumption) (by first | exact Nat.le_refl _ | (simp; done) | (simp; omega) | omega))))⟩
end Go.Proofs.YtjgndfphbmkhaaaGreatDoor
