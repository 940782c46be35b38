/-
  Drawn tracks: what the functions that draw them do (some list of fixes in memory of their own; the source goes on). Conditions: the code's bytes lie in the world.
-/
import Derived.Test.YtdepdkpehbkcjaaCut0
import Derived.Test.YtdepdkpehbkcjaaDraw2
import Derived.Deep.AppendLies
namespace Go.Proofs.Ytdepdkpehbkcjaa
set_option linter.unusedVariables false
open Go.RowKit Go.Deep

theorem Kept.grown {g : Nat} {w w' : World} (h : Kept g w w') : w.grownBy w' (some g) := ⟨h.os, h.tape, h.output, h.size, fun k hk hn => h.block k hk (fun e => hn (by rw [e]))⟩
theorem own_keptk {w w' : World} {g base size n cap : Nat} {e : TypeId} {r : Nat} {xs : List Value} (h : w.ownsRow base e size (.slice (some ⟨r, 0, none⟩) n cap) n xs) (hk : Kept g w w') (hr : r ≠ g) : w'.ownsRow base e size (.slice (some ⟨r, 0, none⟩) n cap) n xs :=
  h.kept hk.grown (.inr (by simp [Value.ownBlock]; exact hr))
theorem Src.belowN {g m : Nat} {a : Option Addr} {n cap : Nat} {w w' : World} (h : Src g a n cap w) (hb : Below m w w') (hg : g < m) : Src g a n cap w' := by
  obtain ⟨k, hk, c1⟩ := h.c1
  obtain ⟨z, hz0, hz1, c2⟩ := h.c2
  exact ⟨Nat.lt_of_lt_of_le h.lt hb.size, (hb.cell (p := ⟨g, 0, none⟩) hg).trans h.c0, ⟨k, hk, (hb.cell (p := ⟨g, 1, none⟩) hg).trans c1⟩, ⟨z, hz0, hz1, (hb.cell (p := ⟨g, 2, none⟩) hg).trans c2⟩, fun o => (hb.frozen (p := ⟨g, o, none⟩) hg).trans (h.fr o), h.bytes.below hb (Nat.le_of_lt hg)⟩
theorem kept_belowN {g m : Nat} {w a b : World} (h : Kept g w a) (hb : Below m a b) (hm : w.heap.size ≤ m) : Kept g w b := ⟨hb.os.trans h.os, hb.tape.trans h.tape, hb.output.trans h.output, Nat.le_trans h.size hb.size, fun k hk hn => (hb.block k (Nat.lt_of_lt_of_le hk hm)).trans (h.block k hk hn)⟩
/-- nothing that was there has changed, but for the blocks g and C -/
structure KX (g C : Nat) (w w' : World) : Prop where
  os : w'.os = w.os
  tape : w'.tape = w.tape
  output : w'.output = w.output
  size : w.heap.size ≤ w'.heap.size
  block : ∀ k, k < w.heap.size → k ≠ g → k ≠ C → w'.heap[k]? = w.heap[k]?
theorem KX.of {g C : Nat} {w w' : World} (h : Kept g w w') : KX g C w w' := ⟨h.os, h.tape, h.output, h.size, fun k hk hn _ => h.block k hk hn⟩
theorem KX.drew {g C : Nat} {w w' : World} (h : KX g C w w') : KX g C w w'.drew := ⟨h.os, h.tape, h.output, h.size, h.block⟩
theorem KX.set {g C o : Nat} {w w' : World} (h : KX g C w w') (u : Value) : KX g C w (w'.setCell ⟨C, o, none⟩ u) := ⟨h.os, h.tape, h.output, by have := h.size; simpa [World.setCell] using this, fun k hk hn hc => (heap_setCell_other w' ⟨C, o, none⟩ k u hc).trans (h.block k hk hn hc)⟩
theorem KX.own {w w' : World} {g C base size n cap : Nat} {e : TypeId} {r : Nat} {xs : List Value} (hk : KX g C w w') (h : w.ownsRow base e size (.slice (some ⟨r, 0, none⟩) n cap) n xs) (h1 : r ≠ g) (h2 : r ≠ C) : w'.ownsRow base e size (.slice (some ⟨r, 0, none⟩) n cap) n xs := by
  refine ⟨h.1, ?_⟩
  rcases h.2 with ⟨h', _⟩ | ⟨g', cap', cur, h', hb, hh, r'⟩
  · simp at h'
  · have e0 := h'
    simp at h'
    obtain ⟨rfl, rfl⟩ := h'
    exact .inr ⟨r, cap, cur, rfl, hb, (hk.block r (Array.getElem?_eq_some_iff.1 hh).1 h1 h2).trans hh, r'⟩
theorem KX.kept {w a b : World} {g C : Nat} (h : Kept g w a) (hk : KX g C a b) (hC : w.heap.size ≤ C) : Kept g w b := ⟨hk.os.trans h.os, hk.tape.trans h.tape, hk.output.trans h.output, Nat.le_trans h.size hk.size, fun k hk' hn => (hk.block k (Nat.lt_of_lt_of_le hk' h.size) hn (by omega)).trans (h.block k hk' hn)⟩
theorem KX.cell {w w' : World} {g C b o : Nat} (hk : KX g C w w') (hb : b < w.heap.size) (h1 : b ≠ g) (h2 : b ≠ C) : w'.cell? ⟨b, o, none⟩ = w.cell? ⟨b, o, none⟩ := World.cell?_of_block (w := w) (hk.block b hb h1 h2)
theorem KX.frozen {w w' : World} {g C b o : Nat} (hk : KX g C w w') (hb : b < w.heap.size) (h1 : b ≠ g) (h2 : b ≠ C) : w'.frozen? ⟨b, o, none⟩ = w.frozen? ⟨b, o, none⟩ := World.frozen?_of_block (w := w) (hk.block b hb h1 h2)
theorem infoFixD : (Try.prog.info? 32).map (fun i => (i.zero, i.size, i.bytes)) = some (some (.agg #[.int .i64 0, .int .i64 0, .int .i64 0]), 3, 24) := by kernel_rfl
set_option maxRecDepth 100000 in
set_option maxHeartbeats 1000000 in
theorem l03DrawFrom_c (g : Nat) (a : Option Addr) (n cap : Nat) (time : Int) (w : World) (hn : n ≤ 9223372036854775807) (hs : Src g a n cap w) : Calls Try.prog 126 #[.pointer (some ⟨g, 0, none⟩), .int .i64 time] w fun e w' => (∃ (r cp : Nat) (l : List Fx), e = .returned (.agg #[.slice (some ⟨r, 0, none⟩) l.length cp]) ∧ 2 ≤ l.length ∧ l.length ≤ 16 ∧ w'.ownsRow w.heap.size 32 3 (.slice (some ⟨r, 0, none⟩) l.length cp) l.length (flat l)) ∧ Src g a n cap w' ∧ Kept g w w' := by
  obtain ⟨i0, hi, ti0, ti1, ti2⟩ := info_parts infoFixD
  have hgl := hs.lt
  have HS := Lib.hid hs
  clear hs
  go_enter Try.func126, Try.ntmps126
  go_wp2_with fail
  obtain ⟨W, hW⟩ : ∃ W, W = w.alloc (.cells #[.slice none 0 0] 26) := ⟨_, rfl⟩
  have hk : Kept g w W := by subst hW; exact (Kept.refl _ _).alloc _
  have hsW : Src g a n cap W := by subst hW; exact HS.out.alloc _
  have z0 : W.cell? ⟨w.heap.size, 0, none⟩ = some (.slice none 0 0) := by subst hW; simp [go_sem]
  have z1 : W.frozen? ⟨w.heap.size, 0, none⟩ = false := by subst hW; simp [go_sem]
  have L4 : w.heap.size < W.heap.size := by subst hW; simp
  rw [← hW]
  clear hW
  refine (l01DrawPoint_c g a n cap W hn hsW).mono ?_
  rintro e V1 ⟨⟨x0, y0, rfl⟩, hs1, hk1⟩
  go_upto_region 3 with fail
  have hng : w.heap.size ≠ g := by omega
  obtain ⟨kc, kf⟩ := kcell hk1
  replace z0 := (kc _ 0 L4 hng).trans z0
  replace z1 := (kf _ 0 L4 hng).trans z1
  have hz1 := hk1.size
  have hgV : g < V1.heap.size := hs1.lt
  obtain ⟨V2, hV2⟩ : ∃ V, V = (V1.alloc (.cells #[.int .i64 x0, .int .i64 y0] 35)).alloc (.cells #[] 32) := ⟨_, rfl⟩
  have hk2 : Kept g w V2 := by subst hV2; exact ((hk.trans hk1).alloc _).alloc _
  have hs2 : Src g a n cap V2 := by subst hV2; exact (hs1.alloc _).alloc _
  have hb2 : Below V1.heap.size V1 V2 := by subst hV2; exact ((Below.refl _ _).alloc (Nat.le_refl _) _).alloc (by simp) _
  have p0 : V2.cell? ⟨V1.heap.size, 0, none⟩ = some (.int .i64 x0) := by subst hV2; simp [go_sem]
  have p1 : V2.cell? ⟨V1.heap.size, 1, none⟩ = some (.int .i64 y0) := by subst hV2; simp [go_sem]
  have p2 : ∀ o, V2.frozen? ⟨V1.heap.size, o, none⟩ = false := by subst hV2; intro o; simp [go_sem]
  have ow : V2.ownsRow (V1.heap.size + 1) 32 3 (.slice (some ⟨V1.heap.size + 1, 0, none⟩) 0 0) 0 [] := by
    subst hV2
    have := World.ownsRow_lit (base := V1.heap.size + 1) (e := 32) (size := 3) (V1.alloc (.cells #[.int .i64 x0, .int .i64 y0] 35)) #[] 0 (by simp) (by unfold maxLen; omega) rfl
    simpa using this
  have L5 : V1.heap.size < V2.heap.size := by subst hV2; simp; omega
  have L4 : w.heap.size < V2.heap.size := by omega
  have n54 : w.heap.size ≠ V1.heap.size := by omega
  replace z0 := (hb2.cell (p := ⟨w.heap.size, 0, none⟩) (show w.heap.size < V1.heap.size by omega)).trans z0
  replace z1 := (hb2.frozen (p := ⟨w.heap.size, 0, none⟩) (show w.heap.size < V1.heap.size by omega)).trans z1
  have n5 : V1.heap.size ≠ g := by omega
  have nr : V1.heap.size + 1 ≠ g ∧ V1.heap.size < V1.heap.size + 1 := by omega
  rw [← hV2]
  clear hV2 kc kf hk hk1 hsW hs1 hb2
  have h5w : w.heap.size ≤ V1.heap.size := by omega
  have OW := Lib.hid ow
  clear ow
  generalize V1.heap.size + 1 = R0 at *
  generalize V1.heap.size = C5 at *
  go_cut [7] (fun s7 wx => ∃ wd : Int, s7 = .int .i64 wd ∧ 9 ≤ wd ∧ wd ≤ 301 ∧ Src g a n cap wx ∧ Kept g V2 wx)
  case first =>
    go_wp2_with fail
    refine (l01Next_c g a n cap _ _ hn (hs2.alloc _)).mono ?_
    rintro e w1 ⟨⟨r, rfl, hr1, hr2⟩, hs3, hk3⟩
    obtain ⟨h0, h1⟩ := hr1 (by omega)
    obtain ⟨kc, kf⟩ := kcell hk3
    have gn : V2.heap.size ≠ g := by have := hs2.lt; omega
    have e0 := kc V2.heap.size 0 (by simp) gn
    have e1 := kc V2.heap.size 1 (by simp) gn
    have e2 := kc V2.heap.size 2 (by simp) gn
    simp at e0 e1 e2
    have hK : Kept g V2 w1 := ((Kept.refl g V2).alloc _).trans hk3
    clear kc kf hr1 hr2
    have h3 : r = 0 ∨ r = 1 ∨ r = 2 := by omega
    rcases h3 with rfl | rfl | rfl
    all_goals go_wp2_with fail
    · go_meet; exact ⟨9, rfl, by omega, by omega, hs3, hK⟩
    · go_meet; exact ⟨61, rfl, by omega, by omega, hs3, hK⟩
    · go_meet; exact ⟨301, rfl, by omega, by omega, hs3, hK⟩
  case rest =>
    obtain ⟨wd, rfl, wd0, wd1, hs3, HK⟩ := hcut
    obtain ⟨V3, rfl⟩ : ∃ x : World, x = wc := ⟨_, rfl⟩
    obtain ⟨nr, nCR⟩ := nr
    obtain ⟨kc, kf⟩ := kcell HK
    replace z0 := (kc _ 0 L4 hng).trans z0
    replace z1 := (kf _ 0 L4 hng).trans z1
    replace p0 := (kc _ 0 L5 n5).trans p0
    replace p1 := (kc _ 1 L5 n5).trans p1
    replace p2 := fun o => (kf _ o L5 n5).trans (p2 o)
    replace OW := Lib.hid (own_keptk OW.out HK nr)
    replace L4 := Nat.lt_of_lt_of_le L4 HK.size
    replace L5 := Nat.lt_of_lt_of_le L5 HK.size
    replace hk2 := hk2.trans HK
    clear kc kf HK
    go_wp2_with fail
    refine (l01Next_c g a n cap _ _ hn hs3).mono ?_
    rintro e V4 ⟨⟨r, rfl, hr1, hr2⟩, hs4, HK⟩
    obtain ⟨h0, h1⟩ := hr1 (by omega)
    clear hr1 hr2
    obtain ⟨kc, kf⟩ := kcell HK
    replace z0 := (kc _ 0 L4 hng).trans z0
    replace z1 := (kf _ 0 L4 hng).trans z1
    replace p0 := (kc _ 0 L5 n5).trans p0
    replace p1 := (kc _ 1 L5 n5).trans p1
    replace p2 := fun o => (kf _ o L5 n5).trans (p2 o)
    replace OW := Lib.hid (own_keptk OW.out HK nr)
    replace L4 := Nat.lt_of_lt_of_le L4 HK.size
    replace L5 := Nat.lt_of_lt_of_le L5 HK.size
    replace hk2 := hk2.trans HK
    clear kc kf HK
    obtain ⟨rn, hrn⟩ := Int.eq_ofNat_of_zero_le h0
    subst hrn
    go_wp2_with fail
    go_loopw [1, 6, 8] (fun tm v nn wr => ∃ (k R cp : Nat) (L : List Fx) (t x y : Int), tm = .int .i64 t ∧ v = .slice (some ⟨R, 0, none⟩) L.length cp ∧ nn = .int .i64 k ∧ 2 ≤ L.length + k ∧ L.length + k ≤ 9 ∧ Hid (wr.ownsRow R0 32 3 (.slice (some ⟨R, 0, none⟩) L.length cp) L.length (flat L)) ∧ wr.cell? ⟨C5, 0, none⟩ = some (.int .i64 x) ∧ wr.cell? ⟨C5, 1, none⟩ = some (.int .i64 y) ∧ (∀ o, wr.frozen? ⟨C5, o, none⟩ = false) ∧ wr.cell? ⟨w.heap.size, 0, none⟩ = some (.slice none 0 0) ∧ wr.frozen? ⟨w.heap.size, 0, none⟩ = false ∧ C5 < wr.heap.size ∧ w.heap.size < wr.heap.size ∧ R0 ≤ wr.heap.size ∧ Hid (Src g a n cap wr) ∧ Kept g w wr) (fun _ _ nn _ => (intOf nn).toNat)
    case atStart => exact ⟨2 + rn, R0, 0, [], time, x0, y0, rfl, rfl, by simp, by simp, by simp; omega, OW, p0, p1, p2, z0, z1, L5, L4, by have := (OW.out.lt R0 rfl).2; omega, Lib.hid hs4, hk2⟩
    case round =>
      clear OW p0 p1 p2 z0 z1 L4 L5 hk2 hs4 hs3 hs2
      obtain ⟨k, R, cp, L, t, x, y, rfl, rfl, rfl, hlm, hlk, OW, p0, p1, p2, z0, z1, L5, L4, LR, HS4, hk2⟩ := hrel
      obtain ⟨hRR, hRl⟩ := OW.out.lt R rfl
      by_cases h : 0 < k
      · obtain ⟨j, rfl⟩ : ∃ j, k = j + 1 := ⟨k - 1, by omega⟩
        have h' : (0 : Int) < ((j + 1 : Nat) : Int) := by omega
        go_wp2_with (at_builtin; refine wpList_append_lies _ rfl _ _ 24 rfl R0 32 i0 _ 3 24 Try.underlying24 hi ti0 ti1 ti2 rfl (by decide) (.slice (some ⟨R, 0, none⟩) L.length cp) L.length (flat L) rfl (OW.out.alloc _) ⟨wr.heap.size, 0, none⟩ 1 1 [.int .i64 t, .int .i64 x, .int .i64 y] rfl rfl (World.news_of_block (heap_new (by simp))) (one3 _ _ _) (by decide) (by unfold maxLen; omega) (by omega) (by simp; omega) (wr.heap.size + 1) (by simp) ?_; intro R' cp' w1 hown1 hgrow1 hat1 hlt1)
        have hG := grown_below (base := R0) hgrow1 (by simp; omega) (by intro j e; simp [Value.ownBlock] at e; omega)
        have HB1 : Below R0 wr w1 := Below.trans ((Below.refl _ _).alloc LR _) hG
        obtain ⟨U, rfl⟩ : ∃ x : World, x = w1 := ⟨_, rfl⟩
        have hRR' := (hown1.lt R' rfl).1
        replace OW : Hid (U.ownsRow R0 32 3 (.slice (some ⟨R', 0, none⟩) (L ++ [(⟨t, x, y⟩ : Fx)]).length cp') (L ++ [(⟨t, x, y⟩ : Fx)]).length (flat (L ++ [(⟨t, x, y⟩ : Fx)]))) := Lib.hid (by rw [List.length_append, flat_append]; exact hown1)
        have hll : L.length + 1 = (L ++ [(⟨t, x, y⟩ : Fx)]).length := by simp
        have hlk2 : (L ++ [(⟨t, x, y⟩ : Fx)]).length + j ≤ 9 := by rw [← hll]; omega
        have hlm2 : 2 ≤ (L ++ [(⟨t, x, y⟩ : Fx)]).length + j := by rw [← hll]; omega
        rw [hll]
        have nR : R' ≠ g ∧ R' ≠ C5 := by omega
        clear hown1 hgrow1 hat1 hG hll hlk hlm hRR hRl
        generalize L ++ [(⟨t, x, y⟩ : Fx)] = L' at *
        replace p0 := (HB1.cell (p := ⟨C5, 0, none⟩) nCR).trans p0
        replace p1 := (HB1.cell (p := ⟨C5, 1, none⟩) nCR).trans p1
        replace p2 := fun o => (HB1.frozen (p := ⟨C5, o, none⟩) nCR).trans (p2 o)
        have hwR : w.heap.size < R0 := by omega
        replace z0 := (HB1.cell (p := ⟨w.heap.size, 0, none⟩) hwR).trans z0
        replace z1 := (HB1.frozen (p := ⟨w.heap.size, 0, none⟩) hwR).trans z1
        replace HS4 := Lib.hid (HS4.out.belowN HB1 (show g < R0 by omega))
        replace hk2 := kept_belowN hk2 HB1 (Nat.le_of_lt hwR)
        replace L5 := Nat.lt_of_lt_of_le L5 HB1.size
        replace L4 := Nat.lt_of_lt_of_le L4 HB1.size
        replace LR := Nat.le_trans LR HB1.size
        clear HB1
        go_wp2_with fail
        refine (l01Next_c g a n cap _ _ hn HS4.out).mono ?_
        rintro e U2 ⟨⟨r, rfl, hr1, hr2⟩, hs5, HK⟩
        clear hr1 hr2
        replace OW := Lib.hid (own_keptk OW.out HK nR.1)
        obtain ⟨kc, kf⟩ := kcell HK
        replace z0 := (kc _ 0 L4 hng).trans z0
        replace z1 := (kf _ 0 L4 hng).trans z1
        replace p0 := (kc _ 0 L5 n5).trans p0
        replace p1 := (kc _ 1 L5 n5).trans p1
        replace p2 := fun o => (kf _ o L5 n5).trans (p2 o)
        replace L4 := Nat.lt_of_lt_of_le L4 HK.size
        replace L5 := Nat.lt_of_lt_of_le L5 HK.size
        replace LR := Nat.le_trans LR HK.size
        replace hk2 := hk2.trans HK
        replace HS4 := Lib.hid hs5
        clear kc kf HK hs5
        go_wp2_with fail
        go_cut [8] (fun s8 wx => s8 = .int .i64 ((j + 1 : Nat) : Int) ∧ (∃ z : Int, wx.cell? ⟨C5, 0, none⟩ = some (.int .i64 z)) ∧ (∃ z : Int, wx.cell? ⟨C5, 1, none⟩ = some (.int .i64 z)) ∧ (∀ o, wx.frozen? ⟨C5, o, none⟩ = false) ∧ Src g a n cap wx ∧ KX g C5 U2 wx)
        case first =>
          go_region_with (go_at_call 54; refine (l01Next_c g a n cap _ _ hn (by first | exact HS4.out | exact HS4.out.drew)).mono ?_; rintro e w1 ⟨⟨r, rfl, hr1, hr2⟩, hs5, HK⟩; have hm0 := (kcell HK).1 C5 0 (by first | exact L5 | simpa using L5) n5; have hm1 := (kcell HK).1 C5 1 (by first | exact L5 | simpa using L5) n5; have hm2 := fun o => (kcell HK).2 C5 o (by first | exact L5 | simpa using L5) n5; have hKX : KX g C5 U2 w1 := by first | exact KX.of HK | exact KX.of ⟨HK.os, HK.tape, HK.output, HK.size, HK.block⟩)
          all_goals go_wp2_with fail
          all_goals go_meet
          all_goals refine ⟨rfl, ⟨_, World.cell?_setCell_same _ _ _ (hm0.trans p0)⟩, ⟨_, (World.cell?_setCell_other _ _ _ _ (by simp)).trans (hm1.trans p1)⟩, fun o => (World.frozen?_setCell ..).trans ((hm2 o).trans (p2 o)), ?_, ?_⟩
          all_goals first | exact hs5.setCell hgV _ | exact (hs5.setCell hgV _).drew | exact hKX.set _ | exact (hKX.set _).drew
        case rest =>
          obtain ⟨rfl, ⟨y0, q0⟩, ⟨y1, q1⟩, p2', hs5, hx⟩ := hcut
          obtain ⟨U3, rfl⟩ : ∃ x : World, x = wc := ⟨_, rfl⟩
          replace z0 := (hx.cell L4 hng n54).trans z0
          replace z1 := (hx.frozen L4 hng n54).trans z1
          replace OW := Lib.hid (hx.own OW.out nR.1 nR.2)
          replace L4 := Nat.lt_of_lt_of_le L4 hx.size
          replace L5 := Nat.lt_of_lt_of_le L5 hx.size
          replace LR := Nat.le_trans LR hx.size
          replace hk2 := hx.kept hk2 h5w
          replace HS4 := Lib.hid hs5
          clear hx hs5 p0 p1 p2
          have p0 := q0
          have p1 := q1
          have p2 := p2'
          clear q0 q1 p2'
          go_wp2_with fail
          go_region_with (go_at_call 54; refine (l01Next_c g a n cap _ _ hn (by first | exact HS4.out | exact HS4.out.drew)).mono ?_; rintro e w1 ⟨⟨r, rfl, hr1, hr2⟩, hs5, HK⟩; have hm0 := (kcell HK).1 C5 0 (by first | exact L5 | simpa using L5) n5; have hm1 := (kcell HK).1 C5 1 (by first | exact L5 | simpa using L5) n5; have hm2 := fun o => (kcell HK).2 C5 o (by first | exact L5 | simpa using L5) n5; have hKX : KX g C5 U3 w1 := by first | exact KX.of HK | exact KX.of ⟨HK.os, HK.tape, HK.output, HK.size, HK.block⟩)
          all_goals go_wp2
          all_goals first | exact ⟨⟨j, R', cp', L', _, _, _, rfl, rfl, by simp, hlm2, hlk2, Lib.hid ((hKX.set _).own OW.out nR.1 nR.2), (World.cell?_setCell_other _ _ _ _ (by simp)).trans (hm0.trans p0), World.cell?_setCell_same _ _ _ (hm1.trans p1), fun o => (World.frozen?_setCell ..).trans ((hm2 o).trans (p2 o)), ((hKX.set _).cell L4 hng n54).trans z0, ((hKX.set _).frozen L4 hng n54).trans z1, Nat.lt_of_lt_of_le L5 (hKX.set _).size, Nat.lt_of_lt_of_le L4 (hKX.set _).size, Nat.le_trans LR (hKX.set _).size, Lib.hid (hs5.setCell hgV _), (hKX.set _).kept hk2 h5w⟩, by simp [intOf]⟩ | exact ⟨⟨j, R', cp', L', _, _, _, rfl, rfl, by simp, hlm2, hlk2, Lib.hid ((hKX.set _).drew.own OW.out nR.1 nR.2), (World.cell?_setCell_other _ _ _ _ (by simp)).trans (hm0.trans p0), World.cell?_setCell_same _ _ _ (hm1.trans p1), fun o => (World.frozen?_setCell ..).trans ((hm2 o).trans (p2 o)), ((hKX.set _).drew.cell L4 hng n54).trans z0, ((hKX.set _).drew.frozen L4 hng n54).trans z1, Nat.lt_of_lt_of_le L5 (hKX.set _).drew.size, Nat.lt_of_lt_of_le L4 (hKX.set _).drew.size, Nat.le_trans LR (hKX.set _).drew.size, Lib.hid (hs5.setCell hgV _).drew, (hKX.set _).drew.kept hk2 h5w⟩, by simp [intOf]⟩
      · obtain rfl : k = 0 := by omega
        go_wp2
        have HO := Lib.hid (own_mono (ownsRow_setCell_below OW.out (a := ⟨w.heap.size, 0, none⟩) (show w.heap.size < R0 by omega) (.slice (some ⟨R, 0, none⟩) L.length cp)) (show w.heap.size ≤ R0 by omega))
        exact bodyPost_ret (v := .agg #[.slice (some ⟨R, 0, none⟩) L.length cp]) (by simp [results, Try.results126, go_sem, z0]) rfl ⟨⟨R, cp, L, rfl, by omega, by omega, HO.out⟩, HS4.out.setCell (show g < w.heap.size from hgl) _, hk2.setCell (.inr (Nat.le_refl _)) _⟩
set_option maxRecDepth 100000 in
set_option maxHeartbeats 1000000 in
theorem l03Draw_c (g : Nat) (a : Option Addr) (n cap : Nat) (w : World) (hn : n ≤ 9223372036854775807) (hs : Src g a n cap w) : Calls Try.prog 102 #[.pointer (some ⟨g, 0, none⟩)] w fun e w' => (∃ (r cp : Nat) (l : List Fx), e = .returned (.agg #[.slice (some ⟨r, 0, none⟩) l.length cp]) ∧ 2 ≤ l.length ∧ l.length ≤ 16 ∧ w'.ownsRow w.heap.size 32 3 (.slice (some ⟨r, 0, none⟩) l.length cp) l.length (flat l)) ∧ Src g a n cap w' ∧ Kept g w w' := by
  have hgl := hs.lt
  have HS := Lib.hid hs
  clear hs
  go_enter Try.func102, Try.ntmps102
  go_wp2_with fail
  obtain ⟨W, hW⟩ : ∃ W, W = w.alloc (.cells #[.slice none 0 0] 26) := ⟨_, rfl⟩
  have hk : Kept g w W := by subst hW; exact (Kept.refl _ _).alloc _
  have hsW : Src g a n cap W := by subst hW; exact HS.out.alloc _
  have z0 : W.cell? ⟨w.heap.size, 0, none⟩ = some (.slice none 0 0) := by subst hW; simp [go_sem]
  have z1 : W.frozen? ⟨w.heap.size, 0, none⟩ = false := by subst hW; simp [go_sem]
  have L4 : w.heap.size < W.heap.size := by subst hW; simp
  rw [← hW]
  clear hW
  have hng : w.heap.size ≠ g := by omega
  refine (l01Next_c g a n cap _ W hn hsW).mono ?_
  rintro e V1 ⟨⟨t, rfl, hr1, hr2⟩, hs1, hk1⟩
  replace z0 := ((kcell hk1).1 _ 0 L4 hng).trans z0
  replace z1 := ((kcell hk1).2 _ 0 L4 hng).trans z1
  replace L4 := Nat.lt_of_lt_of_le L4 hk1.size
  replace hk := hk.trans hk1
  clear hr1 hr2 hk1 hsW
  go_wp2_with fail
  refine (l03DrawFrom_c g a n cap t V1 hn hs1).mono ?_
  rintro e V2 ⟨⟨r, cp, l, rfl, hl0, hl, ho⟩, hs2, hk2⟩
  replace z0 := ((kcell hk2).1 _ 0 L4 hng).trans z0
  replace z1 := ((kcell hk2).2 _ 0 L4 hng).trans z1
  have hO := Lib.hid (own_mono (ownsRow_setCell_below ho (a := ⟨w.heap.size, 0, none⟩) L4 (.slice (some ⟨r, 0, none⟩) l.length cp)) (Nat.le_of_lt L4))
  replace hk := hk.trans hk2
  clear ho hk2
  go_wp2
  exact bodyPost_ret (v := .agg #[.slice (some ⟨r, 0, none⟩) l.length cp]) (by simp [results, Try.results102, go_sem, z0]) rfl ⟨⟨r, cp, l, rfl, hl0, hl, hO.out⟩, hs2.setCell hgl _, hk.setCell (.inr (Nat.le_refl _)) _⟩
end Go.Proofs.Ytdepdkpehbkcjaa
