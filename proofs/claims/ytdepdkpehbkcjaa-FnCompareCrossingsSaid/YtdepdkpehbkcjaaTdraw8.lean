/-
  Drawn crossings of a track. Conditions: the code's bytes lie in the world.
-/
import Derived.Test.YtdepdkpehbkcjaaTdraw7
import Derived.Test.YtdepdkpehbkcjaaL05k
namespace Go.Proofs.Ytdepdkpehbkcjaa
set_option linter.unusedVariables false
open Go.RowKit Go.Deep

/-- a result of five numbers, as it was made -/
structure HB5 (B : Nat) (X : World) : Prop where
  c : ∀ o, o < 5 → X.cell? ⟨B, o, none⟩ = some (.int .i64 0)
  f : ∀ o, X.frozen? ⟨B, o, none⟩ = false
  lt : B < X.heap.size
theorem HB5.step {B g : Nat} {X Y : World} (h : HB5 B X) (hk : Kept g X Y) (hB : B ≠ g) : HB5 B Y :=
  ⟨fun o ho => ((kcell hk).1 B o h.lt hB).trans (h.c o ho), fun o => ((kcell hk).2 B o h.lt hB).trans (h.f o), Nat.lt_of_lt_of_le h.lt hk.size⟩
theorem kept_set5 {g B : Nat} {w X : World} (h : Kept g w X) (hB : w.heap.size ≤ B) (u0 u1 u2 u3 u4 : Value) : Kept g w (((((X.setCell ⟨B, 0, none⟩ u0).setCell ⟨B, 1, none⟩ u1).setCell ⟨B, 2, none⟩ u2).setCell ⟨B, 3, none⟩ u3).setCell ⟨B, 4, none⟩ u4) := (kept_set4 h hB _ _ _ _).setCell (.inr hB) _
theorem src_set5 {g n cap B : Nat} {a : Option Addr} {X : World} (h : Src g a n cap X) (hB : g < B) (u0 u1 u2 u3 u4 : Value) : Src g a n cap (((((X.setCell ⟨B, 0, none⟩ u0).setCell ⟨B, 1, none⟩ u1).setCell ⟨B, 2, none⟩ u2).setCell ⟨B, 3, none⟩ u3).setCell ⟨B, 4, none⟩ u4) := (src_set4 h hB _ _ _ _).setCell (p := ⟨B, 4, none⟩) hB _
theorem row_lt5 {w : World} {g k : Nat} {L : List Cr} (h : RowAt w (some ⟨g, 0, none⟩) (crFlat L)) (hk : k < L.length) : g < w.heap.size := by
  obtain ⟨b, off, hb, hlt, _⟩ := row_cell' h hk
  simp only [Option.some.injEq, Addr.mk.injEq] at hb
  omega
set_option maxRecDepth 100000 in
set_option maxHeartbeats 1000000 in
theorem l05DrawCrossing_c (g r base cp : Nat) (a : Option Addr) (n cap : Nat) (l : List Fx) (w : World) (hn : n ≤ 9223372036854775807) (hl : l.length ≤ 1000) (hs : Src g a n cap w) (hrg : r ≠ g) (ho : w.ownsRow base 32 3 (.slice (some ⟨r, 0, none⟩) l.length cp) l.length (flat l)) : Calls Try.prog 97 #[.pointer (some ⟨g, 0, none⟩), .agg #[.slice (some ⟨r, 0, none⟩) l.length cp]] w fun e w' => (∃ x y z u v : Int, e = .returned (.agg #[.int .i64 x, .int .i64 y, .int .i64 z, .int .i64 u, .int .i64 v])) ∧ Src g a n cap w' ∧ Kept g w w' := by
  have hgl := hs.lt
  obtain ⟨V0, hV0⟩ : ∃ V, V = (w.alloc (.cells #[.slice (some ⟨r, 0, none⟩) l.length cp] 26)).alloc (.cells #[.int .i64 0, .int .i64 0, .int .i64 0, .int .i64 0, .int .i64 0] 57) := ⟨_, rfl⟩
  have HT : HoldT g n cap w.heap.size r cp base 32 a l w V0 := by
    subst hV0
    exact HoldT.alloc ⟨by simp [go_sem], by simp, ho.alloc _, hs.alloc _, (Kept.refl _ _).alloc _⟩ _
  have HB : HB5 (w.heap.size + 1) V0 := by
    subst hV0
    exact ⟨fun o ho => by (obtain rfl | rfl | rfl | rfl | rfl : o = 0 ∨ o = 1 ∨ o = 2 ∨ o = 3 ∨ o = 4 := by omega) <;> simp [go_sem], fun o => by simp [go_sem], by simp⟩
  have hPg : w.heap.size ≠ g := by omega
  have hBg : w.heap.size + 1 ≠ g := by omega
  have hgB : g < w.heap.size + 1 := by omega
  have hl2 : l.length ≤ 4611686018427387904 := by omega
  have KS := Lib.hid (fun X (h : Kept g w X) u0 u1 u2 u3 u4 => kept_set5 (B := w.heap.size + 1) h (Nat.le_succ _) u0 u1 u2 u3 u4)
  clear hs ho
  go_enter Try.func97, Try.ntmps97
  go_wp2_with fail
  rw [← hV0]
  clear hV0
  generalize w.heap.size + 1 = B at *
  generalize w.heap.size = P at *
  replace HT := Lib.hid HT
  replace HB := Lib.hid HB
  have p0 := HT.out.p0
  have lP := HT.out.lP
  refine (IsTrackS_c (some ⟨r, 0, none⟩) cp l _ hl2 (fixAt_own HT.out.own)).mono ?_
  rintro e V1 ⟨rfl, hb⟩
  clear p0 lP
  replace HB := Lib.hid (HB.out.step (g := g) (kept_of_below hb) hBg)
  replace HT := Lib.hid (HT.out.step hPg hrg (HT.out.src.belowN hb (HT.out.src.lt)) (kept_of_below hb))
  clear hb
  by_cases hT : isTrk l = true
  case neg =>
    have hT2 : isTrk l = false := by simpa using hT
    go_wp2_with fail
    refine (l01Next_c g a n cap _ _ hn HT.out.src).mono ?_
    rintro e D1 ⟨⟨dn, rfl, hq1, hq2⟩, hs1, hk1⟩
    clear hq1 hq2
    replace HB := Lib.hid (HB.out.step hk1 hBg)
    replace HT := Lib.hid (HT.out.step hPg hrg hs1 hk1)
    clear hs1 hk1
    go_wp2_with fail
    refine (l01Next_c g a n cap _ _ hn HT.out.src).mono ?_
    rintro e D10 ⟨⟨dq0, rfl, hq1, hq2⟩, hs1, hk1⟩
    clear hq1 hq2
    replace HB := Lib.hid (HB.out.step hk1 hBg)
    replace HT := Lib.hid (HT.out.step hPg hrg hs1 hk1)
    clear hs1 hk1
    go_wp2_with fail
    refine (l01Next_c g a n cap _ _ hn HT.out.src).mono ?_
    rintro e D11 ⟨⟨dq1, rfl, hq1, hq2⟩, hs1, hk1⟩
    clear hq1 hq2
    replace HB := Lib.hid (HB.out.step hk1 hBg)
    replace HT := Lib.hid (HT.out.step hPg hrg hs1 hk1)
    clear hs1 hk1
    go_wp2_with fail
    refine (l01Next_c g a n cap _ _ hn HT.out.src).mono ?_
    rintro e D12 ⟨⟨dq2, rfl, hq1, hq2⟩, hs1, hk1⟩
    clear hq1 hq2
    replace HB := Lib.hid (HB.out.step hk1 hBg)
    replace HT := Lib.hid (HT.out.step hPg hrg hs1 hk1)
    clear hs1 hk1
    go_wp2_with fail
    refine (l01Next_c g a n cap _ _ hn HT.out.src).mono ?_
    rintro e D13 ⟨⟨dq3, rfl, hq1, hq2⟩, hs1, hk1⟩
    clear hq1 hq2
    replace HB := Lib.hid (HB.out.step hk1 hBg)
    replace HT := Lib.hid (HT.out.step hPg hrg hs1 hk1)
    clear hs1 hk1
    have hkK := HT.out.kept
    have hs9 := HT.out.src
    have e0 := HB.out.c 0 (by omega)
    have e1 := HB.out.c 1 (by omega)
    have e2 := HB.out.c 2 (by omega)
    have e3 := HB.out.c 3 (by omega)
    have e4 := HB.out.c 4 (by omega)
    have ef := HB.out.f
    have el := HB.out.lt
    go_wp2_with fail
    refine bodyPost_ret (v := .agg #[.int .i64 _, .int .i64 _, .int .i64 _, .int .i64 _, .int .i64 _]) (by simp [results, Try.results97, go_sem, e0, e1, e2, e3, e4]; (try exact ⟨rfl, rfl, rfl, rfl, rfl⟩)) rfl ⟨⟨_, _, _, _, _, rfl⟩, ?_, ?_⟩
    · first | exact src_set5 hs9 hgB _ _ _ _ _ | exact (src_set5 hs9 hgB _ _ _ _ _).alloc _
    · first | exact KS.out _ hkK _ _ _ _ _ | exact (KS.out _ hkK _ _ _ _ _).alloc _
  case pos =>
    go_wp2_with fail
    refine (l01Next_c g a n cap _ _ hn HT.out.src).mono ?_
    rintro e V2 ⟨⟨q, rfl, hq1, hq2⟩, hs1, hk1⟩
    clear hq1 hq2
    replace HB := Lib.hid (HB.out.step hk1 hBg)
    replace HT := Lib.hid (HT.out.step hPg hrg hs1 hk1)
    clear hs1 hk1
    by_cases hq : q = 0
    case pos =>
      subst hq
      go_wp2_with fail
      refine (l01Next_c g a n cap _ _ hn HT.out.src).mono ?_
      rintro e D2 ⟨⟨dn, rfl, hq1, hq2⟩, hs1, hk1⟩
      clear hq1 hq2
      replace HB := Lib.hid (HB.out.step hk1 hBg)
      replace HT := Lib.hid (HT.out.step hPg hrg hs1 hk1)
      clear hs1 hk1
      go_wp2_with fail
      refine (l01Next_c g a n cap _ _ hn HT.out.src).mono ?_
      rintro e D20 ⟨⟨dq0, rfl, hq1, hq2⟩, hs1, hk1⟩
      clear hq1 hq2
      replace HB := Lib.hid (HB.out.step hk1 hBg)
      replace HT := Lib.hid (HT.out.step hPg hrg hs1 hk1)
      clear hs1 hk1
      go_wp2_with fail
      refine (l01Next_c g a n cap _ _ hn HT.out.src).mono ?_
      rintro e D21 ⟨⟨dq1, rfl, hq1, hq2⟩, hs1, hk1⟩
      clear hq1 hq2
      replace HB := Lib.hid (HB.out.step hk1 hBg)
      replace HT := Lib.hid (HT.out.step hPg hrg hs1 hk1)
      clear hs1 hk1
      go_wp2_with fail
      refine (l01Next_c g a n cap _ _ hn HT.out.src).mono ?_
      rintro e D22 ⟨⟨dq2, rfl, hq1, hq2⟩, hs1, hk1⟩
      clear hq1 hq2
      replace HB := Lib.hid (HB.out.step hk1 hBg)
      replace HT := Lib.hid (HT.out.step hPg hrg hs1 hk1)
      clear hs1 hk1
      go_wp2_with fail
      refine (l01Next_c g a n cap _ _ hn HT.out.src).mono ?_
      rintro e D23 ⟨⟨dq3, rfl, hq1, hq2⟩, hs1, hk1⟩
      clear hq1 hq2
      replace HB := Lib.hid (HB.out.step hk1 hBg)
      replace HT := Lib.hid (HT.out.step hPg hrg hs1 hk1)
      clear hs1 hk1
      have hkK := HT.out.kept
      have hs9 := HT.out.src
      have e0 := HB.out.c 0 (by omega)
      have e1 := HB.out.c 1 (by omega)
      have e2 := HB.out.c 2 (by omega)
      have e3 := HB.out.c 3 (by omega)
      have e4 := HB.out.c 4 (by omega)
      have ef := HB.out.f
      have el := HB.out.lt
      go_wp2_with fail
      refine bodyPost_ret (v := .agg #[.int .i64 _, .int .i64 _, .int .i64 _, .int .i64 _, .int .i64 _]) (by simp [results, Try.results97, go_sem, e0, e1, e2, e3, e4]; (try exact ⟨rfl, rfl, rfl, rfl, rfl⟩)) rfl ⟨⟨_, _, _, _, _, rfl⟩, ?_, ?_⟩
      · first | exact src_set5 hs9 hgB _ _ _ _ _ | exact (src_set5 hs9 hgB _ _ _ _ _).alloc _
      · first | exact KS.out _ hkK _ _ _ _ _ | exact (KS.out _ hkK _ _ _ _ _).alloc _
    case neg =>
      have p0 := HT.out.p0
      have lP := HT.out.lP
      go_wp2_with fail
      refine (l05DrawLine_c g r base cp a n cap l _ hn hl HT.out.src hrg HT.out.own).mono ?_
      rintro e V3 ⟨⟨x, y, z, u, rfl⟩, hs1, hk1⟩
      clear p0 lP
      replace HB := Lib.hid (HB.out.step hk1 hBg)
      replace HT := Lib.hid (HT.out.step hPg hrg hs1 hk1)
      clear hs1 hk1
      go_wp2_with fail
      obtain ⟨X, hX⟩ : ∃ X, X = V3.alloc (.cells #[.int .i64 x, .int .i64 y, .int .i64 z, .int .i64 u] 66) := ⟨_, rfl⟩
      have hb : Below V3.heap.size V3 X := by subst hX; exact (Below.refl _ _).alloc (Nat.le_refl _) _
      have t0 : X.cell? ⟨V3.heap.size, 0, none⟩ = some (.int .i64 x) := by subst hX; simp [go_sem]
      have t1 : X.cell? ⟨V3.heap.size, 1, none⟩ = some (.int .i64 y) := by subst hX; simp [go_sem]
      have t2 : X.cell? ⟨V3.heap.size, 2, none⟩ = some (.int .i64 z) := by subst hX; simp [go_sem]
      have t3 : X.cell? ⟨V3.heap.size, 3, none⟩ = some (.int .i64 u) := by subst hX; simp [go_sem]
      have LC : V3.heap.size < X.heap.size := by subst hX; simp
      have nC : V3.heap.size ≠ g := by have := HT.out.src.lt; omega
      rw [← hX]
      clear hX
      replace HB := Lib.hid (HB.out.step (g := g) (kept_of_below hb) hBg)
      replace HT := Lib.hid (HT.out.step hPg hrg (HT.out.src.belowN hb (HT.out.src.lt)) (kept_of_below hb))
      clear hb
      generalize V3.heap.size = C at *
      refine (isLineS_c x y z u _).mono ?_
      rintro e V4 ⟨rfl, hb⟩
      replace t0 := ((bcell hb).1 C 0 LC).trans t0
      replace t1 := ((bcell hb).1 C 1 LC).trans t1
      replace t2 := ((bcell hb).1 C 2 LC).trans t2
      replace t3 := ((bcell hb).1 C 3 LC).trans t3
      replace LC := Nat.lt_of_lt_of_le LC hb.size
      replace HB := Lib.hid (HB.out.step (g := g) (kept_of_below hb) hBg)
      replace HT := Lib.hid (HT.out.step hPg hrg (HT.out.src.belowN hb (HT.out.src.lt)) (kept_of_below hb))
      clear hb
      by_cases hS : isSeg x y z u = true
      case neg =>
        have hS2 : isSeg x y z u = false := by simpa using hS
        have hkK := HT.out.kept
        have hs9 := HT.out.src
        have e0 := HB.out.c 0 (by omega)
        have e1 := HB.out.c 1 (by omega)
        have e2 := HB.out.c 2 (by omega)
        have e3 := HB.out.c 3 (by omega)
        have e4 := HB.out.c 4 (by omega)
        have ef := HB.out.f
        have el := HB.out.lt
        go_wp2_with fail
        refine bodyPost_ret (v := .agg #[.int .i64 0, .int .i64 0, .int .i64 0, .int .i64 0, .int .i64 1]) (by simp [results, Try.results97, go_sem, e0, e1, e2, e3, e4]; (try exact ⟨rfl, rfl, rfl, rfl, rfl⟩)) rfl ⟨⟨_, _, _, _, _, rfl⟩, ?_, ?_⟩
        · first | exact src_set5 hs9 hgB _ _ _ _ _ | exact (src_set5 hs9 hgB _ _ _ _ _).alloc _
        · first | exact KS.out _ hkK _ _ _ _ _ | exact (KS.out _ hkK _ _ _ _ _).alloc _
      case pos =>
        have p0 := HT.out.p0
        have lP := HT.out.lP
        go_wp2_with fail
        refine (l05Crossings_c (some ⟨r, 0, none⟩) cp l x y z u _ hl2 hT hS (fixAt_own HT.out.own)).mono ?_
        rintro e V5 ⟨⟨rg, rcp, rfl, hrow, hrg2⟩, hb⟩
        clear p0 lP
        have nR : rg ≠ g := by have := HT.out.src.lt; omega
        have RW := Lib.hid (rowAt_own hrow)
        clear t0 t1 t2 t3 hrow
        replace HB := Lib.hid (HB.out.step (g := g) (kept_of_below hb) hBg)
        replace HT := Lib.hid (HT.out.step hPg hrg (HT.out.src.belowN hb (HT.out.src.lt)) (kept_of_below hb))
        clear hb
        have hLc : (crs l x y z u (l.length - 1)).length ≤ 1000 := by have := crs_len l x y z u (l.length - 1); omega
        generalize crs l x y z u (l.length - 1) = Lc at *
        by_cases h0 : Lc.length = 0
        case pos =>
          rw [h0]
          have hkK := HT.out.kept
          have hs9 := HT.out.src
          have e0 := HB.out.c 0 (by omega)
          have e1 := HB.out.c 1 (by omega)
          have e2 := HB.out.c 2 (by omega)
          have e3 := HB.out.c 3 (by omega)
          have e4 := HB.out.c 4 (by omega)
          have ef := HB.out.f
          have el := HB.out.lt
          go_wp2_with fail
          refine bodyPost_ret (v := .agg #[.int .i64 0, .int .i64 0, .int .i64 0, .int .i64 1, .int .i64 2]) (by simp [results, Try.results97, go_sem, e0, e1, e2, e3, e4]; (try exact ⟨rfl, rfl, rfl, rfl, rfl⟩)) rfl ⟨⟨_, _, _, _, _, rfl⟩, ?_, ?_⟩
          · first | exact src_set5 hs9 hgB _ _ _ _ _ | exact (src_set5 hs9 hgB _ _ _ _ _).alloc _
          · first | exact KS.out _ hkK _ _ _ _ _ | exact (KS.out _ hkK _ _ _ _ _).alloc _
        case neg =>
          have h1 : ¬ (Lc.length : Int) = 0 := by omega
          go_wp2_with fail
          refine (l01NextN_c g a n cap _ _ hn HT.out.src).mono ?_
          rintro e V6 ⟨⟨q, rfl, hq1, hq2⟩, hs1, hk1⟩
          have hqL : q < Lc.length := by
            by_cases h : (1 : Int) < (Lc.length : Int)
            · have := (hq1 h).1; omega
            · have := hq2 (by omega); omega
          clear hq1 hq2
          obtain ⟨f0, f1, f2, f3, f4⟩ := row_cell RW.out hqL
          have lR : rg < V5.heap.size := row_lt5 RW.out hqL
          replace f0 := ((kcell hk1).1 rg _ lR nR).trans f0
          replace f1 := ((kcell hk1).1 rg _ lR nR).trans f1
          replace f2 := ((kcell hk1).1 rg _ lR nR).trans f2
          replace f3 := ((kcell hk1).1 rg _ lR nR).trans f3
          replace f4 := ((kcell hk1).1 rg _ lR nR).trans f4
          replace lR := Nat.lt_of_lt_of_le lR hk1.size
          replace HB := Lib.hid (HB.out.step hk1 hBg)
          replace HT := Lib.hid (HT.out.step hPg hrg hs1 hk1)
          clear hs1 hk1
          have hq3 : (q : Int) < (Lc.length : Int) := by omega
          generalize cr Lc q = c at *
          have hkK := HT.out.kept
          have hs9 := HT.out.src
          have e0 := HB.out.c 0 (by omega)
          have e1 := HB.out.c 1 (by omega)
          have e2 := HB.out.c 2 (by omega)
          have e3 := HB.out.c 3 (by omega)
          have e4 := HB.out.c 4 (by omega)
          have ef := HB.out.f
          have el := HB.out.lt
          go_wp2_with fail
          refine bodyPost_ret (v := .agg #[.int .i64 c.t, .int .i64 c.leg, .int .i64 c.way, .int .i64 c.num, .int .i64 c.den]) (by simp [results, Try.results97, go_sem, e0, e1, e2, e3, e4]; (try exact ⟨rfl, rfl, rfl, rfl, rfl⟩)) rfl ⟨⟨_, _, _, _, _, rfl⟩, ?_, ?_⟩
          · first | exact src_set5 hs9 hgB _ _ _ _ _ | exact (src_set5 hs9 hgB _ _ _ _ _).alloc _
          · first | exact KS.out _ hkK _ _ _ _ _ | exact (KS.out _ hkK _ _ _ _ _).alloc _
end Go.Proofs.Ytdepdkpehbkcjaa
