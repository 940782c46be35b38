/-
  Drawn lines that a track often crosses. Conditions: the code's bytes lie in the world.
-/
import Derived.Test.YtdepdkpehbkcjaaTdraw5
import Derived.Test.YtdepdkpehbkcjaaTdraw3
import Derived.Test.YtdepdkpehbkcjaaDraw4
namespace Go.Proofs.Ytdepdkpehbkcjaa
set_option linter.unusedVariables false
open Go.RowKit Go.Deep

theorem wrap_in (x : Int) : -9223372036854775808 ≤ IntKind.i64.wrap x ∧ IntKind.i64.wrap x ≤ 9223372036854775807 := by rw [IntKind.wrap_i64]; omega
theorem l01FloorE_c (x : Int) (w : World) : Calls Try.prog 120 #[.int .i64 x, .int .i64 2] w fun e w' => (∃ z : Int, e = .returned (.int .i64 z)) ∧ w = w' := by
  go_enter Try.func120, Try.ntmps120
  go_wp2
  all_goals go_ret
  all_goals exact ⟨⟨_, rfl⟩, rfl⟩
theorem kept_of_below {g : Nat} {w w' : World} (h : Below w.heap.size w w') : Kept g w w' := ⟨h.os, h.tape, h.output, h.size, fun k hk _ => h.block k hk⟩
/-- a result of four numbers, as it was made -/
structure HB4 (B : Nat) (X : World) : Prop where
  c : ∀ o, o < 4 → X.cell? ⟨B, o, none⟩ = some (.int .i64 0)
  f : ∀ o, X.frozen? ⟨B, o, none⟩ = false
  lt : B < X.heap.size
theorem HB4.step {B g : Nat} {X Y : World} (h : HB4 B X) (hk : Kept g X Y) (hB : B ≠ g) : HB4 B Y :=
  ⟨fun o ho => ((kcell hk).1 B o h.lt hB).trans (h.c o ho), fun o => ((kcell hk).2 B o h.lt hB).trans (h.f o), Nat.lt_of_lt_of_le h.lt hk.size⟩
theorem HB4.alloc {B : Nat} {X : World} (h : HB4 B X) (o : Obj) : HB4 B (X.alloc o) := h.step (g := X.heap.size) ((Kept.refl _ _).alloc o) (Nat.ne_of_lt h.lt)
theorem HB4.drew {B : Nat} {X : World} (h : HB4 B X) : HB4 B X.drew := ⟨h.c, h.f, h.lt⟩
theorem kept_set4 {g B : Nat} {w X : World} (h : Kept g w X) (hB : w.heap.size ≤ B) (u0 u1 u2 u3 : Value) : Kept g w ((((X.setCell ⟨B, 0, none⟩ u0).setCell ⟨B, 1, none⟩ u1).setCell ⟨B, 2, none⟩ u2).setCell ⟨B, 3, none⟩ u3) := (((h.setCell (.inr hB) _).setCell (.inr hB) _).setCell (.inr hB) _).setCell (.inr hB) _
theorem src_set4 {g n cap B : Nat} {a : Option Addr} {X : World} (h : Src g a n cap X) (hB : g < B) (u0 u1 u2 u3 : Value) : Src g a n cap ((((X.setCell ⟨B, 0, none⟩ u0).setCell ⟨B, 1, none⟩ u1).setCell ⟨B, 2, none⟩ u2).setCell ⟨B, 3, none⟩ u3) := (((h.setCell (p := ⟨B, 0, none⟩) hB _).setCell (p := ⟨B, 1, none⟩) hB _).setCell (p := ⟨B, 2, none⟩) hB _).setCell (p := ⟨B, 3, none⟩) hB _
set_option maxRecDepth 100000 in
set_option maxHeartbeats 1000000 in
theorem l05DrawLine_c (g r base cp : Nat) (a : Option Addr) (n cap : Nat) (l : List Fx) (w : World) (hn : n ≤ 9223372036854775807) (hl : l.length ≤ 1000) (hs : Src g a n cap w) (hrg : r ≠ g) (ho : w.ownsRow base 32 3 (.slice (some ⟨r, 0, none⟩) l.length cp) l.length (flat l)) : Calls Try.prog 122 #[.pointer (some ⟨g, 0, none⟩), .agg #[.slice (some ⟨r, 0, none⟩) l.length cp]] w fun e w' => (∃ x y z u : Int, e = .returned (.agg #[.int .i64 x, .int .i64 y, .int .i64 z, .int .i64 u])) ∧ Src g a n cap w' ∧ Kept g w w' := by
  have hgl := hs.lt
  obtain ⟨V0, hV0⟩ : ∃ V, V = (w.alloc (.cells #[.slice (some ⟨r, 0, none⟩) l.length cp] 26)).alloc (.cells #[.int .i64 0, .int .i64 0, .int .i64 0, .int .i64 0] 66) := ⟨_, rfl⟩
  have HT : HoldT g n cap w.heap.size r cp base 32 a l w V0 := by
    subst hV0
    exact HoldT.alloc ⟨by simp [go_sem], by simp, ho.alloc _, hs.alloc _, (Kept.refl _ _).alloc _⟩ _
  have HB : HB4 (w.heap.size + 1) V0 := by
    subst hV0
    exact ⟨fun o ho => by (obtain rfl | rfl | rfl | rfl : o = 0 ∨ o = 1 ∨ o = 2 ∨ o = 3 := by omega) <;> simp [go_sem], fun o => by simp [go_sem], by simp⟩
  have hPg : w.heap.size ≠ g := by omega
  have hBg : w.heap.size + 1 ≠ g := by omega
  have hgB : g < w.heap.size + 1 := by omega
  have hwB : w.heap.size ≤ w.heap.size + 1 := by omega
  have KS := Lib.hid (fun X (h : Kept g w X) u0 u1 u2 u3 => kept_set4 (B := w.heap.size + 1) h (Nat.le_succ _) u0 u1 u2 u3)
  clear hs ho hwB
  by_cases h2 : (l.length : Int) < 2
  · go_enter Try.func122, Try.ntmps122
    go_wp2_with fail
    rw [← hV0]
    refine (l02DrawAny_c g a n cap _ hn HT.src).mono ?_
    rintro e V9 ⟨⟨x0, x1, x2, x3, rfl⟩, hs9, hk9⟩
    have hB9 := HB.step hk9 hBg
    have e0 := hB9.c 0 (by omega)
    have e1 := hB9.c 1 (by omega)
    have e2 := hB9.c 2 (by omega)
    have e3 := hB9.c 3 (by omega)
    have ef := hB9.f
    have el := hB9.lt
    have hkK := HT.kept.trans hk9
    clear hB9 hk9 HB
    go_wp2_with fail
    exact bodyPost_ret (v := .agg #[.int .i64 x0, .int .i64 x1, .int .i64 x2, .int .i64 x3]) (by simp [results, Try.results122, go_sem, e0, e1, e2, e3, el]) rfl ⟨⟨_, _, _, _, rfl⟩, (src_set4 hs9 hgB _ _ _ _).alloc _, (KS.out _ hkK _ _ _ _).alloc _⟩
  go_enter Try.func122, Try.ntmps122
  go_wp2_with fail
  rw [← hV0]
  clear hV0
  generalize w.heap.size + 1 = B at *
  generalize w.heap.size = P at *
  refine (l01Next_c g a n cap _ _ hn HT.src).mono ?_
  rintro e V1 ⟨⟨q, rfl, hq1, hq2⟩, hs1, hk1⟩
  replace HB := HB.step hk1 hBg
  replace HT := HT.step hPg hrg hs1 hk1
  clear hs1 hk1 hq2 hq1
  by_cases hq : q = 0
  · subst hq
    go_wp2_with fail
    refine (l02DrawAny_c g a n cap _ hn HT.src).mono ?_
    rintro e V9 ⟨⟨x0, x1, x2, x3, rfl⟩, hs9, hk9⟩
    have hB9 := HB.step hk9 hBg
    have e0 := hB9.c 0 (by omega)
    have e1 := hB9.c 1 (by omega)
    have e2 := hB9.c 2 (by omega)
    have e3 := hB9.c 3 (by omega)
    have ef := hB9.f
    have el := hB9.lt
    have hkK := HT.kept.trans hk9
    clear hB9 hk9 HB
    go_wp2_with fail
    exact bodyPost_ret (v := .agg #[.int .i64 x0, .int .i64 x1, .int .i64 x2, .int .i64 x3]) (by simp [results, Try.results122, go_sem, e0, e1, e2, e3, el]) rfl ⟨⟨_, _, _, _, rfl⟩, (src_set4 hs9 hgB _ _ _ _).alloc _, (KS.out _ hkK _ _ _ _).alloc _⟩
  have p0 := HT.p0
  have lP := HT.lP
  go_wp2_with fail
  refine (l01Next_c g a n cap _ _ hn HT.src).mono ?_
  rintro e V2 ⟨⟨k, rfl, hk1, hk2⟩, hs1, hkk⟩
  clear p0 lP
  replace HB := HB.step hkk hBg
  replace HT := HT.step hPg hrg hs1 hkk
  clear hs1 hkk
  have hk0 : 0 ≤ k ∧ k + 1 < (l.length : Int) := by
    rcases Int.lt_or_le 1 ((l.length : Int) - 1) with h | h
    · have := hk1 h; omega
    · have := hk2 h; omega
  clear hk1 hk2
  obtain ⟨k, rfl⟩ := Int.eq_ofNat_of_zero_le hk0.1
  have hk1 : k + 1 < l.length := by omega
  obtain ⟨fa, a0, a1, a2⟩ := own_fx HT.own rfl k (by omega)
  obtain ⟨fb, b0, b1, b2⟩ := own_fx HT.own rfl (k + 1) hk1
  have p0 := HT.p0
  have lP := HT.lP
  have LR := (HT.own.lt r rfl).2
  have i1 : (k : Int) < (l.length : Int) := by omega
  have i2 : (k : Int) + 1 < (l.length : Int) := by omega
  have i3 : IntKind.i64.wrap ((k : Int) + 1) = (k : Int) + 1 := by rw [IntKind.wrap_i64]; omega
  have i4 : (0 : Int) ≤ (k : Int) + 1 := by omega
  replace HT := Lib.hid HT
  replace HB := Lib.hid HB
  go_upto_region 5 with fail
  go_cut [7, 8] (fun s7 s8 wx => ∃ g0 g1 : Nat, s7 = .pointer (some ⟨g0, 0, none⟩) ∧ s8 = .pointer (some ⟨g1, 0, none⟩) ∧ wx.cell? ⟨g0, 0, none⟩ = some (.int .i64 fa.t) ∧ wx.cell? ⟨g0, 1, none⟩ = some (.int .i64 fa.x) ∧ wx.cell? ⟨g0, 2, none⟩ = some (.int .i64 fa.y) ∧ wx.cell? ⟨g1, 0, none⟩ = some (.int .i64 fb.t) ∧ wx.cell? ⟨g1, 1, none⟩ = some (.int .i64 fb.x) ∧ wx.cell? ⟨g1, 2, none⟩ = some (.int .i64 fb.y) ∧ g0 < wx.heap.size ∧ g1 < wx.heap.size ∧ V2.heap.size ≤ g0 ∧ V2.heap.size ≤ g1 ∧ Below V2.heap.size V2 wx)
  case first =>
    go_region_held3 (fun wx => Below V2.heap.size V2 wx ∧ ∀ b o, b < V2.heap.size → wx.cell? ⟨b, o, none⟩ = V2.cell? ⟨b, o, none⟩)
      (first | with_reducible exact held_step (by assumption) hb | with_reducible exact held_alloc (by assumption) _ | exact held_of (by repeat (first | with_reducible exact Below.refl _ _ | with_reducible assumption | with_reducible refine Below.drew ?_ | with_reducible refine Below.alloc ?_ (by first | exact Nat.le_refl _ | (simp; done) | (simp; omega) | omega) _ | with_reducible refine Below.setCell ?_ (by first | exact Nat.le_refl _ | (simp; done) | (simp; omega) | omega) _ | with_reducible refine Below.trans ?_ (Below.mono (by with_reducible assumption) (by first | exact Nat.le_refl _ | (simp; done) | (simp; omega) | omega)))))
      (first | fail)
    all_goals (go_wp2_with fail; go_meet; exact ⟨_, _, rfl, rfl, (by go_light; go_simp), (by go_light; go_simp), (by go_light; go_simp), (by go_light; go_simp), (by go_light; go_simp), (by go_light; go_simp), (by go_light; first | (simp; done) | (simp; omega) | omega), (by go_light; first | (simp; done) | (simp; omega) | omega), (by go_light; first | exact Nat.le_refl _ | (simp; done) | (simp; omega) | omega), (by go_light; first | exact Nat.le_refl _ | (simp; done) | (simp; omega) | omega), (held_of (by with_reducible exact And.left (by with_reducible assumption))).1⟩)
  case rest =>
    obtain ⟨C7, C8, rfl, rfl, k70, k71, k72, k80, k81, k82, K7, K8, W7, W8, hb⟩ := hcut
    obtain ⟨V3, rfl⟩ : ∃ x : World, x = wc := ⟨_, rfl⟩
    have hg2 := HT.out.src.lt
    have n7 : C7 ≠ g := by omega
    have n8 : C8 ≠ g := by omega
    clear hg2
    replace HT := Lib.hid (HT.out.step hPg hrg (HT.out.src.belowN hb (HT.out.src.lt)) (kept_of_below hb))
    replace HB := Lib.hid (HB.out.step (g := g) (kept_of_below hb) hBg)
    clear hb p0 lP LR i1 i2 i3 i4 a0 a1 a2 b0 b1 b2
    go_wp2_with fail
    go_cut [9, 10] (fun s9 s10 wx => (∃ x y : Int, s9 = .int .i64 x ∧ s10 = .int .i64 y) ∧ Below V3.heap.size V3 wx)
    case first =>
      go_region_held3 (fun wx => Below V3.heap.size V3 wx ∧ ∀ b o, b < V3.heap.size → wx.cell? ⟨b, o, none⟩ = V3.cell? ⟨b, o, none⟩) (first | with_reducible assumption | with_reducible exact held_begin _ | exact held_of (by repeat (first | with_reducible exact Below.refl _ _ | with_reducible assumption | with_reducible refine Below.drew ?_ | with_reducible refine Below.alloc ?_ (by first | exact Nat.le_refl _ | (simp; done) | (simp; omega) | omega) _ | with_reducible refine Below.setCell ?_ (by first | exact Nat.le_refl _ | (simp; done) | (simp; omega) | omega) _ | with_reducible refine Below.trans ?_ (Below.mono (by with_reducible assumption) (by first | exact Nat.le_refl _ | (simp; done) | (simp; omega) | omega))))) (first | (go_at_call 120; refine (l01FloorE_c _ _).mono ?_; rintro e w1 ⟨⟨z, rfl⟩, rfl⟩))
      all_goals go_wp2_with fail
      all_goals (go_meet; exact ⟨⟨_, _, rfl, rfl⟩, And.left (by with_reducible assumption)⟩)
    case rest =>
      obtain ⟨⟨xx, yy, rfl, rfl⟩, hb⟩ := hcut
      obtain ⟨V4, rfl⟩ : ∃ x : World, x = wc := ⟨_, rfl⟩
      replace HT := Lib.hid (HT.out.step hPg hrg (HT.out.src.belowN hb (HT.out.src.lt)) (kept_of_below hb))
      replace HB := Lib.hid (HB.out.step (g := g) (kept_of_below hb) hBg)
      replace k70 := ((bcell hb).1 C7 0 K7).trans k70
      replace k71 := ((bcell hb).1 C7 1 K7).trans k71
      replace k72 := ((bcell hb).1 C7 2 K7).trans k72
      replace k80 := ((bcell hb).1 C8 0 K8).trans k80
      replace k81 := ((bcell hb).1 C8 1 K8).trans k81
      replace k82 := ((bcell hb).1 C8 2 K8).trans k82
      replace K7 := Nat.lt_of_lt_of_le K7 hb.size
      replace K8 := Nat.lt_of_lt_of_le K8 hb.size
      clear hb
      go_wp2_with fail
      refine (l01Next_c g a n cap _ _ hn HT.out.src).mono ?_
      rintro e V5 ⟨⟨q4, rfl, hq1, hq2⟩, hs1, hk1⟩
      clear hq1 hq2
      replace HB := Lib.hid (HB.out.step hk1 hBg)
      replace HT := Lib.hid (HT.out.step hPg hrg hs1 hk1)
      replace k70 := ((kcell hk1).1 C7 0 K7 n7).trans k70
      replace k71 := ((kcell hk1).1 C7 1 K7 n7).trans k71
      replace k72 := ((kcell hk1).1 C7 2 K7 n7).trans k72
      replace k80 := ((kcell hk1).1 C8 0 K8 n8).trans k80
      replace k81 := ((kcell hk1).1 C8 1 K8 n8).trans k81
      replace k82 := ((kcell hk1).1 C8 2 K8 n8).trans k82
      replace K7 := Nat.lt_of_lt_of_le K7 hk1.size
      replace K8 := Nat.lt_of_lt_of_le K8 hk1.size
      clear hk1 hs1
      by_cases hq4 : q4 = 0
      all_goals try subst hq4
      all_goals go_wp2_with fail
      all_goals
        clear k70 k71 k72 k80 k81 k82 K7 K8
        refine (l01Next_c g a n cap _ _ hn HT.out.src).mono ?_
        rintro e V6 ⟨⟨zV6, rfl, hq1, hq2⟩, hs1, hk1⟩
        clear hq1 hq2
        replace HB := Lib.hid (HB.out.step hk1 hBg)
        replace HT := Lib.hid (HT.out.step hPg hrg hs1 hk1)
        clear hk1 hs1
        go_wp2_with fail
        refine (l01Next_c g a n cap _ _ hn HT.out.src).mono ?_
        rintro e V7 ⟨⟨zV7, rfl, hq1, hq2⟩, hs1, hk1⟩
        clear hq1 hq2
        replace HB := Lib.hid (HB.out.step hk1 hBg)
        replace HT := Lib.hid (HT.out.step hPg hrg hs1 hk1)
        clear hk1 hs1
        go_wp2_with fail
        refine (l01Next_c g a n cap _ _ hn HT.out.src).mono ?_
        rintro e V8 ⟨⟨z8, rfl, hq1, hq2⟩, hs9, hk1⟩
        clear hq1 hq2
        have hB9 := HB.out.step hk1 hBg
        have hkK := HT.out.kept.trans hk1
        have e0 := hB9.c 0 (by omega)
        have e1 := hB9.c 1 (by omega)
        have e2 := hB9.c 2 (by omega)
        have e3 := hB9.c 3 (by omega)
        have ef := hB9.f
        have el := hB9.lt
        clear hB9 hk1 HB
        go_wp2_with fail
        refine bodyPost_ret (v := .agg #[.int .i64 _, .int .i64 _, .int .i64 _, .int .i64 _]) (by simp [results, Try.results122, go_sem, e0, e1, e2, e3]; exact ⟨rfl, rfl, rfl, rfl⟩) rfl ⟨⟨_, _, _, _, rfl⟩, ?_, ?_⟩
        · first | exact src_set4 hs9 hgB _ _ _ _ | exact (src_set4 hs9 hgB _ _ _ _).alloc _
        · first | exact KS.out _ hkK _ _ _ _ | exact (KS.out _ hkK _ _ _ _).alloc _
end Go.Proofs.Ytdepdkpehbkcjaa
