/-
  Drawn times, and the draws of the laws on tracks. Conditions: the code's bytes lie in the world.
-/
import Derived.Test.YtdepdkpehbkcjaaTdraw2
import Derived.Test.YtdepdkpehbkcjaaRows2
namespace Go.Proofs.Ytdepdkpehbkcjaa
set_option linter.unusedVariables false
open Go.RowKit Go.Deep

structure HoldT (g n cap P r cp base : Nat) (e : TypeId) (a : Option Addr) (l : List Fx) (w X : World) : Prop where
  p0 : X.cell? ⟨P, 0, none⟩ = some (.slice (some ⟨r, 0, none⟩) l.length cp)
  lP : P < X.heap.size
  own : X.ownsRow base e 3 (.slice (some ⟨r, 0, none⟩) l.length cp) l.length (flat l)
  src : Src g a n cap X
  kept : Kept g w X
theorem HoldT.alloc {g n cap P r cp base : Nat} {e : TypeId} {a : Option Addr} {l : List Fx} {w X : World} (h : HoldT g n cap P r cp base e a l w X) (o : Obj) : HoldT g n cap P r cp base e a l w (X.alloc o) := by
  have hb : Below X.heap.size X (X.alloc o) := (Below.refl _ _).alloc (Nat.le_refl _) o
  exact ⟨(hb.cell (p := ⟨P, 0, none⟩) h.lP).trans h.p0, Nat.lt_of_lt_of_le h.lP hb.size, h.own.alloc o, h.src.alloc o, h.kept.alloc o⟩
theorem HoldT.drew {g n cap P r cp base : Nat} {e : TypeId} {a : Option Addr} {l : List Fx} {w X : World} (h : HoldT g n cap P r cp base e a l w X) : HoldT g n cap P r cp base e a l w X.drew := ⟨h.p0, h.lP, h.own, h.src.drew, h.kept.drew⟩
theorem HoldT.step {g n cap P r cp base : Nat} {e : TypeId} {a : Option Addr} {l : List Fx} {w X Y : World} (h : HoldT g n cap P r cp base e a l w X) (hP : P ≠ g) (hr : r ≠ g) (hs : Src g a n cap Y) (hk : Kept g X Y) : HoldT g n cap P r cp base e a l w Y :=
  ⟨((kcell hk).1 P 0 h.lP hP).trans h.p0, Nat.lt_of_lt_of_le h.lP hk.size, own_keptk h.own hk hr, hs, h.kept.trans hk⟩
theorem HoldT.set {g n cap P r cp base b o : Nat} {e : TypeId} {a : Option Addr} {l : List Fx} {w X : World} (h : HoldT g n cap P r cp base e a l w X) (hP : P ≠ b) (hr : r ≠ b) (hrg : r ≠ g) (hg : g < b) (hw : w.heap.size ≤ b) (u : Value) : HoldT g n cap P r cp base e a l w (X.setCell ⟨b, o, none⟩ u) :=
  ⟨(World.cell?_setCell_other _ _ _ _ (by simp only [ne_eq, Addr.mk.injEq, not_and]; omega)).trans h.p0, by simpa [World.setCell] using h.lP, ((KX.of (Kept.refl g X)).set (C := b) (o := o) u).own h.own hrg hr, h.src.setCell (p := ⟨b, o, none⟩) hg u, h.kept.setCell (.inr hw) u⟩
set_option maxRecDepth 100000 in
set_option maxHeartbeats 1000000 in
theorem l03DrawTime_c (g r base cp : Nat) (a : Option Addr) (n cap : Nat) (l : List Fx) (w : World) (hn : n ≤ 9223372036854775807) (hl : l.length ≤ 1000) (hs : Src g a n cap w) (hrg : r ≠ g) (ho : w.ownsRow base 32 3 (.slice (some ⟨r, 0, none⟩) l.length cp) l.length (flat l)) : Calls Try.prog 66 #[.pointer (some ⟨g, 0, none⟩), .agg #[.slice (some ⟨r, 0, none⟩) l.length cp]] w fun e w' => (∃ x : Int, e = .returned (.int .i64 x)) ∧ Src g a n cap w' ∧ Kept g w w' := by
  have hgl := hs.lt
  have HT : HoldT g n cap w.heap.size r cp base 32 a l w (w.alloc (.cells #[.slice (some ⟨r, 0, none⟩) l.length cp] 26)) := ⟨by simp [go_sem], by simp, ho.alloc _, hs.alloc _, (Kept.refl _ _).alloc _⟩
  have hPg : w.heap.size ≠ g := by omega
  have HS := Lib.hid hs
  clear hs ho
  by_cases h2 : (l.length : Int) < 2
  · go_enter Try.func66, Try.ntmps66
    go_wp2_with fail
    refine (l01Next_c g a n cap _ _ hn HT.src).mono ?_
    rintro e V1 ⟨⟨q, rfl, hq1, hq2⟩, hs1, hk1⟩
    go_wp2_with fail
    go_ret
    exact ⟨⟨_, rfl⟩, hs1, HT.kept.trans hk1⟩
  have HS := 0
  go_enter Try.func66, Try.ntmps66
  go_wp2_with fail
  generalize w.alloc (.cells #[.slice (some ⟨r, 0, none⟩) l.length cp] 26) = V0 at *
  generalize w.heap.size = P at *
  refine (l01Next_c g a n cap _ _ hn HT.src).mono ?_
  rintro e V1 ⟨⟨q, rfl, hq1, hq2⟩, hs1, hk1⟩
  obtain ⟨hq0, hq3⟩ := hq1 (by omega)
  replace HT := HT.step hPg hrg hs1 hk1
  clear hs1 hk1 hq2
  by_cases hq : q = 0
  · subst hq
    go_wp2_with fail
    refine (l01Next_c g a n cap _ _ hn HT.src).mono ?_
    rintro e V2 ⟨⟨q, rfl, hq1, hq2⟩, hs1, hk1⟩
    go_wp2_with fail
    go_ret
    exact ⟨⟨_, rfl⟩, hs1, HT.kept.trans hk1⟩
  have p0 := HT.p0
  have lP := HT.lP
  replace HT := Lib.hid HT
  go_upto_region 3 with fail
  have hli0 : ∀ x : Obj, V1.heap.size < (V1.alloc x).heap.size := fun x => by simp
  have hli1 : ∀ x : Obj, V1.heap.size < (V1.alloc x).drew.heap.size := fun x => by simp
  have hVg : V1.heap.size ≠ g := by have := HT.out.src.lt; omega
  have hP1 : P < V1.heap.size := lP
  have hr1 : r < V1.heap.size := (HT.out.own.lt r rfl).2
  have hw1 : w.heap.size ≤ V1.heap.size := HT.out.kept.size
  have hg1 : g < V1.heap.size := HT.out.src.lt
  go_cut [5] (fun p wx => ∃ (FB : Nat) (t : Int), p = .pointer (some ⟨FB, 0, none⟩) ∧ wx.cell? ⟨FB, 0, none⟩ = some (.int .i64 t) ∧ FB < wx.heap.size ∧ FB ≠ g ∧ HoldT g n cap P r cp base 32 a l w wx)
  case first =>
   go_region_with (go_at_call 54; refine (l01NextN_c g a n cap _ _ hn (by first | exact HT.out.src | exact HT.out.src.drew | exact HT.out.src.alloc _ | exact HT.out.src.drew.alloc _ | exact (HT.out.src.alloc _).drew)).mono ?_; rintro e w1 ⟨⟨k, rfl, hk1, hk2⟩, hs4, HK⟩; clear hk2; have hk3 : k < l.length := (by have := (hk1 (by omega)).1; omega); clear hk1; have HT1 : HoldT g n cap P r cp base 32 a l w w1 := (by first | exact HT.out.drew.step hPg hrg hs4 HK | exact HT.out.step hPg hrg hs4 HK | exact (HT.out.alloc _).step hPg hrg hs4 HK | exact (HT.out.drew.alloc _).step hPg hrg hs4 HK | exact (HT.out.alloc _).drew.step hPg hrg hs4 HK); have lr := (HT1.own.lt r rfl).2; (try (have hm5 := fun o => (kcell HK).1 V1.heap.size o (hli1 _) hVg)); (try (have hm5 := fun o => (kcell HK).1 V1.heap.size o (hli0 _) hVg)); (try (have hm6 := fun o => (kcell HK).2 V1.heap.size o (hli1 _) hVg)); (try (have hm6 := fun o => (kcell HK).2 V1.heap.size o (hli0 _) hVg)); (try (have hm7 := Nat.lt_of_lt_of_le (hli1 _) HK.size)); (try (have hm7 := Nat.lt_of_lt_of_le (hli0 _) HK.size)); have q0 := HT1.p0; have l0 := HT1.lP; obtain ⟨f, f0, f1, f2⟩ := own_fx HT1.own rfl k hk3)
   all_goals go_wp2_with fail
   all_goals go_meet
   all_goals refine ⟨_, f.t, rfl, ?_, ?_, ?_, (by first | with_reducible exact HT1.alloc _ | with_reducible exact ((HT1.set (by omega) (by omega) hrg (by omega) (by omega) _).set (by omega) (by omega) hrg (by omega) (by omega) _).set (by omega) (by omega) hrg (by omega) (by omega) _)⟩
   all_goals first | omega | (simp; done) | (simp [go_sem]; done) | (simp [go_sem, hm5]; done) | (simp; omega)
  case rest =>
  obtain ⟨FB, t, rfl, f0, lF, nF, HT2⟩ := hcut
  obtain ⟨Y, rfl⟩ : ∃ x : World, x = wc := ⟨_, rfl⟩
  clear p0 lP HT hli0 hli1 hP1 hr1 hw1 hg1 hVg
  go_wp2_with fail
  refine (l01Next_c g a n cap _ _ hn HT2.src).mono ?_
  rintro e V2 ⟨⟨q2, rfl, hr1, hr2⟩, hs1, hk1⟩
  clear hr1 hr2
  replace f0 := ((kcell hk1).1 FB 0 lF nF).trans f0
  replace HT2 := HT2.step hPg hrg hs1 hk1
  clear hs1 hk1
  by_cases hq2 : q2 = 0
  · subst hq2
    go_wp2_with fail
    go_ret
    exact ⟨⟨_, rfl⟩, HT2.src, HT2.kept⟩
  obtain ⟨fa, a0, a1, a2⟩ := own_fx HT2.own rfl 0 (by omega)
  obtain ⟨fb, b0, b1, b2⟩ := own_fx HT2.own rfl (l.length - 1) (by omega)
  have p0 := HT2.p0
  replace HT2 := Lib.hid HT2
  rw [Nat.zero_mul] at a0 a1 a2
  go_upto_region 6 with fail
  have i0 : (0 : Int) < (l.length : Int) := by omega
  have i5 : 0 < l.length := by omega
  have i6 : l ≠ [] := by intro e; subst e; simp at i5
  have i7 : (1 : Int) ≤ (l.length : Int) := by omega
  have i1 : IntKind.i64.wrap ((l.length : Int) - 1) = (l.length : Int) - 1 := by rw [IntKind.wrap_i64]; omega
  have i2 : (0 : Int) ≤ (l.length : Int) - 1 := by omega
  have i3 : (l.length : Int) - 1 < (l.length : Int) := by omega
  have i4 : ((l.length : Int) - 1).toNat = l.length - 1 := by omega
  go_region_held3 (fun wx => wx.cell? ⟨P, 0, none⟩ = some (.slice (some ⟨r, 0, none⟩) l.length cp) ∧ wx.cell? ⟨r, 0, none⟩ = some (.int .i64 fa.t) ∧ wx.cell? ⟨r, (l.length - 1) * 3, none⟩ = some (.int .i64 fb.t)) (exact ⟨p0, a0, b0⟩) (fail)
  go_wp2_with fail
  refine (l01Next_c g a n cap _ _ hn HT2.out.src.drew).mono ?_
  rintro e V3 ⟨⟨q3, rfl, hr1, hr2⟩, hs1, hk1⟩
  go_wp2_with fail
  go_ret
  exact ⟨⟨_, rfl⟩, hs1, HT2.out.kept.drew.trans hk1⟩
end Go.Proofs.Ytdepdkpehbkcjaa
