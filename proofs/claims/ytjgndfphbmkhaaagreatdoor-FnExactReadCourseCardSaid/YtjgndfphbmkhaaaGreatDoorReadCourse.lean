/-
  FnExactReadCourse: for all arguments the program's function answers as the reference's, and its result is its own. No condition.
-/
import Derived.Test.YtjgndfphbmkhaaaGreatDoorRows
import Derived.Test.YtjgndfphbmkhaaaGreatDoorTie
import Derived.Test.YtjgndfphbmkhaaaGreatDoorCards
import Derived.LaidMore
import Derived.Lay
import Derived.SevenTiedAt
import Derived.Test.YtjgndfphbmkhaaaGreatDoorSp4
import Derived.Test.YtjgndfphbmkhaaaGreatDoorSp5
import Derived.Test.YtjgndfphbmkhaaaGreatDoorShp
namespace Go.Proofs.YtjgndfphbmkhaaaGreatDoor.readCourse
open Go.ChangeShapes Go.WideShapes Go.ChangeAt Go.RowKit Go.Deep
open Go.ChangeMaps (open_string shut_string)
set_option linter.unusedVariables false

set_option maxRecDepth 100000 in
theorem tabOf {W : World} (h : laidMetH Tryz.prog Rows.fnExactReadCourseRow.laid W) (hS : W.ShapedOpen Tryz.prog) : RcT W := by
  rw [MakeChecks.laidMetH_plain _ _ _ (by kernel_rfl)] at h
  have h4 := laidMet.tail (laidMet.tail (laidMet.tail (laidMet.tail h)))
  have hR := iface_laid h4 (g := 5) (ti := 86) (by kernel_rfl) (by kernel_rfl) Tryz.underlying86
  have hE := iface_laid (laidMet.tail h4) (g := 4) (ti := 86) (by kernel_rfl) (by kernel_rfl) Tryz.underlying86
  obtain ⟨ps, ⟨g1, t1, cs1, f1, p1, q1, _, _, _, _, ⟨g2, t2, cs2, f2, p2, q2, _, _, _, _, ⟨g3, t3, cs3, f3, p3, q3, hg3, ht3, hv3, hd3, _, _⟩, _⟩, _⟩, _⟩ := h
  obtain rfl := Option.some.inj ((show Tryz.prog.globalNamed "internal/strconv.uint64pow10" = some 1 by kernel_rfl).symm.trans hg3)
  obtain rfl := Option.some.inj ((show (Tryz.prog.globals[1]?).map (·.type) = some 121 by kernel_rfl).symm.trans ht3)
  refine ⟨⟨?_, hE, hR⟩, Tryz.laysM146.s1_3 W hS⟩
  unfold Tab Lib.TabIs
  rw [hv3, ← Lib.cells_of_tab Tryz.underlying121 Tryz.underlying100 (by kernel_rfl) (by kernel_rfl) hd3]
theorem blk_grown {C : Nat} {x0 x1 x2 x3 x4 x5 x6 x7 : Int} {u : Value} {X Y : World} {row : Option Nat} (h : Blk9 C x0 x1 x2 x3 x4 x5 x6 x7 u X) (hg : X.grownBy Y row) (hne : row ≠ some C) : Blk9 C x0 x1 x2 x3 x4 x5 x6 x7 u Y := by
  have hB := hg.block C h.lt (fun e => hne e.symm)
  have hc := fun o => World.cell?_of_block (w := X) (w' := Y) (a := ⟨C, o, none⟩) hB
  have hf := fun o => World.frozen?_of_block (w := X) (w' := Y) (a := ⟨C, o, none⟩) hB
  exact ⟨(hc 0).trans h.c0, (hc 1).trans h.c1, (hc 2).trans h.c2, (hc 3).trans h.c3, (hc 4).trans h.c4, (hc 5).trans h.c5, (hc 6).trans h.c6, (hc 7).trans h.c7, (hc 8).trans h.c8, Nat.lt_of_lt_of_le h.lt hg.size, fun o => (hf o).trans (h.fr o)⟩
set_option maxRecDepth 100000 in
set_option maxHeartbeats 4000000 in
theorem walk (s : ByteArray) (w : World) (v0 : s.size ≤ maxLen) (wT : RcT w) :
    Calls Tryz.prog 3 #[.string s] w fun e w' => e = .returned (.bool true) ∧ Below w.heap.size w w' := by
  by_cases hs : s.size ≤ 1048576
  case neg =>
    have hs' : (1048576 : Int) < (s.size : Int) := by omega
    clear wT v0
    go_enter Tryz.func3, Tryz.ntmps3
    go_wp2_with fail
    go_ret
    exact ⟨rfl, Below.refl _ _⟩
  case pos =>
    have hs' : ¬ (1048576 : Int) < (s.size : Int) := by omega
    have CS := Lib.hid (fun w => ReadCourseS_c s w hs)
    have CI := Lib.hid (fun w h => ReadCourse_c s w hs h)
    have HT := Lib.hid wT
    clear wT v0
    go_enter Tryz.func3, Tryz.ntmps3
    go_wp2_with fail
    refine (CS.out _).mono ?_
    rintro e V1 ⟨hE, HD⟩
    obtain ⟨z0, z1, z2, z3, z4, z5, z6, z7, L, ok, a6, cap6, hP6, rfl, ho6⟩ := hE
    have HP6 := Lib.hid hP6
    have O6 := Lib.hid ho6
    have hl8 := (rcp_len hP6).1
    have U6 : Hid (∀ j, (Value.slice a6 L.length cap6).ownBlock = some j → j < V1.heap.size) := Lib.hid (fun j e => (ho6.lt j e).2)
    clear hP6 ho6 CS
    obtain ⟨V2, hV2⟩ : ∃ x, x = V1.alloc (.cells #[.int .i64 z0, .int .i64 z1, .int .i64 z2, .int .i64 z3, .int .i64 z4, .int .i64 z5, .int .i64 z6, .int .i64 z7, .slice a6 L.length cap6] 28) := ⟨_, rfl⟩
    go_wp2_with fail
    rw [← hV2]
    have hbx : Below V1.heap.size V1 V2 := by rw [hV2]; exact (Below.refl _ _).alloc (Nat.le_refl _) _
    have HB6 : Hid (Blk9 V1.heap.size z0 z1 z2 z3 z4 z5 z6 z7 (.slice a6 L.length cap6) V2) := Lib.hid (by rw [hV2]; exact ⟨by simp [go_sem], by simp [go_sem], by simp [go_sem], by simp [go_sem], by simp [go_sem], by simp [go_sem], by simp [go_sem], by simp [go_sem], by simp [go_sem], by simp, fun o => World.frozen?_alloc_at _ _ _ _ rfl⟩)
    clear hV2
    replace HD := HD.trans (hbx.mono HD.size)
    replace O6 := Lib.hid (pown_below O6.out hbx)
    clear hbx
    have hC6 := HB6.out.lt
    generalize V1.heap.size = C6 at *
    refine (CI.out _ (HT.out.below HD)).mono ?_
    rintro e V3 ⟨hE, hb⟩
    obtain ⟨y0, y1, y2, y3, y4, y5, y6, y7, K, ok2, a9, cap9, hP9, rfl, ho9⟩ := hE
    obtain ⟨r0, r1, r2, r3, r4, r5, r6, r7, rL, rk⟩ := rcp_same HP6.out hP9
    subst r0 r1 r2 r3 r4 r5 r6 r7 rL rk
    have U9 : Hid (∀ j, (Value.slice a9 L.length cap9).ownBlock = some j → V2.heap.size ≤ j ∧ j < V3.heap.size) := Lib.hid (fun j e => ⟨own_baseZ ho9 j e, (ho9.lt j e).2⟩)
    have hw2 := HD.size
    clear hP9
    replace HD := HD.trans (hb.mono HD.size)
    replace HB6 := Lib.hid (HB6.out.below hb HB6.out.lt)
    replace O6 := Lib.hid (pown_below O6.out hb)
    clear hb
    have O9 := Lib.hid ho9
    clear ho9
    obtain ⟨V4, hV4⟩ : ∃ x, x = V3.alloc (.cells #[.int .i64 z0, .int .i64 z1, .int .i64 z2, .int .i64 z3, .int .i64 z4, .int .i64 z5, .int .i64 z6, .int .i64 z7, .slice a9 L.length cap9] 28) := ⟨_, rfl⟩
    have k0 := HB6.out.c0
    have k1 := HB6.out.c1
    have k2 := HB6.out.c2
    have k3 := HB6.out.c3
    have k4 := HB6.out.c4
    have k5 := HB6.out.c5
    have k6 := HB6.out.c6
    have k7 := HB6.out.c7
    have k8 := HB6.out.c8
    have kl := HB6.out.lt
    go_wp2_with fail
    clear k0 k1 k2 k3 k4 k5 k6 k7 k8 kl
    rw [← hV4]
    have hbx : Below V3.heap.size V3 V4 := by rw [hV4]; exact (Below.refl _ _).alloc (Nat.le_refl _) _
    have HB9 : Hid (Blk9 V3.heap.size z0 z1 z2 z3 z4 z5 z6 z7 (.slice a9 L.length cap9) V4) := Lib.hid (by rw [hV4]; exact ⟨by simp [go_sem], by simp [go_sem], by simp [go_sem], by simp [go_sem], by simp [go_sem], by simp [go_sem], by simp [go_sem], by simp [go_sem], by simp [go_sem], by simp, fun o => World.frozen?_alloc_at _ _ _ _ rfl⟩)
    clear hV4
    replace HD := HD.trans (hbx.mono HD.size)
    replace HB6 := Lib.hid (HB6.out.below hbx HB6.out.lt)
    replace O6 := Lib.hid (pown_below O6.out hbx)
    replace O9 := Lib.hid (pown_below O9.out hbx)
    clear hbx
    have hC9 := HB9.out.lt
    have hC9b := hC9
    generalize V3.heap.size = C9 at *
    refine (eqCourse_same z0 z1 z2 z3 z4 z5 z6 z7 a9 a6 cap9 cap6 L V4 (by omega) (rowAt_ownA O9.out) (rowAt_ownA O6.out)).mono ?_
    rintro e V5 ⟨rfl, hb⟩
    replace HD := HD.trans (hb.mono HD.size)
    replace HB6 := Lib.hid (HB6.out.below hb HB6.out.lt)
    replace HB9 := Lib.hid (HB9.out.below hb HB9.out.lt)
    replace O6 := Lib.hid (pown_below O6.out hb)
    replace O9 := Lib.hid (pown_below O9.out hb)
    clear hb
    have k0 := HB9.out.c0
    have k1 := HB9.out.c1
    have k2 := HB9.out.c2
    have k3 := HB9.out.c3
    have k4 := HB9.out.c4
    have k5 := HB9.out.c5
    have k6 := HB9.out.c6
    have k7 := HB9.out.c7
    have k8 := HB9.out.c8
    have kl := HB9.out.lt
    go_wp2_with fail
    clear k0 k1 k2 k3 k4 k5 k6 k7 k8 kl
    have cm := markCourse2_c z0 z1 z2 z3 z4 z5 z6 z7 a9 L.length cap9 1 V2.heap.size L V5 (by omega) (by omega) rfl O9.out
    have hM : ¬ (((1 + 5 * L.length : Nat) : Int) < 0) := by omega
    generalize hqM : ((1 + 5 * L.length : Nat) : Int) = M at cm hM
    replace hqM := Lib.hid hqM
    refine cm.mono ?_
    rintro e V6 ⟨rfl, hmk, hg⟩
    clear cm
    replace HD := HD.trans (pgrown_below hg HD.size (fun k e => by have := (U9.out k e).1; omega))
    replace HB6 := Lib.hid (blk_grown HB6.out hg (fun e => by have := (U9.out _ e).1; omega))
    replace HB9 := Lib.hid (blk_grown HB9.out hg (fun e => by have := (U9.out _ e).2; omega))
    replace O6 := Lib.hid (own_keptP O6.out hg (fun k e e2 => by have := U6.out k e; have := (U9.out k e2).1; omega))
    replace O9 := Lib.hid hmk
    clear hmk hg
    have k0 := HB9.out.c0
    have k1 := HB9.out.c1
    have k2 := HB9.out.c2
    have k3 := HB9.out.c3
    have k4 := HB9.out.c4
    have k5 := HB9.out.c5
    have k6 := HB9.out.c6
    have k7 := HB9.out.c7
    have k8 := HB9.out.c8
    have kl := HB9.out.lt
    go_wp2_with fail
    clear k0 k1 k2 k3 k4 k5 k6 k7 k8 kl
    have ch := heldCourse_c z0 z1 z2 z3 z4 z5 z6 z7 a9 L.length cap9 1 V6 (by omega) (by omega) (row_ownP O9.out (by rw [mflat_length, mkMs_len]))
    rw [hqM.out] at ch
    refine ch.mono ?_
    rintro e V7 ⟨rfl, hb⟩
    clear ch
    replace HD := HD.trans (hb.mono HD.size)
    replace HB6 := Lib.hid (HB6.out.below hb HB6.out.lt)
    replace HB9 := Lib.hid (HB9.out.below hb HB9.out.lt)
    replace O6 := Lib.hid (pown_below O6.out hb)
    replace O9 := Lib.hid (pown_below O9.out hb)
    clear hb
    have k0 := HB6.out.c0
    have k1 := HB6.out.c1
    have k2 := HB6.out.c2
    have k3 := HB6.out.c3
    have k4 := HB6.out.c4
    have k5 := HB6.out.c5
    have k6 := HB6.out.c6
    have k7 := HB6.out.c7
    have k8 := HB6.out.c8
    have kl := HB6.out.lt
    have m0 := HB9.out.c0
    have m1 := HB9.out.c1
    have m2 := HB9.out.c2
    have m3 := HB9.out.c3
    have m4 := HB9.out.c4
    have m5 := HB9.out.c5
    have m6 := HB9.out.c6
    have m7 := HB9.out.c7
    have m8 := HB9.out.c8
    have ml := HB9.out.lt
    go_wp2_with fail
    clear k0 k1 k2 k3 k4 k5 k6 k7 k8 kl
    clear m0 m1 m2 m3 m4 m5 m6 m7 m8 ml
    refine (CI.out _ (HT.out.below HD)).mono ?_
    rintro e V8 ⟨hE, hb⟩
    obtain ⟨y0, y1, y2, y3, y4, y5, y6, y7, K, ok2, a4, cap4, hP4, rfl, ho4⟩ := hE
    obtain ⟨r0, r1, r2, r3, r4, r5, r6, r7, rL, rk⟩ := rcp_same HP6.out hP4
    subst r0 r1 r2 r3 r4 r5 r6 r7 rL rk
    clear hP4
    replace HD := HD.trans (hb.mono HD.size)
    replace HB6 := Lib.hid (HB6.out.below hb HB6.out.lt)
    replace HB9 := Lib.hid (HB9.out.below hb HB9.out.lt)
    replace O6 := Lib.hid (pown_below O6.out hb)
    replace O9 := Lib.hid (pown_below O9.out hb)
    clear hb
    have O4 := Lib.hid ho4
    clear ho4
    obtain ⟨V9, hV9⟩ : ∃ x, x = V8.alloc (.cells #[.int .i64 z0, .int .i64 z1, .int .i64 z2, .int .i64 z3, .int .i64 z4, .int .i64 z5, .int .i64 z6, .int .i64 z7, .slice a4 L.length cap4] 28) := ⟨_, rfl⟩
    have k0 := HB6.out.c0
    have k1 := HB6.out.c1
    have k2 := HB6.out.c2
    have k3 := HB6.out.c3
    have k4 := HB6.out.c4
    have k5 := HB6.out.c5
    have k6 := HB6.out.c6
    have k7 := HB6.out.c7
    have k8 := HB6.out.c8
    have kl := HB6.out.lt
    go_wp2_with fail
    clear k0 k1 k2 k3 k4 k5 k6 k7 k8 kl
    rw [← hV9]
    have hbx : Below V8.heap.size V8 V9 := by rw [hV9]; exact (Below.refl _ _).alloc (Nat.le_refl _) _
    have HB4 : Hid (Blk9 V8.heap.size z0 z1 z2 z3 z4 z5 z6 z7 (.slice a4 L.length cap4) V9) := Lib.hid (by rw [hV9]; exact ⟨by simp [go_sem], by simp [go_sem], by simp [go_sem], by simp [go_sem], by simp [go_sem], by simp [go_sem], by simp [go_sem], by simp [go_sem], by simp [go_sem], by simp, fun o => World.frozen?_alloc_at _ _ _ _ rfl⟩)
    clear hV9
    replace HD := HD.trans (hbx.mono HD.size)
    replace HB6 := Lib.hid (HB6.out.below hbx HB6.out.lt)
    replace HB9 := Lib.hid (HB9.out.below hbx HB9.out.lt)
    replace O6 := Lib.hid (pown_below O6.out hbx)
    replace O9 := Lib.hid (pown_below O9.out hbx)
    replace O4 := Lib.hid (pown_below O4.out hbx)
    clear hbx
    refine (eqCourse_same z0 z1 z2 z3 z4 z5 z6 z7 a4 a6 cap4 cap6 L V9 (by omega) (rowAt_ownA O4.out) (rowAt_ownA O6.out)).mono ?_
    rintro e Va ⟨rfl, hb⟩
    replace HD := HD.trans (hb.mono HD.size)
    replace HB6 := Lib.hid (HB6.out.below hb HB6.out.lt)
    replace HB9 := Lib.hid (HB9.out.below hb HB9.out.lt)
    replace HB4 := Lib.hid (HB4.out.below hb HB4.out.lt)
    replace O6 := Lib.hid (pown_below O6.out hb)
    replace O9 := Lib.hid (pown_below O9.out hb)
    replace O4 := Lib.hid (pown_below O4.out hb)
    clear hb
    have k0 := HB9.out.c0
    have k1 := HB9.out.c1
    have k2 := HB9.out.c2
    have k3 := HB9.out.c3
    have k4 := HB9.out.c4
    have k5 := HB9.out.c5
    have k6 := HB9.out.c6
    have k7 := HB9.out.c7
    have k8 := HB9.out.c8
    have kl := HB9.out.lt
    go_wp2_with fail
    clear k0 k1 k2 k3 k4 k5 k6 k7 k8 kl
    have ch := heldCourse_c z0 z1 z2 z3 z4 z5 z6 z7 a9 L.length cap9 1 Va (by omega) (by omega) (row_ownP O9.out (by rw [mflat_length, mkMs_len]))
    rw [hqM.out] at ch
    refine ch.mono ?_
    rintro e Vb ⟨rfl, hb⟩
    clear ch
    replace HD := HD.trans (hb.mono HD.size)
    replace HB6 := Lib.hid (HB6.out.below hb HB6.out.lt)
    replace HB9 := Lib.hid (HB9.out.below hb HB9.out.lt)
    replace HB4 := Lib.hid (HB4.out.below hb HB4.out.lt)
    replace O6 := Lib.hid (pown_below O6.out hb)
    replace O9 := Lib.hid (pown_below O9.out hb)
    replace O4 := Lib.hid (pown_below O4.out hb)
    clear hb
    go_wp2_with fail
    go_ret
    exact ⟨rfl, HD⟩

theorem own : ownKnob Tryz.prog.godebug = none := by kernel_rfl
theorem laidOut : laidOutB Tryz.prog = true := by kernel_rfl
set_option maxRecDepth 100000 in
theorem lifted (os : Os) (started : os.Started) (H : Type) (enc : TypeId × Value → H) :
    ReturnsInHanded {} Tryz.checked os 3 .any (fun w args => (Rows.fnExactReadCourseSpec.pre enc Tryz.prog Tryz.f3 Rows.fnExactReadCourseRow.domain false w args ∧ laidMetH Tryz.prog Rows.fnExactReadCourseRow.laid w) ∧ sizedMet enc Tryz.prog Tryz.f3 (OpenSpec.ofChange Rows.fnExactReadCourseSpec) false w args)
      (Rows.fnExactReadCourseSpec.post enc Tryz.prog Tryz.f3 false true false false) := by
  refine returnsIn_and_shaped (C := Tryz.checked) (X := fun w _ => laidMetH Tryz.prog Rows.fnExactReadCourseRow.laid w) (fun _ _ _ hh h => h.of_heap hh) own started (by kernel_rfl) Tryz.func3
    (ChangeSpec.witness_shaped (enc := enc) (C := Tryz.checked) (os := os) (X := fun w _ => laidMetH Tryz.prog Rows.fnExactReadCourseRow.laid w) false (World.laidAll Tryz.prog os Rows.fnExactReadCourseRow.laid) #[.string ByteArray.empty] 8 (World.laidAll_os _ _ _)
      (World.shaped_of_ZipB (by kernel_rfl) (by kernel_rfl)) (by kernel_rfl) (by kernel_rfl) (by kernel_rfl)
      (by rw [MakeChecks.laidMetH_plain _ _ _ (by kernel_rfl)]; exact laidMet_laidAll _ (by kernel_rfl) (by kernel_rfl))) ?_
  intro W base args ds gs before hval0 hW _ _ hLaid hShp _
  have hval : ∀ (j : Nat) t v, Tryz.f3.params[j]? = some t → args[j]? = some v → Value.okWide Tryz.prog W .any base t v := hval0
  have hW' := hW
  obtain ⟨p, q, hA0, hV, rfl, hfz, hnd⟩ := hW
  have hA : DataW.TrodAll enc Tryz.prog W 0 (fun _ => true) true Tryz.f3.params.toList args.toList ds p := hA0
  rw [Tryz.params3] at hA hval
  obtain ⟨v0, vs0, d0, ds0, p0, q0, hargs, rfl, rfl, h0, r0⟩ := trodAll_cons hA
  obtain ⟨rfl, rfl, rfl⟩ := trodAll_nil r0
  obtain rfl : args = #[v0] := by cases args; simp_all
  obtain ⟨rfl, rfl⟩ := trodVars_none hV
  obtain ⟨a0, rfl, rfl, rfl, w0⟩ := open_string Tryz.underlying9 (hval 0 9 v0 rfl rfl) h0
  clear hA0 hval0
  refine (walk a0 W w0 (tabOf hLaid hShp)).mono fun e W' ⟨he, bel⟩ => ?_
  subst he
  exact ⟨_, rfl, _, _, _, [], _, [], hW', trodAll_mk1 (shut_bool Tryz.underlying4 _), (trodAll_cons_mk (shut_string Tryz.underlying9 w0) trodAll_mk0), rfl, bel.frame _, fun h => by cases h⟩

theorem over : Rows.fnExactReadCourseRow.holds Tryz.pinned (OpenSpec.ofChange Rows.fnExactReadCourseSpec) :=
  OpenClaim.holds_of_wide 3 Tryz.f3 rfl rfl rfl rfl rfl rfl rfl ⟨rfl, rfl, rfl, rfl, rfl⟩ rfl rfl rfl rfl rfl (by kernel_rfl) Tryz.func3 (by kernel_rfl)
    (of_decide_eq_true (by kernel_rfl)) (by unfold Func.isWrapper; first | (rw [if_pos (by decide +kernel)]; kernel_rfl) | (rw [if_neg (by decide +kernel)]; exact ⟨rfl, rfl⟩))
    (fun os started H enc _ => lifted os started H enc)

theorem carded : Rows.FnExactReadCourseCardSaid :=
  Claim7.holds_tied_plain_at .later [] [.data, .data, .data, .data, .sentinel, .sentinel, .pinned] true (true, "7c6a4b52de26df88741e5d6045f2bb6f117d4df6355eea10407cdb59e5b655be") true over (fun _ h => by cases h) (by kernel_rfl) (fun _ h => by cases h) fnExactReadCourse_row_tie rfl ⟨rfl, rfl⟩ (by kernel_rfl) rfl
    (fun f fn hf hfn => by
      obtain rfl : f = 3 := Option.some.inj ((show Tryz.prog.funcNamed "loop.example/g00887/laws.FnExactReadCourse" = some 3 by kernel_rfl).symm.trans hf) |>.symm
      obtain rfl : fn = Tryz.f3 := (Option.some.inj (Tryz.func3.symm.trans hfn)).symm
      exact ⟨by kernel_rfl, fun j t ht => by
        rw [Tryz.params3] at ht
        have hm : t ∈ [9] := by simpa using Array.mem_of_getElem? ht
        have hall : ([9].all fun u => !Tryz.prog.wantsStandIn u) = true := by kernel_rfl
        exact (show Tryz.prog.wantsStandIn t = false by simpa using List.all_eq_true.1 hall t hm)⟩)
    (by kernel_rfl)

/-- The statement. -/
theorem proved : Rows.FnExactReadCourseCardSaid := carded
end Go.Proofs.YtjgndfphbmkhaaaGreatDoor.readCourse
