/-
  FnCourseText: for every code the law's function answers true. No condition.
-/
import Derived.Test.YtjgndfphbmkhaaaGreatDoorRows
import Derived.Test.YtjgndfphbmkhaaaGreatDoorTie
import Derived.Test.YtjgndfphbmkhaaaGreatDoorCards
import Derived.LaidMore
import Derived.Lay
import Derived.SevenTiedAt
import Derived.Test.YtjgndfphbmkhaaaGreatDoorCdZ4
import Derived.Test.YtjgndfphbmkhaaaGreatDoorShp
import Derived.Test.YtjgndfphbmkhaaaGreatDoorSp5
namespace Go.Proofs.YtjgndfphbmkhaaaGreatDoor.fnCourseText
open Go.ChangeShapes Go.WideShapes Go.ChangeAt Go.RowKit Go.Deep
open Go.ChangeMaps (open_string shut_string)
set_option linter.unusedVariables false

set_option maxRecDepth 100000 in
theorem tabOf {W : World} (h : laidMetH Tryz.prog Rows.fnCourseTextRow.laid W) (hS : W.ShapedOpen Tryz.prog) : RcT W := by
  rw [MakeChecks.laidMetH_plain _ _ _ (by kernel_rfl)] at h
  have h4 := laidMet.tail (laidMet.tail (laidMet.tail (laidMet.tail h)))
  have hR := iface_laid h4 (g := 5) (ti := 86) (by kernel_rfl) (by kernel_rfl) Tryz.underlying86
  have hE := iface_laid (laidMet.tail h4) (g := 4) (ti := 86) (by kernel_rfl) (by kernel_rfl) Tryz.underlying86
  obtain ⟨ps, ⟨g1, t1, cs1, f1, p1, q1, _, _, _, _, ⟨g2, t2, cs2, f2, p2, q2, _, _, _, _, ⟨g3, t3, cs3, f3, p3, q3, hg3, ht3, hv3, hd3, _, _⟩, _⟩, _⟩, _⟩ := h
  obtain rfl := Option.some.inj ((show Tryz.prog.globalNamed "internal/strconv.uint64pow10" = some 1 by kernel_rfl).symm.trans hg3)
  obtain rfl := Option.some.inj ((show (Tryz.prog.globals[1]?).map (·.type) = some 121 by kernel_rfl).symm.trans ht3)
  refine ⟨⟨?_, hE, hR⟩, Tryz.laysM146.s1_3 W hS⟩
  unfold Tab Lib.TabIs
  rw [hv3, ← Lib.cells_of_tab Tryz.underlying121 Tryz.underlying100 (by kernel_rfl) (by kernel_rfl) hd3]
theorem blk_grown {C : Nat} {x0 x1 x2 x3 x4 x5 x6 x7 : Int} {u : Value} {X Y : World} {row : Option Nat} (h : Blk9 C x0 x1 x2 x3 x4 x5 x6 x7 u X) (hg : X.grownBy Y row) (hne : row ≠ some C) : Blk9 C x0 x1 x2 x3 x4 x5 x6 x7 u Y := by
  have hB := hg.block C h.lt (fun e => hne e.symm)
  have hc := fun o => World.cell?_of_block (w := X) (w' := Y) (a := ⟨C, o, none⟩) hB
  have hf := fun o => World.frozen?_of_block (w := X) (w' := Y) (a := ⟨C, o, none⟩) hB
  exact ⟨(hc 0).trans h.c0, (hc 1).trans h.c1, (hc 2).trans h.c2, (hc 3).trans h.c3, (hc 4).trans h.c4, (hc 5).trans h.c5, (hc 6).trans h.c6, (hc 7).trans h.c7, (hc 8).trans h.c8, Nat.lt_of_lt_of_le h.lt hg.size, fun o => (hf o).trans (h.fr o)⟩
set_option maxRecDepth 100000 in
set_option maxHeartbeats 4000000 in
theorem walk (a : Option Addr) (cap n : Nat) (w : World) (w0 : n ≤ 9223372036854775807 ∧ BytesB w.heap.size w a n) (wT : RcT w) :
    Calls Tryz.prog 4 #[.slice a n cap] w fun e w' => e = .returned (.bool true) ∧ Below w.heap.size w w' := by
  obtain ⟨hn, hb0⟩ := w0
  have HB := Lib.hid hb0
  have HT := Lib.hid wT
  clear hb0 wT
  by_cases h : (4096 : Int) < (n : Int)
  case pos =>
    have CB := Lib.hid (fun w => big_t a n cap w hn h)
    go_enter Tryz.func4, Tryz.ntmps4
    go_wp2_with (go_at_call 10; refine (CB.out _).mono ?_; rintro e w' ⟨rfl, rfl⟩)
    go_ret
    exact ⟨rfl, (by repeat (first | with_reducible exact Below.refl _ _ | with_reducible assumption | with_reducible refine Below.drew ?_ | with_reducible refine Below.alloc ?_ (by first | exact Nat.le_refl _ | (simp; done) | (simp; omega) | omega) _ | with_reducible refine Below.setCell ?_ (by first | exact Nat.le_refl _ | (simp; done) | (simp; omega) | omega) _ | with_reducible refine Below.trans ?_ (Below.mono (by with_reducible assumption) (by first | exact Nat.le_refl _ | (simp; done) | (simp; omega) | omega))))⟩
  case neg =>
    have CB := Lib.hid (fun w => big_f a n cap w hn h)
    have CDT := Lib.hid (fun w hb => DrawCourseText_c a n cap w hn hb)
    have CO := Lib.hid (fun w hb => other_c 4 a n cap w (by omega) (by decide) (by decide) hb)
    have CDR := Lib.hid (fun b cp w hb => DrawReadCourse_c (some b) (n + 3) cp w (by omega) hb)
    clear h
    go_enter Tryz.func4, Tryz.ntmps4
    go_wp2_with (go_at_call 10; refine (CB.out _).mono ?_; rintro e w' ⟨rfl, rfl⟩)
    refine (CDT.out _ HB.out).mono ?_
    rintro e V1 ⟨⟨x0, x1, x2, x3, x4, x5, x6, x7, a9, cp, l, rfl, hl9, hns, ho⟩, HD⟩
    have O := Lib.hid ho
    have HNS := Lib.hid hns
    clear ho hns CDT CB
    obtain ⟨V2, hV2⟩ : ∃ x, x = V1.alloc (.cells #[.int .i64 x0, .int .i64 x1, .int .i64 x2, .int .i64 x3, .int .i64 x4, .int .i64 x5, .int .i64 x6, .int .i64 x7, .slice a9 l.length cp] 28) := ⟨_, rfl⟩
    go_wp2_with fail
    rw [← hV2]
    have hbx : Below V1.heap.size V1 V2 := by rw [hV2]; exact (Below.refl _ _).alloc (Nat.le_refl _) _
    have HC : Hid (Blk9 V1.heap.size x0 x1 x2 x3 x4 x5 x6 x7 (.slice a9 l.length cp) V2) := Lib.hid (by rw [hV2]; exact ⟨by simp [go_sem], by simp [go_sem], by simp [go_sem], by simp [go_sem], by simp [go_sem], by simp [go_sem], by simp [go_sem], by simp [go_sem], by simp [go_sem], by simp, fun o => World.frozen?_alloc_at _ _ _ _ rfl⟩)
    clear hV2
    replace HD := HD.trans (hbx.mono HD.size)
    replace O := Lib.hid (pown_below O.out hbx)
    clear hbx
    refine (CourseText_c x0 x1 x2 x3 x4 x5 x6 x7 a9 cp l V2 (by omega) (rowAt_ownA O.out) HNS.out.names (own_capZ O.out) (HT.out.below HD).1.1).mono ?_
    rintro e V3 ⟨rfl, hb⟩
    replace HD := HD.trans (hb.mono HD.size)
    replace HC := Lib.hid (HC.out.below hb HC.out.lt)
    replace O := Lib.hid (pown_below O.out hb)
    clear hb
    have k0 := HC.out.c0
    have k1 := HC.out.c1
    have k2 := HC.out.c2
    have k3 := HC.out.c3
    have k4 := HC.out.c4
    have k5 := HC.out.c5
    have k6 := HC.out.c6
    have k7 := HC.out.c7
    have k8 := HC.out.c8
    have kl := HC.out.lt
    go_wp2_with fail
    clear k0 k1 k2 k3 k4 k5 k6 k7 k8 kl
    refine (CourseTextS_c x0 x1 x2 x3 x4 x5 x6 x7 a9 cp l V3 (by omega) (rowAt_ownA O.out) HNS.out.names).mono ?_
    rintro e V4 ⟨rfl, hb⟩
    replace HD := HD.trans (hb.mono HD.size)
    replace HC := Lib.hid (HC.out.below hb HC.out.lt)
    replace O := Lib.hid (pown_below O.out hb)
    clear hb
    cases hok : courseOK x0 x1 x2 x3 x4 x5 x6 x7 l
    case false =>
      have cc := IsCourse_c x0 x1 x2 x3 x4 x5 x6 x7 a9 cp l V4 (by omega) (rowAt_ownA O.out) HNS.out.names (own_capZ O.out)
      rw [hok] at cc
      rw [ctR_no hok]
      clear hok
      have k0 := HC.out.c0
      have k1 := HC.out.c1
      have k2 := HC.out.c2
      have k3 := HC.out.c3
      have k4 := HC.out.c4
      have k5 := HC.out.c5
      have k6 := HC.out.c6
      have k7 := HC.out.c7
      have k8 := HC.out.c8
      have kl := HC.out.lt
      go_wp2_with fail
      clear k0 k1 k2 k3 k4 k5 k6 k7 k8 kl
      refine cc.mono ?_
      rintro e V5 ⟨rfl, hb⟩
      clear cc
      replace HD := HD.trans (hb.mono HD.size)
      clear hb
      clear HC O HNS
      go_wp2_with fail
      refine (CO.out _ (bytes_at HB.out HD)).mono ?_
      rintro e W1 ⟨⟨b, cb, rfl, hby⟩, hb⟩
      have CDR7 := Lib.hid (CDR.out b cb _ hby)
      clear hby CO CDR
      replace HD := HD.trans (hb.mono HD.size)
      clear hb
      go_wp2_with fail
      refine CDR7.out.mono ?_
      rintro e W2 ⟨⟨u, rfl, hu⟩, hb⟩
      clear CDR7
      replace HD := HD.trans (hb.mono HD.size)
      clear hb
      go_wp2_with fail
      refine (ReadCourse_c u _ (by omega) (HT.out.below HD)).mono ?_
      rintro e W3 ⟨hE, hb⟩
      obtain ⟨z0, z1, z2, z3, z4, z5, z6, z7, K, ok, a5, c5, hP, rfl, ho5⟩ := hE
      replace HD := HD.trans (hb.mono HD.size)
      clear hb
      have O5 := Lib.hid ho5
      clear ho5
      cases ok
      case false =>
        obtain ⟨r0, r1, r2, r3, r4, r5, r6, r7, rK⟩ := hP.2.1 rfl
        subst r0 r1 r2 r3 r4 r5 r6 r7 rK
        clear hP
        go_wp2_with fail
        go_ret
        exact ⟨rfl, HD.alloc HD.size _⟩
      case true =>
        obtain ⟨hu1, hu2⟩ := hP.1 rfl
        have hlK := rcp_len hP
        have HU := Lib.hid hu1
        clear hP hu1
        obtain ⟨W4, hW4⟩ : ∃ x, x = W3.alloc (.cells #[.int .i64 z0, .int .i64 z1, .int .i64 z2, .int .i64 z3, .int .i64 z4, .int .i64 z5, .int .i64 z6, .int .i64 z7, .slice a5 K.length c5] 28) := ⟨_, rfl⟩
        go_wp2_with fail
        rw [← hW4]
        have hbx : Below W3.heap.size W3 W4 := by rw [hW4]; exact (Below.refl _ _).alloc (Nat.le_refl _) _
        have HBK : Hid (Blk9 W3.heap.size z0 z1 z2 z3 z4 z5 z6 z7 (.slice a5 K.length c5) W4) := Lib.hid (by rw [hW4]; exact ⟨by simp [go_sem], by simp [go_sem], by simp [go_sem], by simp [go_sem], by simp [go_sem], by simp [go_sem], by simp [go_sem], by simp [go_sem], by simp [go_sem], by simp, fun o => World.frozen?_alloc_at _ _ _ _ rfl⟩)
        clear hW4
        replace HD := HD.trans (hbx.mono HD.size)
        replace O5 := Lib.hid (pown_below O5.out hbx)
        clear hbx
        refine (CourseText_c z0 z1 z2 z3 z4 z5 z6 z7 a5 c5 K W4 (by have := hlK.1; omega) (rowAt_ownA O5.out) (fun i hi => Nat.le_trans (hlK.2 i hi) (by unfold maxLen; omega)) (own_capZ O5.out) (HT.out.below HD).1.1).mono ?_
        rintro e W5 ⟨rfl, hb⟩
        replace HD := HD.trans (hb.mono HD.size)
        clear hb
        rw [← HU.out]
        go_wp2_with fail
        go_ret
        exact ⟨rfl, HD⟩
    case true =>
      have cc := IsCourse_c x0 x1 x2 x3 x4 x5 x6 x7 a9 cp l V4 (by omega) (rowAt_ownA O.out) HNS.out.names (own_capZ O.out)
      rw [hok] at cc
      have hne := ctR_yes hok
      have hle := ctR_le x0 x1 x2 x3 x4 x5 x6 x7 l
      have HRD := Lib.hid (show ∀ y0 y1 y2 y3 y4 y5 y6 y7 K ok, RcP (ctR x0 x1 x2 x3 x4 x5 x6 x7 l) y0 y1 y2 y3 y4 y5 y6 y7 K ok → ok = true ∧ y0 = x0 ∧ y1 = x1 ∧ y2 = x2 ∧ y3 = x3 ∧ y4 = x4 ∧ y5 = x5 ∧ y6 = x6 ∧ y7 = x7 ∧ K = l from fun y0 y1 y2 y3 y4 y5 y6 y7 K ok h => h.2.2 _ _ _ _ _ _ _ _ _ rfl hne)
      clear hok
      generalize ctR x0 x1 x2 x3 x4 x5 x6 x7 l = R at *
      have hRe : (R.toList == []) = false := by cases hh : (R.toList == []); rfl; exact absurd hne (by rw [str_same ((by simpa using hh : R.toList = []).trans (by simp : (⟨#[]⟩ : ByteArray).toList = []).symm)]; decide)
      have hRe2 : ¬ R.toList = [] := by simpa using hRe
      have k0 := HC.out.c0
      have k1 := HC.out.c1
      have k2 := HC.out.c2
      have k3 := HC.out.c3
      have k4 := HC.out.c4
      have k5 := HC.out.c5
      have k6 := HC.out.c6
      have k7 := HC.out.c7
      have k8 := HC.out.c8
      have kl := HC.out.lt
      go_wp2_with fail
      clear k0 k1 k2 k3 k4 k5 k6 k7 k8 kl
      refine cc.mono ?_
      rintro e V5 ⟨rfl, hb⟩
      clear cc
      replace HD := HD.trans (hb.mono HD.size)
      replace HC := Lib.hid (HC.out.below hb HC.out.lt)
      replace O := Lib.hid (pown_below O.out hb)
      clear hb
      go_wp2_with fail
      refine (ReadCourse_c R _ (by omega) (HT.out.below HD)).mono ?_
      rintro e V6 ⟨hE, hb⟩
      obtain ⟨y0, y1, y2, y3, y4, y5, y6, y7, K, ok, a5, c5, hP, rfl, ho5⟩ := hE
      obtain ⟨rfl, r0, r1, r2, r3, r4, r5, r6, r7, rK⟩ := HRD.out _ _ _ _ _ _ _ _ _ _ hP
      subst r0 r1 r2 r3 r4 r5 r6 r7 rK
      clear hP HRD
      replace HD := HD.trans (hb.mono HD.size)
      replace HC := Lib.hid (HC.out.below hb HC.out.lt)
      replace O := Lib.hid (pown_below O.out hb)
      clear hb
      have O5 := Lib.hid ho5
      clear ho5
      obtain ⟨V7, hV7⟩ : ∃ x, x = V6.alloc (.cells #[.int .i64 y0, .int .i64 y1, .int .i64 y2, .int .i64 y3, .int .i64 y4, .int .i64 y5, .int .i64 y6, .int .i64 y7, .slice a5 K.length c5] 28) := ⟨_, rfl⟩
      have k0 := HC.out.c0
      have k1 := HC.out.c1
      have k2 := HC.out.c2
      have k3 := HC.out.c3
      have k4 := HC.out.c4
      have k5 := HC.out.c5
      have k6 := HC.out.c6
      have k7 := HC.out.c7
      have k8 := HC.out.c8
      have kl := HC.out.lt
      go_wp2_with fail
      clear k0 k1 k2 k3 k4 k5 k6 k7 k8 kl
      rw [← hV7]
      have hbx : Below V6.heap.size V6 V7 := by rw [hV7]; exact (Below.refl _ _).alloc (Nat.le_refl _) _
      have HBK : Hid (Blk9 V6.heap.size y0 y1 y2 y3 y4 y5 y6 y7 (.slice a5 K.length c5) V7) := Lib.hid (by rw [hV7]; exact ⟨by simp [go_sem], by simp [go_sem], by simp [go_sem], by simp [go_sem], by simp [go_sem], by simp [go_sem], by simp [go_sem], by simp [go_sem], by simp [go_sem], by simp, fun o => World.frozen?_alloc_at _ _ _ _ rfl⟩)
      clear hV7
      replace HD := HD.trans (hbx.mono HD.size)
      replace HC := Lib.hid (HC.out.below hbx HC.out.lt)
      replace O := Lib.hid (pown_below O.out hbx)
      replace O5 := Lib.hid (pown_below O5.out hbx)
      clear hbx
      refine (w9Courses_c y0 y1 y2 y3 y4 y5 y6 y7 a5 a9 c5 cp K V7 (by omega) (rowAt_ownA O5.out) (rowAt_ownA O.out)).mono ?_
      rintro e V8 ⟨rfl, hb⟩
      replace HD := HD.trans (hb.mono HD.size)
      clear hb
      clear HC O O5 HBK HNS
      go_wp2_with fail
      refine (CO.out _ (bytes_at HB.out HD)).mono ?_
      rintro e W1 ⟨⟨b, cb, rfl, hby⟩, hb⟩
      have CDR7 := Lib.hid (CDR.out b cb _ hby)
      clear hby CO CDR
      replace HD := HD.trans (hb.mono HD.size)
      clear hb
      go_wp2_with fail
      refine CDR7.out.mono ?_
      rintro e W2 ⟨⟨u, rfl, hu⟩, hb⟩
      clear CDR7
      replace HD := HD.trans (hb.mono HD.size)
      clear hb
      go_wp2_with fail
      refine (ReadCourse_c u _ (by omega) (HT.out.below HD)).mono ?_
      rintro e W3 ⟨hE, hb⟩
      obtain ⟨z0, z1, z2, z3, z4, z5, z6, z7, K, ok, a5, c5, hP, rfl, ho5⟩ := hE
      replace HD := HD.trans (hb.mono HD.size)
      clear hb
      have O5 := Lib.hid ho5
      clear ho5
      cases ok
      case false =>
        obtain ⟨r0, r1, r2, r3, r4, r5, r6, r7, rK⟩ := hP.2.1 rfl
        subst r0 r1 r2 r3 r4 r5 r6 r7 rK
        clear hP
        go_wp2_with fail
        go_ret
        exact ⟨rfl, HD.alloc HD.size _⟩
      case true =>
        obtain ⟨hu1, hu2⟩ := hP.1 rfl
        have hlK := rcp_len hP
        have HU := Lib.hid hu1
        clear hP hu1
        obtain ⟨W4, hW4⟩ : ∃ x, x = W3.alloc (.cells #[.int .i64 z0, .int .i64 z1, .int .i64 z2, .int .i64 z3, .int .i64 z4, .int .i64 z5, .int .i64 z6, .int .i64 z7, .slice a5 K.length c5] 28) := ⟨_, rfl⟩
        go_wp2_with fail
        rw [← hW4]
        have hbx : Below W3.heap.size W3 W4 := by rw [hW4]; exact (Below.refl _ _).alloc (Nat.le_refl _) _
        have HBK : Hid (Blk9 W3.heap.size z0 z1 z2 z3 z4 z5 z6 z7 (.slice a5 K.length c5) W4) := Lib.hid (by rw [hW4]; exact ⟨by simp [go_sem], by simp [go_sem], by simp [go_sem], by simp [go_sem], by simp [go_sem], by simp [go_sem], by simp [go_sem], by simp [go_sem], by simp [go_sem], by simp, fun o => World.frozen?_alloc_at _ _ _ _ rfl⟩)
        clear hW4
        replace HD := HD.trans (hbx.mono HD.size)
        replace O5 := Lib.hid (pown_below O5.out hbx)
        clear hbx
        refine (CourseText_c z0 z1 z2 z3 z4 z5 z6 z7 a5 c5 K W4 (by have := hlK.1; omega) (rowAt_ownA O5.out) (fun i hi => Nat.le_trans (hlK.2 i hi) (by unfold maxLen; omega)) (own_capZ O5.out) (HT.out.below HD).1.1).mono ?_
        rintro e W5 ⟨rfl, hb⟩
        replace HD := HD.trans (hb.mono HD.size)
        clear hb
        rw [← HU.out]
        go_wp2_with fail
        go_ret
        exact ⟨rfl, HD⟩

theorem own : ownKnob Tryz.prog.godebug = none := by kernel_rfl
theorem laidOut : laidOutB Tryz.prog = true := by kernel_rfl
set_option maxRecDepth 100000 in
theorem lifted (os : Os) (started : os.Started) (H : Type) (enc : TypeId × Value → H) :
    ReturnsInHanded {} Tryz.checked os 4 .any (fun w args => (Rows.fnCourseTextSpec.pre enc Tryz.prog Tryz.f4 Rows.fnCourseTextRow.domain false w args ∧ laidMetH Tryz.prog Rows.fnCourseTextRow.laid w) ∧ sizedMet enc Tryz.prog Tryz.f4 (OpenSpec.ofChange Rows.fnCourseTextSpec) false w args)
      (Rows.fnCourseTextSpec.post enc Tryz.prog Tryz.f4 false true false false) := by
  refine returnsIn_and_shaped (C := Tryz.checked) (X := fun w _ => laidMetH Tryz.prog Rows.fnCourseTextRow.laid w) (fun _ _ _ hh h => h.of_heap hh) own started (by kernel_rfl) Tryz.func4
    (ChangeSpec.witness_shaped (enc := enc) (C := Tryz.checked) (os := os) (X := fun w _ => laidMetH Tryz.prog Rows.fnCourseTextRow.laid w) false (World.laidAll Tryz.prog os Rows.fnCourseTextRow.laid) #[.slice none 0 0] 8 (World.laidAll_os _ _ _)
      (World.shaped_of_ZipB (by kernel_rfl) (by kernel_rfl)) (by kernel_rfl) (by kernel_rfl) (by kernel_rfl)
      (by rw [MakeChecks.laidMetH_plain _ _ _ (by kernel_rfl)]; exact laidMet_laidAll _ (by kernel_rfl) (by kernel_rfl))) ?_
  intro W base args ds gs before hval0 hW _ _ hLaid hShp _
  have hval : ∀ (j : Nat) t v, Tryz.f4.params[j]? = some t → args[j]? = some v → Value.okWide Tryz.prog W .any base t v := hval0
  have hW' := hW
  obtain ⟨p, q, hA0, hV, rfl, hfz, hnd⟩ := hW
  have hA : DataW.TrodAll enc Tryz.prog W 0 (fun _ => true) true Tryz.f4.params.toList args.toList ds p := hA0
  rw [Tryz.params4] at hA hval
  obtain ⟨v0, vs0, d0, ds0, p0, q0, hargs, rfl, rfl, h0, r0⟩ := trodAll_cons hA
  obtain ⟨rfl, rfl, rfl⟩ := trodAll_nil r0
  obtain rfl : args = #[v0] := by cases args; simp_all
  obtain ⟨rfl, rfl⟩ := trodVars_none hV
  have k0 := h0
  have lt0 : ∀ x ∈ p0, x.block < W.heap.size := by obtain ⟨m, hm⟩ := k0; exact DataW.trod_lt m _ _ _ hm
  obtain ⟨⟨a0, cap0⟩, n0, rfl, w0⟩ := open_bytes Tryz.underlying34 Tryz.underlying5 (by kernel_rfl) (hval 0 34 v0 rfl rfl) h0
  clear hA0 hval0
  refine (walk a0 cap0 n0 W w0 (tabOf hLaid hShp)).mono fun e W' ⟨he, bel⟩ => ?_
  subst he
  exact ⟨_, rfl, _, _, _, [], _, [], hW', trodAll_mk1 (shut_bool Tryz.underlying4 _), (trodAll_cons_mk (Below.trod laidOut (by kernel_rfl) (of_decide_eq_true (by kernel_rfl)) k0 bel lt0) trodAll_mk0), rfl, bel.frame _, fun h => by cases h⟩

theorem over : Rows.fnCourseTextRow.holds Tryz.pinned (OpenSpec.ofChange Rows.fnCourseTextSpec) :=
  OpenClaim.holds_of_wide 4 Tryz.f4 rfl rfl rfl rfl rfl rfl rfl ⟨rfl, rfl, rfl, rfl, rfl⟩ rfl rfl rfl rfl rfl (by kernel_rfl) Tryz.func4 (by kernel_rfl)
    (of_decide_eq_true (by kernel_rfl)) (by unfold Func.isWrapper; first | (rw [if_pos (by decide +kernel)]; kernel_rfl) | (rw [if_neg (by decide +kernel)]; exact ⟨rfl, rfl⟩))
    (fun os started H enc _ => lifted os started H enc)

theorem carded : Rows.FnCourseTextCardSaid :=
  Claim7.holds_tied_plain_at .later [] [.data, .data, .data, .data, .sentinel, .sentinel, .pinned] true (true, "7c6a4b52de26df88741e5d6045f2bb6f117d4df6355eea10407cdb59e5b655be") true over (fun _ h => by cases h) (by kernel_rfl) (fun _ h => by cases h) fnCourseText_row_tie rfl ⟨rfl, rfl⟩ (by kernel_rfl) rfl
    (fun f fn hf hfn => by
      obtain rfl : f = 4 := Option.some.inj ((show Tryz.prog.funcNamed "loop.example/g00887/laws.FnCourseText" = some 4 by kernel_rfl).symm.trans hf) |>.symm
      obtain rfl : fn = Tryz.f4 := (Option.some.inj (Tryz.func4.symm.trans hfn)).symm
      exact ⟨by kernel_rfl, fun j t ht => by
        rw [Tryz.params4] at ht
        have hm : t ∈ [34] := by simpa using Array.mem_of_getElem? ht
        have hall : ([34].all fun u => !Tryz.prog.wantsStandIn u) = true := by kernel_rfl
        exact (show Tryz.prog.wantsStandIn t = false by simpa using List.all_eq_true.1 hall t hm)⟩)
    (by kernel_rfl)

/-- The statement. -/
theorem proved : Rows.FnCourseTextCardSaid := carded
end Go.Proofs.YtjgndfphbmkhaaaGreatDoor.fnCourseText
