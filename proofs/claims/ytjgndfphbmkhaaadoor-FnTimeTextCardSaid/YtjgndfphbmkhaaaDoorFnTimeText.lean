/-
  FnTimeText: for every code the law's function answers true. No condition.
-/
import Derived.Test.YtjgndfphbmkhaaaDoorRows
import Derived.Test.YtjgndfphbmkhaaaDoorTie
import Derived.Test.YtjgndfphbmkhaaaDoorCards
import Derived.LaidMore
import Derived.Lay
import Derived.SevenTiedAt
import Derived.Test.YtjgndfphbmkhaaaDoorRd4
import Derived.Test.YtjgndfphbmkhaaaDoorRd7
import Derived.Test.YtjgndfphbmkhaaaDoorShp
import Derived.Test.YtjgndfphbmkhaaaDoorTxd2
import Derived.Test.YtjgndfphbmkhaaaDoorOth
namespace Go.Proofs.YtjgndfphbmkhaaaDoor.fnTimeText
open Go.ChangeShapes Go.WideShapes Go.ChangeAt Go.RowKit Go.Deep
open Go.ChangeMaps (open_string shut_string)
set_option linter.unusedVariables false

set_option maxRecDepth 100000 in
theorem tabOf {W : World} (h : laidMetH Tryd.prog Rows.fnTimeTextRow.laid W) (hS : W.ShapedOpen Tryd.prog) : RdT W := by
  rw [MakeChecks.laidMetH_plain _ _ _ (by kernel_rfl)] at h
  have h4 := laidMet.tail (laidMet.tail (laidMet.tail h))
  have hR := iface_laid h4 (g := 2) (ti := 55) (by kernel_rfl) (by kernel_rfl) Tryd.underlying55
  have hE := iface_laid (laidMet.tail h4) (g := 1) (ti := 55) (by kernel_rfl) (by kernel_rfl) Tryd.underlying55
  obtain ⟨ps, ⟨g1, t1, cs1, f1, p1, q1, _, _, _, _, ⟨g2, t2, cs2, f2, p2, q2, _, _, _, _, ⟨g3, t3, cs3, f3, p3, q3, hg3, ht3, hv3, hd3, _, _⟩, _⟩, _⟩, _⟩ := h
  obtain rfl := Option.some.inj ((show Tryd.prog.globalNamed "internal/strconv.uint64pow10" = some 3 by kernel_rfl).symm.trans hg3)
  obtain rfl := Option.some.inj ((show (Tryd.prog.globals[3]?).map (·.type) = some 139 by kernel_rfl).symm.trans ht3)
  refine ⟨⟨?_, hE, hR⟩, Tryd.laysM145.s1_3 W hS⟩
  unfold Tab Lib.TabIs
  rw [hv3, ← Lib.cells_of_tab Tryd.underlying139 Tryd.underlying117 (by kernel_rfl) (by kernel_rfl) hd3]
theorem tt_ne {m : Nat} : ¬ (ttB m = ⟨#[]⟩) := fun e => by
  have h := tt_size m
  rw [e] at h
  have : (⟨#[]⟩ : ByteArray).size = 0 := rfl
  omega
set_option maxRecDepth 100000 in
set_option maxHeartbeats 4000000 in
theorem walk (a : Option Addr) (cap n : Nat) (w : World) (w0 : n ≤ 9223372036854775807 ∧ BytesB w.heap.size w a n) (wT : RdT w) :
    Calls Tryd.prog 5 #[.slice a n cap] w fun e w' => e = .returned (.bool true) ∧ Below w.heap.size w w' := by
  obtain ⟨hn, hb⟩ := w0
  have HB := Lib.hid hb
  have HT := Lib.hid wT
  clear hb wT
  by_cases h : (4096 : Int) < (n : Int)
  · have CB := Lib.hid (fun w => big_t a n cap w hn h)
    go_enter Tryd.func5, Tryd.ntmps5
    go_wp2_with (go_at_call 11; refine (CB.out _).mono ?_; rintro e w' ⟨rfl, rfl⟩)
    go_ret
    exact ⟨rfl, (by repeat (first | with_reducible exact Below.refl _ _ | with_reducible assumption | with_reducible refine Below.drew ?_ | with_reducible refine Below.alloc ?_ (by first | exact Nat.le_refl _ | (simp; done) | (simp; omega) | omega) _ | with_reducible refine Below.setCell ?_ (by first | exact Nat.le_refl _ | (simp; done) | (simp; omega) | omega) _ | with_reducible refine Below.trans ?_ (Below.mono (by with_reducible assumption) (by first | exact Nat.le_refl _ | (simp; done) | (simp; omega) | omega))))⟩
  have CB := Lib.hid (fun w => big_f a n cap w hn h)
  have CDT := Lib.hid (fun w hb => DrawTimeText_c a n cap w hn hb)
  have CO := Lib.hid (fun w hb => other_c 1 a n cap w (by omega) (by decide) (by decide) hb)
  have CDR := Lib.hid (fun b cp w hb => DrawReadTime_c (some b) (n + 3) cp w (by omega) hb)
  clear h
  go_enter Tryd.func5, Tryd.ntmps5
  go_wp2_with (go_at_call 11; refine (CB.out _).mono ?_; rintro e w' ⟨rfl, rfl⟩)
  refine (CDT.out _ HB.out).mono ?_
  rintro e V1 ⟨⟨t, rfl⟩, hb1⟩
  go_wp2_with fail
  refine (TimeText_c t _ (HT.out.below hb1).1.1).mono ?_
  rintro e V2 ⟨rfl, hb2⟩
  have HB2 := Lib.hid (hb1.trans (hb2.mono hb1.size))
  clear hb1 hb2
  go_wp2_with fail
  refine (TimeTextS_c t _).mono ?_
  rintro e V3 ⟨rfl, hb3⟩
  have HB3 := Lib.hid (HB2.out.trans (hb3.mono HB2.out.size))
  clear hb3 HB2
  cases ht : inR t 0 1000000000
  · have hR : ttR t = ⟨#[]⟩ := by unfold ttR; rw [ht, if_neg (by decide)]
    rw [hR]
    clear ht hR
    go_wp2_with fail
    refine (CO.out _ (bytes_at HB.out HB3.out)).mono ?_
    rintro e V7 ⟨⟨b, cp, rfl, hby⟩, hb7⟩
    have HB7 := Lib.hid (HB3.out.trans (hb7.mono HB3.out.size))
    have CDR7 := Lib.hid (CDR.out b cp _ hby)
    clear hby hb7 CO CDR
    go_wp2_with fail
    refine CDR7.out.mono ?_
    rintro e V8 ⟨⟨u, rfl, hu⟩, hb8⟩
    have HB8 := Lib.hid (HB7.out.trans (hb8.mono HB7.out.size))
    clear hb8 HB7 CDR7
    go_wp2_with fail
    refine (ReadTime_c u _ (by omega) (HT.out.below HB8.out)).mono ?_
    rintro e V9 ⟨⟨x, ok, hP, rfl⟩, hb9⟩
    have HB9 := Lib.hid (HB8.out.trans (hb9.mono HB8.out.size))
    clear hb9 HB8
    cases ok
    · obtain rfl := hP.2.1 rfl
      clear hP
      go_wp2_with fail
      go_ret
      exact ⟨rfl, HB9.out⟩
    · obtain ⟨x0, x1, hx⟩ := hP.1 rfl
      have hX : ttR x = u := by
        rw [hx]
        unfold ttR
        rw [if_pos (inR_mk x0 x1)]
      have HX := Lib.hid hX
      clear hP hx hX
      go_wp2_with fail
      refine (TimeText_c x _ (HT.out.below HB9.out).1.1).mono ?_
      rintro e Va ⟨rfl, hba⟩
      have HBa := Lib.hid (HB9.out.trans (hba.mono HB9.out.size))
      clear hba HB9
      rw [HX.out]
      go_wp2_with fail
      go_ret
      exact ⟨rfl, HBa.out⟩
  · have hR : ttR t = ttB t.toNat := by unfold ttR; rw [ht, if_pos rfl]
    obtain ⟨t0, t1⟩ := inR_true ht
    rw [hR]
    obtain ⟨m, rfl⟩ := Int.eq_ofNat_of_zero_le t0
    have hm : m ≤ 1000000000 := by omega
    rw [show Int.toNat ((m : Nat) : Int) = m from rfl]
    have HNE := Lib.hid (tt_ne (m := m))
    have CR := Lib.hid (fun w h => ReadTime_c (ttB m) w (by have := tt_size_bd hm; omega) h)
    have HRS := Lib.hid (show ∀ x ok, RdP (ttB m) x ok → ok = true ∧ x = (m : Int) from fun x ok h => h.2.2 m hm rfl)
    clear ht hR hm
    generalize ttB m = R at *
    go_wp2_with fail
    all_goals first
      | skip
        refine (CR.out _ (HT.out.below HB3.out)).mono ?_
        rintro e V5 ⟨⟨x, ok, hP, rfl⟩, hb5⟩
        obtain ⟨rfl, rfl⟩ := HRS.out _ _ hP
        have HB5 := Lib.hid (HB3.out.trans (hb5.mono HB3.out.size))
        clear hP hb5 HB3 CR HRS
        go_wp2_with fail
        refine (CO.out _ (bytes_at HB.out HB5.out)).mono ?_
        rintro e V7 ⟨⟨b, cp, rfl, hby⟩, hb7⟩
        have HB7 := Lib.hid (HB5.out.trans (hb7.mono HB5.out.size))
        have CDR7 := Lib.hid (CDR.out b cp _ hby)
        clear hby hb7 CO CDR
        go_wp2_with fail
        refine CDR7.out.mono ?_
        rintro e V8 ⟨⟨u, rfl, hu⟩, hb8⟩
        have HB8 := Lib.hid (HB7.out.trans (hb8.mono HB7.out.size))
        clear hb8 HB7 CDR7
        go_wp2_with fail
        refine (ReadTime_c u _ (by omega) (HT.out.below HB8.out)).mono ?_
        rintro e V9 ⟨⟨x, ok, hP, rfl⟩, hb9⟩
        have HB9 := Lib.hid (HB8.out.trans (hb9.mono HB8.out.size))
        clear hb9 HB8
        cases ok
        · obtain rfl := hP.2.1 rfl
          clear hP
          go_wp2_with fail
          go_ret
          exact ⟨rfl, HB9.out⟩
        · obtain ⟨x0, x1, hx⟩ := hP.1 rfl
          have hX : ttR x = u := by
            rw [hx]
            unfold ttR
            rw [if_pos (inR_mk x0 x1)]
          have HX := Lib.hid hX
          clear hP hx hX
          go_wp2_with fail
          refine (TimeText_c x _ (HT.out.below HB9.out).1.1).mono ?_
          rintro e Va ⟨rfl, hba⟩
          have HBa := Lib.hid (HB9.out.trans (hba.mono HB9.out.size))
          clear hba HB9
          rw [HX.out]
          go_wp2_with fail
          go_ret
          exact ⟨rfl, HBa.out⟩
      | skip
        refine (CO.out _ (bytes_at HB.out HB3.out)).mono ?_
        rintro e V7 ⟨⟨b, cp, rfl, hby⟩, hb7⟩
        have HB7 := Lib.hid (HB3.out.trans (hb7.mono HB3.out.size))
        have CDR7 := Lib.hid (CDR.out b cp _ hby)
        clear hby hb7 CO CDR
        go_wp2_with fail
        refine CDR7.out.mono ?_
        rintro e V8 ⟨⟨u, rfl, hu⟩, hb8⟩
        have HB8 := Lib.hid (HB7.out.trans (hb8.mono HB7.out.size))
        clear hb8 HB7 CDR7
        go_wp2_with fail
        refine (ReadTime_c u _ (by omega) (HT.out.below HB8.out)).mono ?_
        rintro e V9 ⟨⟨x, ok, hP, rfl⟩, hb9⟩
        have HB9 := Lib.hid (HB8.out.trans (hb9.mono HB8.out.size))
        clear hb9 HB8
        cases ok
        · obtain rfl := hP.2.1 rfl
          clear hP
          go_wp2_with fail
          go_ret
          exact ⟨rfl, HB9.out⟩
        · obtain ⟨x0, x1, hx⟩ := hP.1 rfl
          have hX : ttR x = u := by
            rw [hx]
            unfold ttR
            rw [if_pos (inR_mk x0 x1)]
          have HX := Lib.hid hX
          clear hP hx hX
          go_wp2_with fail
          refine (TimeText_c x _ (HT.out.below HB9.out).1.1).mono ?_
          rintro e Va ⟨rfl, hba⟩
          have HBa := Lib.hid (HB9.out.trans (hba.mono HB9.out.size))
          clear hba HB9
          rw [HX.out]
          go_wp2_with fail
          go_ret
          exact ⟨rfl, HBa.out⟩

theorem own : ownKnob Tryd.prog.godebug = none := by kernel_rfl
theorem laidOut : laidOutB Tryd.prog = true := by kernel_rfl
set_option maxRecDepth 100000 in
theorem lifted (os : Os) (started : os.Started) (H : Type) (enc : TypeId × Value → H) :
    ReturnsInHanded {} Tryd.checked os 5 .any (fun w args => (Rows.fnTimeTextSpec.pre enc Tryd.prog Tryd.f5 Rows.fnTimeTextRow.domain false w args ∧ laidMetH Tryd.prog Rows.fnTimeTextRow.laid w) ∧ sizedMet enc Tryd.prog Tryd.f5 (OpenSpec.ofChange Rows.fnTimeTextSpec) false w args)
      (Rows.fnTimeTextSpec.post enc Tryd.prog Tryd.f5 false true false false) := by
  refine returnsIn_and_shaped (C := Tryd.checked) (X := fun w _ => laidMetH Tryd.prog Rows.fnTimeTextRow.laid w) (fun _ _ _ hh h => h.of_heap hh) own started (by kernel_rfl) Tryd.func5
    (ChangeSpec.witness_shaped (enc := enc) (C := Tryd.checked) (os := os) (X := fun w _ => laidMetH Tryd.prog Rows.fnTimeTextRow.laid w) false (World.laidAll Tryd.prog os Rows.fnTimeTextRow.laid) #[.slice none 0 0] 8 (World.laidAll_os _ _ _)
      (World.shaped_of_ZipB (by kernel_rfl) (by kernel_rfl)) (by kernel_rfl) (by kernel_rfl) (by kernel_rfl)
      (by rw [MakeChecks.laidMetH_plain _ _ _ (by kernel_rfl)]; exact laidMet_laidAll _ (by kernel_rfl) (by kernel_rfl))) ?_
  intro W base args ds gs before hval0 hW _ _ hLaid hShp _
  have hval : ∀ (j : Nat) t v, Tryd.f5.params[j]? = some t → args[j]? = some v → Value.okWide Tryd.prog W .any base t v := hval0
  have hW' := hW
  obtain ⟨p, q, hA0, hV, rfl, hfz, hnd⟩ := hW
  have hA : DataW.TrodAll enc Tryd.prog W 0 (fun _ => true) true Tryd.f5.params.toList args.toList ds p := hA0
  rw [Tryd.params5] at hA hval
  obtain ⟨v0, vs0, d0, ds0, p0, q0, hargs, rfl, rfl, h0, r0⟩ := trodAll_cons hA
  obtain ⟨rfl, rfl, rfl⟩ := trodAll_nil r0
  obtain rfl : args = #[v0] := by cases args; simp_all
  obtain ⟨rfl, rfl⟩ := trodVars_none hV
  have k0 := h0
  have lt0 : ∀ x ∈ p0, x.block < W.heap.size := by obtain ⟨m, hm⟩ := k0; exact DataW.trod_lt m _ _ _ hm
  obtain ⟨⟨a0, cap0⟩, n0, rfl, w0⟩ := open_bytes Tryd.underlying27 Tryd.underlying5 (by kernel_rfl) (hval 0 27 v0 rfl rfl) h0
  clear hA0 hval0
  refine (walk a0 cap0 n0 W w0 (tabOf hLaid hShp)).mono fun e W' ⟨he, bel⟩ => ?_
  subst he
  exact ⟨_, rfl, _, _, _, [], _, [], hW', trodAll_mk1 (shut_bool Tryd.underlying4 _), (trodAll_cons_mk (Below.trod laidOut (by kernel_rfl) (of_decide_eq_true (by kernel_rfl)) k0 bel lt0) trodAll_mk0), rfl, bel.frame _, fun h => by cases h⟩

theorem over : Rows.fnTimeTextRow.holds Tryd.pinned (OpenSpec.ofChange Rows.fnTimeTextSpec) :=
  OpenClaim.holds_of_wide 5 Tryd.f5 rfl rfl rfl rfl rfl rfl rfl ⟨rfl, rfl, rfl, rfl, rfl⟩ rfl rfl rfl rfl rfl (by kernel_rfl) Tryd.func5 (by kernel_rfl)
    (of_decide_eq_true (by kernel_rfl)) (by unfold Func.isWrapper; first | (rw [if_pos (by decide +kernel)]; kernel_rfl) | (rw [if_neg (by decide +kernel)]; exact ⟨rfl, rfl⟩))
    (fun os started H enc _ => lifted os started H enc)

theorem carded : Rows.FnTimeTextCardSaid :=
  Claim7.holds_tied_plain_at .later [] [.data, .data, .data, .sentinel, .sentinel] true (true, "ed96ea063d2c200333f753eab7cef21ae3ac934f090119a8d0bdc4f41c124830") true over (fun _ h => by cases h) (by kernel_rfl) (fun _ h => by cases h) fnTimeText_row_tie rfl ⟨rfl, rfl⟩ (by kernel_rfl) rfl
    (fun f fn hf hfn => by
      obtain rfl : f = 5 := Option.some.inj ((show Tryd.prog.funcNamed "loop.example/g00887/laws.FnTimeText" = some 5 by kernel_rfl).symm.trans hf) |>.symm
      obtain rfl : fn = Tryd.f5 := (Option.some.inj (Tryd.func5.symm.trans hfn)).symm
      exact ⟨by kernel_rfl, fun j t ht => by
        rw [Tryd.params5] at ht
        have hm : t ∈ [27] := by simpa using Array.mem_of_getElem? ht
        have hall : ([27].all fun u => !Tryd.prog.wantsStandIn u) = true := by kernel_rfl
        exact (show Tryd.prog.wantsStandIn t = false by simpa using List.all_eq_true.1 hall t hm)⟩)
    (by kernel_rfl)

/-- The statement. -/
theorem proved : Rows.FnTimeTextCardSaid := carded
end Go.Proofs.YtjgndfphbmkhaaaDoor.fnTimeText
