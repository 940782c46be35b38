/-
  FnExactReadTime: for all arguments the program's function answers as the reference's. No condition.
-/
import Derived.Test.YtjgndfphbmkhaaaDoorRows
import Derived.Test.YtjgndfphbmkhaaaDoorTie
import Derived.Test.YtjgndfphbmkhaaaDoorCards
import Derived.LaidMore
import Derived.Lay
import Derived.SevenTiedAt
import Derived.Test.YtjgndfphbmkhaaaDoorRd4
import Derived.Test.YtjgndfphbmkhaaaDoorRd7
import Derived.Test.YtjgndfphbmkhaaaDoorShp
namespace Go.Proofs.YtjgndfphbmkhaaaDoor.readTime
open Go.ChangeShapes Go.WideShapes Go.ChangeAt Go.RowKit Go.Deep
open Go.ChangeMaps (open_string shut_string)
set_option linter.unusedVariables false

set_option maxRecDepth 100000 in
theorem tabOf {W : World} (h : laidMetH Tryd.prog Rows.fnExactReadTimeRow.laid W) (hS : W.ShapedOpen Tryd.prog) : RdT W := by
  rw [MakeChecks.laidMetH_plain _ _ _ (by kernel_rfl)] at h
  have h4 := laidMet.tail (laidMet.tail (laidMet.tail h))
  have hR := iface_laid h4 (g := 2) (ti := 55) (by kernel_rfl) (by kernel_rfl) Tryd.underlying55
  have hE := iface_laid (laidMet.tail h4) (g := 1) (ti := 55) (by kernel_rfl) (by kernel_rfl) Tryd.underlying55
  obtain ⟨ps, ⟨g1, t1, cs1, f1, p1, q1, _, _, _, _, ⟨g2, t2, cs2, f2, p2, q2, _, _, _, _, ⟨g3, t3, cs3, f3, p3, q3, hg3, ht3, hv3, hd3, _, _⟩, _⟩, _⟩, _⟩ := h
  obtain rfl := Option.some.inj ((show Tryd.prog.globalNamed "internal/strconv.uint64pow10" = some 3 by kernel_rfl).symm.trans hg3)
  obtain rfl := Option.some.inj ((show (Tryd.prog.globals[3]?).map (·.type) = some 139 by kernel_rfl).symm.trans ht3)
  refine ⟨⟨?_, hE, hR⟩, Tryd.laysM145.s1_3 W hS⟩
  unfold Tab Lib.TabIs
  rw [hv3, ← Lib.cells_of_tab Tryd.underlying139 Tryd.underlying117 (by kernel_rfl) (by kernel_rfl) hd3]
set_option maxHeartbeats 400000 in
theorem walk (s : ByteArray) (w : World) (v0 : s.size ≤ maxLen) (wT : RdT w) :
    Calls Tryd.prog 4 #[.string s] w fun e w' => e = .returned (.bool true) ∧ Below w.heap.size w w' := by
  by_cases hs : s.size ≤ 1048576
  · have hs' : ¬ (1048576 : Int) < (s.size : Int) := by omega
    have CS := Lib.hid (fun w => ReadTimeS_c s w hs)
    have CI := Lib.hid (fun w h => ReadTime_c s w hs h)
    have HT := Lib.hid wT
    clear wT v0
    go_enter Tryd.func4, Tryd.ntmps4
    go_wp2_with fail
    refine (CS.out _).mono ?_
    rintro e V1 ⟨⟨t, ok, h1, rfl⟩, hb1⟩
    have H1 := Lib.hid h1
    clear h1
    go_wp2_with fail
    refine (CI.out _ (HT.out.below hb1)).mono ?_
    rintro e V2 ⟨⟨u, ok2, h2, rfl⟩, hb2⟩
    obtain ⟨rfl, rfl⟩ := rdt_same H1.out h2
    clear h2 H1
    go_wp2_with fail
    go_ret
    exact ⟨rfl, hb1.trans (hb2.mono hb1.size)⟩
  · have hs' : (1048576 : Int) < (s.size : Int) := by omega
    clear wT v0
    go_enter Tryd.func4, Tryd.ntmps4
    go_wp2_with fail
    go_ret
    exact ⟨rfl, Below.refl _ _⟩

theorem own : ownKnob Tryd.prog.godebug = none := by kernel_rfl
theorem laidOut : laidOutB Tryd.prog = true := by kernel_rfl
set_option maxRecDepth 100000 in
theorem lifted (os : Os) (started : os.Started) (H : Type) (enc : TypeId × Value → H) :
    ReturnsInHanded {} Tryd.checked os 4 .any (fun w args => (Rows.fnExactReadTimeSpec.pre enc Tryd.prog Tryd.f4 Rows.fnExactReadTimeRow.domain false w args ∧ laidMetH Tryd.prog Rows.fnExactReadTimeRow.laid w) ∧ sizedMet enc Tryd.prog Tryd.f4 (OpenSpec.ofChange Rows.fnExactReadTimeSpec) false w args)
      (Rows.fnExactReadTimeSpec.post enc Tryd.prog Tryd.f4 false true false false) := by
  refine returnsIn_and_shaped (C := Tryd.checked) (X := fun w _ => laidMetH Tryd.prog Rows.fnExactReadTimeRow.laid w) (fun _ _ _ hh h => h.of_heap hh) own started (by kernel_rfl) Tryd.func4
    (ChangeSpec.witness_shaped (enc := enc) (C := Tryd.checked) (os := os) (X := fun w _ => laidMetH Tryd.prog Rows.fnExactReadTimeRow.laid w) false (World.laidAll Tryd.prog os Rows.fnExactReadTimeRow.laid) #[.string ByteArray.empty] 8 (World.laidAll_os _ _ _)
      (World.shaped_of_ZipB (by kernel_rfl) (by kernel_rfl)) (by kernel_rfl) (by kernel_rfl) (by kernel_rfl)
      (by rw [MakeChecks.laidMetH_plain _ _ _ (by kernel_rfl)]; exact laidMet_laidAll _ (by kernel_rfl) (by kernel_rfl))) ?_
  intro W base args ds gs before hval0 hW _ _ hLaid hShp _
  have hval : ∀ (j : Nat) t v, Tryd.f4.params[j]? = some t → args[j]? = some v → Value.okWide Tryd.prog W .any base t v := hval0
  have hW' := hW
  obtain ⟨p, q, hA0, hV, rfl, hfz, hnd⟩ := hW
  have hA : DataW.TrodAll enc Tryd.prog W 0 (fun _ => true) true Tryd.f4.params.toList args.toList ds p := hA0
  rw [Tryd.params4] at hA hval
  obtain ⟨v0, vs0, d0, ds0, p0, q0, hargs, rfl, rfl, h0, r0⟩ := trodAll_cons hA
  obtain ⟨rfl, rfl, rfl⟩ := trodAll_nil r0
  obtain rfl : args = #[v0] := by cases args; simp_all
  obtain ⟨rfl, rfl⟩ := trodVars_none hV
  obtain ⟨a0, rfl, rfl, rfl, w0⟩ := open_string Tryd.underlying9 (hval 0 9 v0 rfl rfl) h0
  clear hA0 hval0
  refine (walk a0 W w0 (tabOf hLaid hShp)).mono fun e W' ⟨he, bel⟩ => ?_
  subst he
  exact ⟨_, rfl, _, _, _, [], _, [], hW', trodAll_mk1 (shut_bool Tryd.underlying4 _), (trodAll_cons_mk (shut_string Tryd.underlying9 w0) trodAll_mk0), rfl, bel.frame _, fun h => by cases h⟩

theorem over : Rows.fnExactReadTimeRow.holds Tryd.pinned (OpenSpec.ofChange Rows.fnExactReadTimeSpec) :=
  OpenClaim.holds_of_wide 4 Tryd.f4 rfl rfl rfl rfl rfl rfl rfl ⟨rfl, rfl, rfl, rfl, rfl⟩ rfl rfl rfl rfl rfl (by kernel_rfl) Tryd.func4 (by kernel_rfl)
    (of_decide_eq_true (by kernel_rfl)) (by unfold Func.isWrapper; first | (rw [if_pos (by decide +kernel)]; kernel_rfl) | (rw [if_neg (by decide +kernel)]; exact ⟨rfl, rfl⟩))
    (fun os started H enc _ => lifted os started H enc)

theorem carded : Rows.FnExactReadTimeCardSaid :=
  Claim7.holds_tied_plain_at .later [] [.data, .data, .data, .sentinel, .sentinel] true (true, "ed96ea063d2c200333f753eab7cef21ae3ac934f090119a8d0bdc4f41c124830") true over (fun _ h => by cases h) (by kernel_rfl) (fun _ h => by cases h) fnExactReadTime_row_tie rfl ⟨rfl, rfl⟩ (by kernel_rfl) rfl
    (fun f fn hf hfn => by
      obtain rfl : f = 4 := Option.some.inj ((show Tryd.prog.funcNamed "loop.example/g00887/laws.FnExactReadTime" = some 4 by kernel_rfl).symm.trans hf) |>.symm
      obtain rfl : fn = Tryd.f4 := (Option.some.inj (Tryd.func4.symm.trans hfn)).symm
      exact ⟨by kernel_rfl, fun j t ht => by
        rw [Tryd.params4] at ht
        have hm : t ∈ [9] := by simpa using Array.mem_of_getElem? ht
        have hall : ([9].all fun u => !Tryd.prog.wantsStandIn u) = true := by kernel_rfl
        exact (show Tryd.prog.wantsStandIn t = false by simpa using List.all_eq_true.1 hall t hm)⟩)
    (by kernel_rfl)

/-- The statement. -/
theorem proved : Rows.FnExactReadTimeCardSaid := carded
end Go.Proofs.YtjgndfphbmkhaaaDoor.readTime
