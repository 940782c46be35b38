/-
  Reading a course, the reference's side. Condition: the text is short.
-/
import Derived.Test.YtjgndfphbmkhaaaGreatDoorSp3
namespace Go.Proofs.YtjgndfphbmkhaaaGreatDoor
set_option linter.unusedVariables false
open Go.RowKit Go.Deep

set_option maxRecDepth 100000 in
set_option maxHeartbeats 16000000 in
theorem ReadCourseS_c (s : ByteArray) (w : World) (hs : s.size ≤ 1048576) : Calls Tryz.prog 5 #[.string s] w fun e w' => RcE s w.heap.size e w' ∧ Below w.heap.size w w' := by
  obtain ⟨i0, hi, ti0, ti1, ti2⟩ := info_parts infoMk
  go_enter Tryz.func5, Tryz.ntmps5
  go_wp2_with fail
  refine (l01Split_c s _ hs).mono ?_
  rintro e V1 ⟨⟨g, cw, rfl, hr, hg0, hg⟩, hb⟩
  have HR := Lib.hid (show Blk9 w.heap.size 0 0 0 0 0 0 0 0 (.slice none 0 0) V1 from (⟨by simp [go_sem], by simp [go_sem], by simp [go_sem], by simp [go_sem], by simp [go_sem], by simp [go_sem], by simp [go_sem], by simp [go_sem], by simp [go_sem], by simp, fun o => World.frozen?_alloc_at _ _ _ _ rfl⟩ : Blk9 w.heap.size 0 0 0 0 0 0 0 0 (.slice none 0 0) (w.alloc (.cells #[.int .i64 0, .int .i64 0, .int .i64 0, .int .i64 0, .int .i64 0, .int .i64 0, .int .i64 0, .int .i64 0, .slice none 0 0] 28))).below hb (by simp))
  have HD : Below w.heap.size w V1 := ((Below.refl w.heap.size w).alloc (Nat.le_refl _) _).trans (hb.mono (by simp))
  have HW := Lib.hid hr
  have hgw : w.heap.size < g := by simp at hg0; omega
  have HZ := Lib.hid (fun i => Nat.le_trans (wd_size s i) hs)
  have HSZ := Lib.hid (fun i => wd_size s i)
  have HL := Lib.hid (show ∀ z0 z1 z2 z3 z4 z5 z6 z7 k, s = ctR z0 z1 z2 z3 z4 z5 z6 z7 k → 1 ≤ s.size → (wordsB s).length = 10 + 6 * k.length ∧ 1 ≤ k.length ∧ k.length ≤ 8 from fun z0 z1 z2 z3 z4 z5 z6 z7 k e h => (crs_words e h).2)
  have hwl := words_le s
  have HCY := Lib.hid (fun x0 x1 x2 x3 x4 x5 x6 x7 l h e h1 => rcp_yes (s := s) (x0 := x0) (x1 := x1) (x2 := x2) (x3 := x3) (x4 := x4) (x5 := x5) (x6 := x6) (x7 := x7) (l := l) h e h1)
  have HCN := Lib.hid (fun x0 x1 x2 x3 x4 x5 x6 x7 l h e => noCrs_ne (s := s) (x0 := x0) (x1 := x1) (x2 := x2) (x3 := x3) (x4 := x4) (x5 := x5) (x6 := x6) (x7 := x7) (l := l) h e)
  have HMZ := Lib.hid (fun L h => msRd_sizes (s := s) (L := L) h)
  clear hr hb hg0
  generalize wordsB s = ws at *
  by_cases h16 : ws.length < 16
  case pos =>
    have HN := Lib.hid (show NoCrs s from fun z0 z1 z2 z3 z4 z5 z6 z7 k e h1 => (by have := HL.out z0 z1 z2 z3 z4 z5 z6 z7 k e h1; omega))
    have h16' : (ws.length : Int) < 16 := by omega
    clear HL HCY HCN HMZ HZ HSZ h16
    have r0 := HR.out.c0
    have r1 := HR.out.c1
    have r2 := HR.out.c2
    have r3 := HR.out.c3
    have r4 := HR.out.c4
    have r5 := HR.out.c5
    have r6 := HR.out.c6
    have r7 := HR.out.c7
    have r8 := HR.out.c8
    have rl := HR.out.lt
    have rf := HR.out.fr
    clear HR HW
    go_wp2_with fail
    all_goals exact bodyPost_ret (v := .tuple #[.agg #[.int .i64 0, .int .i64 0, .int .i64 0, .int .i64 0, .int .i64 0, .int .i64 0, .int .i64 0, .int .i64 0, .slice none 0 0], .bool false]) (by simp [results, Tryz.results5, go_sem, *]) rfl ⟨rce_no HN.out, (by repeat (first | with_reducible exact Below.refl _ _ | with_reducible assumption | with_reducible refine Below.drew ?_ | with_reducible refine Below.alloc ?_ (by first | exact Nat.le_refl _ | (simp; done) | (simp; omega) | omega) _ | with_reducible refine Below.setCell ?_ (by first | exact Nat.le_refl _ | (simp; done) | (simp; omega) | omega) _ | with_reducible refine Below.trans ?_ (Below.mono (by with_reducible assumption) (by first | exact Nat.le_refl _ | (simp; done) | (simp; omega) | omega))))⟩
  case neg =>
    have h16' : ¬ (ws.length : Int) < 16 := by omega
    obtain ⟨q, r, hqr, hr6⟩ : ∃ q r, ws.length = 10 + 6 * q + r ∧ r < 6 := ⟨(ws.length - 10) / 6, (ws.length - 10) % 6, by omega, by omega⟩
    have t1 : IntKind.i64.wrap ((ws.length : Int) - 10) = (ws.length : Int) - 10 := by rw [IntKind.wrap_i64]; omega
    have t2 : ((ws.length : Int) - 10).tmod 6 = (r : Int) := by rw [Int.tmod_eq_emod_of_nonneg (by omega)]; omega
    have t3 : IntKind.i64.wrap (r : Int) = (r : Int) := by rw [IntKind.wrap_i64]; omega
    have t5 : ((ws.length : Int) - 10).tdiv 6 = (q : Int) := by rw [Int.tdiv_eq_ediv_of_nonneg (by omega)]; omega
    have t6 : IntKind.i64.wrap (q : Int) = (q : Int) := by rw [IntKind.wrap_i64]; omega
    by_cases h6 : r = 0
    case neg =>
      have HN := Lib.hid (show NoCrs s from fun z0 z1 z2 z3 z4 z5 z6 z7 k e h1 => (by have := HL.out z0 z1 z2 z3 z4 z5 z6 z7 k e h1; omega))
      have t4 : ((r : Int) == 0) = false := by simp; omega
      clear HL HCY HCN HMZ HZ HSZ h16 hqr
      have r0 := HR.out.c0
      have r1 := HR.out.c1
      have r2 := HR.out.c2
      have r3 := HR.out.c3
      have r4 := HR.out.c4
      have r5 := HR.out.c5
      have r6 := HR.out.c6
      have r7 := HR.out.c7
      have r8 := HR.out.c8
      have rl := HR.out.lt
      have rf := HR.out.fr
      clear HR HW hr6
      go_wp2_with fail
      all_goals exact bodyPost_ret (v := .tuple #[.agg #[.int .i64 0, .int .i64 0, .int .i64 0, .int .i64 0, .int .i64 0, .int .i64 0, .int .i64 0, .int .i64 0, .slice none 0 0], .bool false]) (by simp [results, Tryz.results5, go_sem, *]) rfl ⟨rce_no HN.out, (by repeat (first | with_reducible exact Below.refl _ _ | with_reducible assumption | with_reducible refine Below.drew ?_ | with_reducible refine Below.alloc ?_ (by first | exact Nat.le_refl _ | (simp; done) | (simp; omega) | omega) _ | with_reducible refine Below.setCell ?_ (by first | exact Nat.le_refl _ | (simp; done) | (simp; omega) | omega) _ | with_reducible refine Below.trans ?_ (Below.mono (by with_reducible assumption) (by first | exact Nat.le_refl _ | (simp; done) | (simp; omega) | omega))))⟩
    case pos =>
      subst h6
      by_cases h8 : q ≤ 8
      case neg =>
        have HN := Lib.hid (show NoCrs s from fun z0 z1 z2 z3 z4 z5 z6 z7 k e h1 => (by have := HL.out z0 z1 z2 z3 z4 z5 z6 z7 k e h1; omega))
        have h8' : (8 : Int) < (q : Int) := by omega
        clear HL HCY HCN HMZ HZ HSZ h16 hqr h8
        have r0 := HR.out.c0
        have r1 := HR.out.c1
        have r2 := HR.out.c2
        have r3 := HR.out.c3
        have r4 := HR.out.c4
        have r5 := HR.out.c5
        have r6 := HR.out.c6
        have r7 := HR.out.c7
        have r8 := HR.out.c8
        have rl := HR.out.lt
        have rf := HR.out.fr
        clear HR HW
        go_wp2_with fail
        all_goals exact bodyPost_ret (v := .tuple #[.agg #[.int .i64 0, .int .i64 0, .int .i64 0, .int .i64 0, .int .i64 0, .int .i64 0, .int .i64 0, .int .i64 0, .slice none 0 0], .bool false]) (by simp [results, Tryz.results5, go_sem, *]) rfl ⟨rce_no HN.out, (by repeat (first | with_reducible exact Below.refl _ _ | with_reducible assumption | with_reducible refine Below.drew ?_ | with_reducible refine Below.alloc ?_ (by first | exact Nat.le_refl _ | (simp; done) | (simp; omega) | omega) _ | with_reducible refine Below.setCell ?_ (by first | exact Nat.le_refl _ | (simp; done) | (simp; omega) | omega) _ | with_reducible refine Below.trans ?_ (Below.mono (by with_reducible assumption) (by first | exact Nat.le_refl _ | (simp; done) | (simp; omega) | omega))))⟩
      case pos =>
        have h8' : ¬ (8 : Int) < (q : Int) := by omega
        have hq1 : 1 ≤ q := by omega
        have HQ := Lib.hid (show ws.length = 10 + 6 * q by omega)
        clear HL hqr h16 hr6
        go_wp2_with fail
        have cc := l04Read_c g cw ws 1 V1 (by omega) (by have := HQ.out; omega) HZ.out HW.out hg
        rw [show ((1 : Nat) : Int) = 1 from rfl] at cc
        refine cc.mono ?_
        rintro e V2 ⟨⟨x0, x1, rfl, n0, n1⟩, hb2⟩
        clear cc
        replace HD := HD.trans (hb2.mono HD.size)
        replace HR := Lib.hid (HR.out.below hb2 HR.out.lt)
        replace HW := Lib.hid (RowAt.below HW.out hb2)
        replace hg := Nat.lt_of_lt_of_le hg hb2.size
        have N0 := Lib.hid n0
        have N1 := Lib.hid n1
        clear n0 n1 hb2
        go_wp2_with fail
        have cc := l04Read_c g cw ws 3 V2 (by omega) (by have := HQ.out; omega) HZ.out HW.out hg
        rw [show ((3 : Nat) : Int) = 3 from rfl] at cc
        refine cc.mono ?_
        rintro e V3 ⟨⟨x2, x3, rfl, n2, n3⟩, hb3⟩
        clear cc
        replace HD := HD.trans (hb3.mono HD.size)
        replace HR := Lib.hid (HR.out.below hb3 HR.out.lt)
        replace HW := Lib.hid (RowAt.below HW.out hb3)
        replace hg := Nat.lt_of_lt_of_le hg hb3.size
        have N2 := Lib.hid n2
        have N3 := Lib.hid n3
        clear n2 n3 hb3
        go_upto_region 6 with fail
        refine wpNamedZ ?_
        intro V4 hV4
        have hb4 : Below V3.heap.size V3 V4 := by rw [hV4]; exact (Below.refl _ _).alloc (Nat.le_refl _) _
        have HC : Hid (Blk9 V3.heap.size x0 x1 x2 x3 0 0 0 0 (.slice none 0 0) V4) := Lib.hid (by rw [hV4]; exact ⟨by simp [go_sem], by simp [go_sem], by simp [go_sem], by simp [go_sem], by simp [go_sem], by simp [go_sem], by simp [go_sem], by simp [go_sem], by simp [go_sem], by simp, fun o => World.frozen?_alloc_at _ _ _ _ rfl⟩)
        replace HD := HD.trans (hb4.mono HD.size)
        replace HR := Lib.hid (HR.out.below hb4 HR.out.lt)
        replace HW := Lib.hid (RowAt.below HW.out hb4)
        have hgC : g < V3.heap.size := hg
        replace hg := Nat.lt_of_lt_of_le hg hb4.size
        have hwC : w.heap.size < V3.heap.size := by omega
        have hCV := HC.out.lt
        clear hV4 hb4
        generalize V3.heap.size = C at *
        have t8 : IntKind.i64.wrap ((ws.length : Int) - 5) = (ws.length : Int) - 5 := by rw [IntKind.wrap_i64]; omega
        go_wp2_with fail
        go_loopw [7, 8] (fun mv av wr => ∃ (gm cp k : Nat) (M : List Mk), mv = .slice (some ⟨gm, 0, none⟩) M.length cp ∧ av = .int .i64 (k : Int) ∧ Hid (k = 5 + 6 * M.length) ∧ Hid (M.length ≤ q) ∧ Hid (MsRd ws M) ∧ Hid (wr.ownsRow V4.heap.size 47 5 (.slice (some ⟨gm, 0, none⟩) M.length cp) M.length (mflat M)) ∧ gm < wr.heap.size ∧ V4.heap.size ≤ gm ∧ Below V4.heap.size V4 wr) (fun _ a _ => 100 - (intOf a).toNat)
        case atStart => exact ⟨V4.heap.size, 0, 5, [], rfl, rfl, Lib.hid rfl, Lib.hid (Nat.zero_le _), Lib.hid (msRd_nil ws), Lib.hid (World.ownsRow_lit V4 #[] 0 (Nat.le_refl _) (by unfold maxLen; omega) rfl), by simp, Nat.le_refl _, (by repeat (first | with_reducible exact Below.refl _ _ | with_reducible assumption | with_reducible refine Below.drew ?_ | with_reducible refine Below.alloc ?_ (by first | exact Nat.le_refl _ | (simp; done) | (simp; omega) | omega) _ | with_reducible refine Below.setCell ?_ (by first | exact Nat.le_refl _ | (simp; done) | (simp; omega) | omega) _ | with_reducible refine Below.trans ?_ (Below.mono (by with_reducible assumption) (by first | exact Nat.le_refl _ | (simp; done) | (simp; omega) | omega))))⟩
        case round =>
          obtain ⟨gm, cp, k, M, rfl, rfl, hk, hMq, hM, hO, hlt, hg1, HB⟩ := hrel
          have hk5 : 5 ≤ k ∧ k ≤ 53 := by have := hk.out; have := hMq.out; omega
          have hM8 : M.length ≤ 8 := by have := hMq.out; omega
          have w6 : IntKind.i64.wrap ((k : Int) + 6) = (k : Int) + 6 := by rw [IntKind.wrap_i64]; omega
          have HW4 := HW
          replace HW := Lib.hid (RowAt.below HW.out HB)
          have hgr : g < wr.heap.size := Nat.lt_of_lt_of_le hg HB.size
          by_cases h : M.length < q
          case pos =>
            have h' : (k : Int) + 6 ≤ (ws.length : Int) - 5 := by have := hk.out; have := HQ.out; omega
            have a1 : IntKind.i64.wrap ((k : Int) + 1) = (k : Int) + 1 := by rw [IntKind.wrap_i64]; omega
            have b1 : (k : Int) + 1 < (ws.length : Int) := by omega
            have d1 : ((k : Int) + 1).toNat = k + 1 := by omega
            have f1 : (0 : Int) ≤ (k : Int) + 1 := by omega
            have e1 := wd_cell HW4.out (show k + 1 < ws.length by omega)
            have a2 : IntKind.i64.wrap ((k : Int) + 2) = (k : Int) + 2 := by rw [IntKind.wrap_i64]; omega
            have b2 : (k : Int) + 2 < (ws.length : Int) := by omega
            have d2 : ((k : Int) + 2).toNat = k + 2 := by omega
            have f2 : (0 : Int) ≤ (k : Int) + 2 := by omega
            have a4 : IntKind.i64.wrap ((k : Int) + 4) = (k : Int) + 4 := by rw [IntKind.wrap_i64]; omega
            have b4 : (k : Int) + 4 < (ws.length : Int) := by omega
            have d4 : ((k : Int) + 4).toNat = k + 4 := by omega
            have f4 : (0 : Int) ≤ (k : Int) + 4 := by omega
            have e4 := wd_cell HW.out (show k + 4 < ws.length by omega)
            have a5 : IntKind.i64.wrap ((k : Int) + 5) = (k : Int) + 5 := by rw [IntKind.wrap_i64]; omega
            have b5 : (k : Int) + 5 < (ws.length : Int) := by omega
            have d5 : ((k : Int) + 5).toNat = k + 5 := by omega
            have f5 : (0 : Int) ≤ (k : Int) + 5 := by omega
            have e5 := wd_cell HW.out (show k + 5 < ws.length by omega)
            have CV := Lib.hid (fun w => l01Value_c (wd ws (k + 5)) w (HZ.out _))
            have CR := Lib.hid (fun X hX hX2 => l04Read_c g cw ws (k + 2) X (by omega) (by omega) HZ.out hX hX2)
            rw [show ((k + 2 : Nat) : Int) = (k : Int) + 2 by omega] at CR
            have HMK := Lib.hid (show ∀ x y v sd, NumOf (wd ws (k + 2)) x → NumOf (wd ws (k + 2 + 1)) y → NumOf (wd ws (k + 5)) v → sd = (if wd ws (k + 4) = sbB then (2 : Int) else 1) → MsRd ws (M ++ [⟨wd ws (k + 1), x, y, sd, v⟩]) from fun x y v sd h1 h2 h3 h4 => msRd_snoc hM.out (by have := hk.out; subst this; exact ⟨rfl, h1, h2, h4, h3⟩))
            generalize wd ws (k + 1) = u1 at *
            generalize wd ws (k + 2) = u2 at *
            generalize wd ws (k + 2 + 1) = u3 at *
            generalize wd ws (k + 4) = u4 at *
            generalize wd ws (k + 5) = u5 at *
            clear hM
            go_wp2_with fail
            refine (CV.out _).mono ?_
            rintro e V5 ⟨⟨v, okv, hPv, rfl⟩, hb5⟩
            have NV := Lib.hid (lv_num hPv)
            replace HB := HB.trans (hb5.mono HB.size)
            replace HW := Lib.hid (RowAt.below HW.out hb5)
            replace e4 := (hb5.cell (p := ⟨g, k + 4, none⟩) hgr).trans e4
            replace hgr := Nat.lt_of_lt_of_le hgr hb5.size
            replace hO := Lib.hid (pown_below hO.out hb5)
            replace hlt := Nat.lt_of_lt_of_le hlt hb5.size
            clear CV hPv e5 hb5
            by_cases hsb : u4 = sbB
            case pos =>
              have HSD := Lib.hid (show (2 : Int) = (if u4 = sbB then (2 : Int) else 1) by rw [if_pos hsb])
              subst hsb
              unfold sbB at e4
              go_upto_region 14 with fail
              have hli0 : ∀ x : Obj, V5.heap.size < (V5.alloc x).heap.size := fun x => by simp
              have hwz := HB.size
              go_region_held3 (fun wx => Below V4.heap.size V4 wx ∧ ∀ b o, b < V4.heap.size → wx.cell? ⟨b, o, none⟩ = V4.cell? ⟨b, o, none⟩)
                (repeat (first | with_reducible assumption | with_reducible exact held_of hBA | with_reducible exact held_of HB | with_reducible exact held_step (by assumption) hb | with_reducible refine held_alloc ?_ _ | with_reducible refine held_drew ?_))
                (first | (go_at_call 19; refine (CR.out _ (by first | exact HW.out | exact RowAt.below HW.out (Below.refl _ _).drew) (by first | exact hgr | (simpa using hgr))).mono ?_; rintro e w1 ⟨⟨x, y, rfl, hx, hy⟩, hb⟩; have hb9 : Below V5.heap.size V5 w1 := (by first | exact hb | exact Below.trans (Below.refl V5.heap.size V5).drew (by simpa using hb)); have HX := Lib.hid hx; have HY := Lib.hid hy; clear hx hy; have hO9 := Lib.hid (pown_below hO.out hb9); have HB9 := HB.trans (hb9.mono HB.size); have hz9 := hb9.size; have hwz9 := HB9.size) | (refine step_append_lies _ (by rfl) (.tmp 60) (.tmp 73) 26 (by rfl) V4.heap.size 47 i0 _ 5 48 Tryz.underlying26 hi ti0 ti1 ti2 rfl (by decide) (.slice (some ⟨gm, 0, none⟩) M.length cp) M.length (mflat M) (by rfl) (by repeat (first | with_reducible exact hO9.out | with_reducible refine World.ownsRow.alloc ?_ _ | with_reducible refine World.ownsRow.drew ?_)) ⟨w1.heap.size, 0, none⟩ 1 1 [.string u1, .int .i64 x, .int .i64 y, .int .i64 2, .int .i64 v] (by rfl) rfl (World.news_of_block (pheap_new (by first | rfl | (simp; done)))) (oneMk _ _ _ _ _) (by decide) (by unfold maxLen; omega) (by omega) (by first | omega | (simp; omega)) (w1.heap.size + 1) (by simp) ?_; intro g2 cp2 w2 hown2 hgrow2 hat2 hlt2; have hkS : Kept gm w1 w2 := Kept.trans (by first | exact Kept.alloc (Kept.refl _ _) _ | exact Kept.alloc (Kept.drew (Kept.refl _ _)) _ | exact Kept.drew (Kept.alloc (Kept.refl _ _) _)) (kept_grownS hgrow2); have hBA := HB9.trans (hkS.below hg1 hwz9)))
              all_goals have HM2 := Lib.hid (HMK.out x y v 2 HX.out HY.out NV.out HSD.out)
              all_goals have HO2 := Lib.hid (show w2.ownsRow V4.heap.size 47 5 (.slice (some ⟨g2, 0, none⟩) (M ++ [⟨u1, x, y, 2, v⟩] : List Mk).length cp2) (M ++ [⟨u1, x, y, 2, v⟩] : List Mk).length (mflat (M ++ [⟨u1, x, y, 2, v⟩])) by rw [show (M ++ [⟨u1, x, y, 2, v⟩] : List Mk).length = M.length + 1 by simp, mflat_snocZ]; exact hown2)
              all_goals have hg3 : V4.heap.size ≤ g2 := by rcases hat2 with e | e; (have e3 : gm = g2 := Option.some.inj e; omega); first | omega | (simp at e; omega)
              all_goals clear hown2 hgrow2 hat2 hkS HB9 hO9 hb9 CR e4
              all_goals go_wp2_with fail
              all_goals exact ⟨⟨g2, cp2, k + 6, M ++ [⟨u1, x, y, 2, v⟩], by simp, by simp, Lib.hid (by have := hk.out; simp; omega), Lib.hid (by simp; omega), HM2, HO2, hlt2, hg3, hBA⟩, by first | (simp [intOf]; done) | (simp [intOf]; omega)⟩
            case neg =>
              have HSD := Lib.hid (show (1 : Int) = (if u4 = sbB then (2 : Int) else 1) by rw [if_neg hsb])
              have hsf : (u4.toList == [115, 116, 97, 114, 98, 111, 97, 114, 100]) = false := by cases hh : (u4.toList == [115, 116, 97, 114, 98, 111, 97, 114, 100]); rfl; exact absurd (str_same ((by simpa using hh : u4.toList = [115, 116, 97, 114, 98, 111, 97, 114, 100]).trans sbB_list.symm)) hsb
              go_upto_region 14 with fail
              have hli0 : ∀ x : Obj, V5.heap.size < (V5.alloc x).heap.size := fun x => by simp
              have hwz := HB.size
              go_region_held3 (fun wx => Below V4.heap.size V4 wx ∧ ∀ b o, b < V4.heap.size → wx.cell? ⟨b, o, none⟩ = V4.cell? ⟨b, o, none⟩)
                (repeat (first | with_reducible assumption | with_reducible exact held_of hBA | with_reducible exact held_of HB | with_reducible exact held_step (by assumption) hb | with_reducible refine held_alloc ?_ _ | with_reducible refine held_drew ?_))
                (first | (go_at_call 19; refine (CR.out _ (by first | exact HW.out | exact RowAt.below HW.out (Below.refl _ _).drew) (by first | exact hgr | (simpa using hgr))).mono ?_; rintro e w1 ⟨⟨x, y, rfl, hx, hy⟩, hb⟩; have hb9 : Below V5.heap.size V5 w1 := (by first | exact hb | exact Below.trans (Below.refl V5.heap.size V5).drew (by simpa using hb)); have HX := Lib.hid hx; have HY := Lib.hid hy; clear hx hy; have hO9 := Lib.hid (pown_below hO.out hb9); have HB9 := HB.trans (hb9.mono HB.size); have hz9 := hb9.size; have hwz9 := HB9.size) | (refine step_append_lies _ (by rfl) (.tmp 60) (.tmp 73) 26 (by rfl) V4.heap.size 47 i0 _ 5 48 Tryz.underlying26 hi ti0 ti1 ti2 rfl (by decide) (.slice (some ⟨gm, 0, none⟩) M.length cp) M.length (mflat M) (by rfl) (by repeat (first | with_reducible exact hO9.out | with_reducible refine World.ownsRow.alloc ?_ _ | with_reducible refine World.ownsRow.drew ?_)) ⟨w1.heap.size, 0, none⟩ 1 1 [.string u1, .int .i64 x, .int .i64 y, .int .i64 1, .int .i64 v] (by rfl) rfl (World.news_of_block (pheap_new (by first | rfl | (simp; done)))) (oneMk _ _ _ _ _) (by decide) (by unfold maxLen; omega) (by omega) (by first | omega | (simp; omega)) (w1.heap.size + 1) (by simp) ?_; intro g2 cp2 w2 hown2 hgrow2 hat2 hlt2; have hkS : Kept gm w1 w2 := Kept.trans (by first | exact Kept.alloc (Kept.refl _ _) _ | exact Kept.alloc (Kept.drew (Kept.refl _ _)) _ | exact Kept.drew (Kept.alloc (Kept.refl _ _) _)) (kept_grownS hgrow2); have hBA := HB9.trans (hkS.below hg1 hwz9)))
              all_goals have HM2 := Lib.hid (HMK.out x y v 1 HX.out HY.out NV.out HSD.out)
              all_goals have HO2 := Lib.hid (show w2.ownsRow V4.heap.size 47 5 (.slice (some ⟨g2, 0, none⟩) (M ++ [⟨u1, x, y, 1, v⟩] : List Mk).length cp2) (M ++ [⟨u1, x, y, 1, v⟩] : List Mk).length (mflat (M ++ [⟨u1, x, y, 1, v⟩])) by rw [show (M ++ [⟨u1, x, y, 1, v⟩] : List Mk).length = M.length + 1 by simp, mflat_snocZ]; exact hown2)
              all_goals have hg3 : V4.heap.size ≤ g2 := by rcases hat2 with e | e; (have e3 : gm = g2 := Option.some.inj e; omega); first | omega | (simp at e; omega)
              all_goals clear hown2 hgrow2 hat2 hkS HB9 hO9 hb9 CR e4
              all_goals go_wp2_with fail
              all_goals exact ⟨⟨g2, cp2, k + 6, M ++ [⟨u1, x, y, 1, v⟩], by simp, by simp, Lib.hid (by have := hk.out; simp; omega), Lib.hid (by simp; omega), HM2, HO2, hlt2, hg3, hBA⟩, by first | (simp [intOf]; done) | (simp [intOf]; omega)⟩
          case neg =>
            have hMl : M.length = q := by have := hMq.out; omega
            have h' : ¬ (k : Int) + 6 ≤ (ws.length : Int) - 5 := by have := hk.out; have := HQ.out; omega
            have HML := Lib.hid hMl
            clear hMq hk hMl h
            have HDr := HD.trans (HB.mono HD.size)
            replace HR := Lib.hid (HR.out.below HB HR.out.lt)
            replace HC := Lib.hid (HC.out.below HB HC.out.lt)
            have hgmC : gm ≠ C := by omega
            have hgmR : gm ≠ w.heap.size := by have := HD.size; omega
            have k0 := HC.out.c0
            have k1 := HC.out.c1
            have k2 := HC.out.c2
            have k3 := HC.out.c3
            have k4 := HC.out.c4
            have k5 := HC.out.c5
            have k6 := HC.out.c6
            have k7 := HC.out.c7
            have k8 := HC.out.c8
            have kl := HC.out.lt
            have kf := HC.out.fr
            have n4 : IntKind.i64.wrap ((ws.length : Int) - 4) = (ws.length : Int) - 4 := by rw [IntKind.wrap_i64]; omega
            have n2 : IntKind.i64.wrap ((ws.length : Int) - 2) = (ws.length : Int) - 2 := by rw [IntKind.wrap_i64]; omega
            clear w6
            go_wp2_with fail
            obtain ⟨X0, hX0⟩ : ∃ x, x = wr.setCell ⟨C, 8, none⟩ (.slice (some ⟨gm, 0, none⟩) M.length cp) := ⟨_, rfl⟩
            rw [← hX0]
            have HC0 : Hid (Blk9 C x0 x1 x2 x3 0 0 0 0 (.slice (some ⟨gm, 0, none⟩) M.length cp) X0) := Lib.hid (by rw [hX0]; exact HC.out.set8 _)
            have HR0 : Hid (Blk9 w.heap.size 0 0 0 0 0 0 0 0 (.slice none 0 0) X0) := Lib.hid (by rw [hX0]; exact HR.out.far (by omega) _)
            have HW0 : Hid (RowAt X0 (some ⟨g, 0, none⟩) (wflat ws)) := Lib.hid (by rw [hX0]; exact rowAt_setZ HW.out (fun b off e => by simp at e; omega) _)
            have HO0 : Hid (X0.ownsRow V4.heap.size 47 5 (.slice (some ⟨gm, 0, none⟩) M.length cp) M.length (mflat M)) := Lib.hid (by rw [hX0]; exact ownsRow_setCell_other hO.out (by simp [Value.ownBlock]; omega) _)
            have hg0 : g < X0.heap.size := by rw [hX0]; simpa [World.setCell] using hgr
            have HD0 : Below w.heap.size w X0 := by rw [hX0]; exact HDr.setCell (by simp; omega) _
            clear k0 k1 k2 k3 k4 k5 k6 k7 k8 kl kf
            clear hX0 HC HR HW hO HDr HB hlt hgr
            have cc := l04Read_c g cw ws (ws.length - 4) X0 (by omega) (by omega) HZ.out HW0.out hg0
            rw [show ((ws.length - 4 : Nat) : Int) = (ws.length : Int) - 4 by omega] at cc
            refine cc.mono ?_
            rintro e X1 ⟨⟨x4, x5, rfl, hx4, hx5⟩, hb⟩
            clear cc
            replace HD0 := HD0.trans (hb.mono HD0.size)
            replace HC0 := Lib.hid (HC0.out.below hb HC0.out.lt)
            replace HR0 := Lib.hid (HR0.out.below hb HR0.out.lt)
            replace HW0 := Lib.hid (RowAt.below HW0.out hb)
            replace HO0 := Lib.hid (pown_below HO0.out hb)
            replace hg0 := Nat.lt_of_lt_of_le hg0 hb.size
            have Nx4 := Lib.hid hx4
            have Nx5 := Lib.hid hx5
            clear hb hx4 hx5
            go_wp2_with fail
            have cc := l04Read_c g cw ws (ws.length - 2) X1 (by omega) (by omega) HZ.out HW0.out hg0
            rw [show ((ws.length - 2 : Nat) : Int) = (ws.length : Int) - 2 by omega] at cc
            refine cc.mono ?_
            rintro e X2 ⟨⟨x6, x7, rfl, hx6, hx7⟩, hb⟩
            clear cc
            replace HD0 := HD0.trans (hb.mono HD0.size)
            replace HC0 := Lib.hid (HC0.out.below hb HC0.out.lt)
            replace HR0 := Lib.hid (HR0.out.below hb HR0.out.lt)
            replace HW0 := Lib.hid (RowAt.below HW0.out hb)
            replace HO0 := Lib.hid (pown_below HO0.out hb)
            replace hg0 := Nat.lt_of_lt_of_le hg0 hb.size
            have Nx6 := Lib.hid hx6
            have Nx7 := Lib.hid hx7
            clear hb hx6 hx7
            have HRD := Lib.hid (show CrRd ws x0 x1 x2 x3 x4 x5 x6 x7 M from ⟨N0.out, N1.out, N2.out, N3.out, Nx4.out, by have := Nx5.out; rwa [show ws.length - 4 + 1 = ws.length - 3 by omega] at this, Nx6.out, by have := Nx7.out; rwa [show ws.length - 2 + 1 = ws.length - 1 by omega] at this, by have := HQ.out; have := HML.out; omega, hM.out⟩)
            have HMS := Lib.hid (HMZ.out M hM.out)
            clear N0 N1 N2 N3 Nx4 Nx5 Nx6 Nx7 hM HW0
            obtain ⟨X3, hX3⟩ : ∃ x, x = (((X2.setCell ⟨C, 4, none⟩ (.int .i64 x4)).setCell ⟨C, 5, none⟩ (.int .i64 x5)).setCell ⟨C, 6, none⟩ (.int .i64 x6)).setCell ⟨C, 7, none⟩ (.int .i64 x7) := ⟨_, rfl⟩
            have k0 := HC0.out.c0
            have k1 := HC0.out.c1
            have k2 := HC0.out.c2
            have k3 := HC0.out.c3
            have k4 := HC0.out.c4
            have k5 := HC0.out.c5
            have k6 := HC0.out.c6
            have k7 := HC0.out.c7
            have k8 := HC0.out.c8
            have kl := HC0.out.lt
            have kf := HC0.out.fr
            go_wp2_with fail
            rw [← hX3]
            have HC3 : Hid (Blk9 C x0 x1 x2 x3 x4 x5 x6 x7 (.slice (some ⟨gm, 0, none⟩) M.length cp) X3) := Lib.hid (by rw [hX3]; exact HC0.out.set47 x4 x5 x6 x7)
            have HR3 : Hid (Blk9 w.heap.size 0 0 0 0 0 0 0 0 (.slice none 0 0) X3) := Lib.hid (by rw [hX3]; exact (((HR0.out.far (by omega) _).far (by omega) _).far (by omega) _).far (by omega) _)
            have HO3 : Hid (X3.ownsRow V4.heap.size 47 5 (.slice (some ⟨gm, 0, none⟩) M.length cp) M.length (mflat M)) := Lib.hid (by rw [hX3]; exact (by repeat (first | with_reducible exact HO0.out | with_reducible refine ownsRow_setCell_other ?_ (by simp [Value.ownBlock]; omega) _)))
            have HD3 : Below w.heap.size w X3 := by rw [hX3]; exact (((HD0.setCell (by simp; omega) _).setCell (by simp; omega) _).setCell (by simp; omega) _).setCell (by simp; omega) _
            clear k0 k1 k2 k3 k4 k5 k6 k7 k8 kl kf
            clear hX3 HC0 HR0 HO0 HD0
            refine (CourseTextS_c x0 x1 x2 x3 x4 x5 x6 x7 (some ⟨gm, 0, none⟩) cp M X3 (by omega) (rowAt_own HO3.out) (fun i hi => Nat.le_trans (HMS.out i hi) (by unfold maxLen; omega))).mono ?_
            rintro e X4 ⟨rfl, hb4⟩
            replace HD3 := HD3.trans (hb4.mono HD3.size)
            replace HC3 := Lib.hid (HC3.out.below hb4 HC3.out.lt)
            replace HR3 := Lib.hid (HR3.out.below hb4 HR3.out.lt)
            replace HO3 := Lib.hid (pown_mono (pown_below HO3.out hb4) HD.size)
            clear hb4
            by_cases h0 : 1 ≤ s.size
            case neg =>
              have := hwl
              omega
            case pos =>
              have k0 := HC3.out.c0
              have k1 := HC3.out.c1
              have k2 := HC3.out.c2
              have k3 := HC3.out.c3
              have k4 := HC3.out.c4
              have k5 := HC3.out.c5
              have k6 := HC3.out.c6
              have k7 := HC3.out.c7
              have k8 := HC3.out.c8
              have kl := HC3.out.lt
              have kf := HC3.out.fr
              have r0 := HR3.out.c0
              have r1 := HR3.out.c1
              have r2 := HR3.out.c2
              have r3 := HR3.out.c3
              have r4 := HR3.out.c4
              have r5 := HR3.out.c5
              have r6 := HR3.out.c6
              have r7 := HR3.out.c7
              have r8 := HR3.out.c8
              have rl := HR3.out.lt
              have rf := HR3.out.fr
              by_cases hq : s = ctR x0 x1 x2 x3 x4 x5 x6 x7 M
              case pos =>
                have HY := Lib.hid (HCY.out x0 x1 x2 x3 x4 x5 x6 x7 M HRD.out hq h0)
                rw [← hq]
                clear hq HC3 HR3
                go_wp2_with fail
                all_goals exact bodyPost_ret (v := .tuple #[.agg #[.int .i64 x0, .int .i64 x1, .int .i64 x2, .int .i64 x3, .int .i64 x4, .int .i64 x5, .int .i64 x6, .int .i64 x7, .slice (some ⟨gm, 0, none⟩) M.length cp], .bool true]) (by simp [results, Tryz.results5, go_sem, *]) rfl ⟨rce_yes HY.out (by repeat (first | with_reducible exact HO3.out | with_reducible refine ownsRow_setCell_other ?_ (by simp [Value.ownBlock]; omega) _)), (by repeat (first | with_reducible exact Below.refl _ _ | with_reducible assumption | with_reducible refine Below.drew ?_ | with_reducible refine Below.alloc ?_ (by first | exact Nat.le_refl _ | (simp; done) | (simp; omega) | omega) _ | with_reducible refine Below.setCell ?_ (by first | exact Nat.le_refl _ | (simp; done) | (simp; omega) | omega) _ | with_reducible refine Below.trans ?_ (Below.mono (by with_reducible assumption) (by first | exact Nat.le_refl _ | (simp; done) | (simp; omega) | omega))))⟩
              case neg =>
                have HN := Lib.hid (HCN.out x0 x1 x2 x3 x4 x5 x6 x7 M HRD.out hq)
                have HV := Lib.hid hq
                clear hq HC3 HR3
                generalize ctR x0 x1 x2 x3 x4 x5 x6 x7 M = T at *
                have hts : (T.toList == s.toList) = false := by cases hh : (T.toList == s.toList); rfl; exact absurd ((str_beqR _ _).1 hh).symm HV.out
                go_wp2_with fail
                all_goals exact bodyPost_ret (v := .tuple #[.agg #[.int .i64 0, .int .i64 0, .int .i64 0, .int .i64 0, .int .i64 0, .int .i64 0, .int .i64 0, .int .i64 0, .slice none 0 0], .bool false]) (by simp [results, Tryz.results5, go_sem, *]) rfl ⟨rce_no HN.out, (by repeat (first | with_reducible exact Below.refl _ _ | with_reducible assumption | with_reducible refine Below.drew ?_ | with_reducible refine Below.alloc ?_ (by first | exact Nat.le_refl _ | (simp; done) | (simp; omega) | omega) _ | with_reducible refine Below.setCell ?_ (by first | exact Nat.le_refl _ | (simp; done) | (simp; omega) | omega) _ | with_reducible refine Below.trans ?_ (Below.mono (by with_reducible assumption) (by first | exact Nat.le_refl _ | (simp; done) | (simp; omega) | omega))))⟩
end Go.Proofs.YtjgndfphbmkhaaaGreatDoor
