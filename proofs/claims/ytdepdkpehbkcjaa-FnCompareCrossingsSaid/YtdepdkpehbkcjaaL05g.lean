/-
  The list of the crossings of a track and a line, the reference's. Conditions: the cells lie in the world; the track and the line are valid.
-/
import Derived.Test.YtdepdkpehbkcjaaL05f
namespace Go.Proofs.Ytdepdkpehbkcjaa
set_option linter.unusedVariables false
open Go.RowKit Go.Deep

set_option maxRecDepth 100000 in
set_option maxHeartbeats 1000000 in
theorem l05Crossings_c (a : Option Addr) (cap : Nat) (l : List Fx) (ax ay bx cy : Int) (w : World) (hl : l.length ≤ 4611686018427387904) (e1 : isTrk l = true) (es : isSeg ax ay bx cy = true) (hf : FixAt w a l) : Calls Try.prog 86 #[.agg #[.slice a l.length cap], .agg #[.int .i64 ax, .int .i64 ay, .int .i64 bx, .int .i64 cy]] w fun e w' => (∃ (g cp : Nat), e = .returned (.slice (some ⟨g, 0, none⟩) (crs l ax ay bx cy (l.length - 1)).length cp) ∧ w'.ownsRow w.heap.size 57 5 (.slice (some ⟨g, 0, none⟩) (crs l ax ay bx cy (l.length - 1)).length cp) (crs l ax ay bx cy (l.length - 1)).length (crFlat (crs l ax ay bx cy (l.length - 1))) ∧ w.heap.size ≤ g) ∧ Below w.heap.size w w' := by
  obtain ⟨hA, hB, hAB⟩ := isSeg_true es
  have h2 := (isTrk_true e1).1
  have h40 := (isTrk_true e1).2.1
  have hF0 := Lib.hid hf
  clear hf
  obtain ⟨i0, hi, ti0, ti1, ti2⟩ := info_parts infoCr
  obtain ⟨m, hm⟩ : ∃ m, l.length = m + 1 := ⟨l.length - 1, by omega⟩
  have hm2 := Lib.hid hm
  have hm3 : m ≤ 39 := by omega
  clear hm
  go_enter Try.func86, Try.ntmps86
  go_upto_region 1 with fail
  obtain ⟨WB, hW⟩ : ∃ W, W = (w.alloc (.cells #[.slice a l.length cap] 26)).alloc (.cells #[.int .i64 ax, .int .i64 ay, .int .i64 bx, .int .i64 cy] 66) := ⟨_, rfl⟩
  have HB : Below w.heap.size w WB := by subst hW; exact (by repeat (first | with_reducible exact Below.refl _ _ | with_reducible assumption | with_reducible refine Below.drew ?_ | with_reducible refine Below.alloc ?_ (by first | exact Nat.le_refl _ | (simp; done) | (simp; omega) | omega) _ | with_reducible refine Below.setCell ?_ (by first | exact Nat.le_refl _ | (simp; done) | (simp; omega) | omega) _ | with_reducible refine Below.trans ?_ (Below.mono (by with_reducible assumption) (by first | exact Nat.le_refl _ | (simp; done) | (simp; omega) | omega))))
  have b00 : WB.cell? ⟨w.heap.size, 0, none⟩ = some (.slice a l.length cap) := by subst hW; simp [go_sem]
  have b10 : WB.cell? ⟨w.heap.size + 1, 0, none⟩ = some (.int .i64 ax) := by subst hW; simp [go_sem]
  have b11 : WB.cell? ⟨w.heap.size + 1, 1, none⟩ = some (.int .i64 ay) := by subst hW; simp [go_sem]
  have b12 : WB.cell? ⟨w.heap.size + 1, 2, none⟩ = some (.int .i64 bx) := by subst hW; simp [go_sem]
  have b13 : WB.cell? ⟨w.heap.size + 1, 3, none⟩ = some (.int .i64 cy) := by subst hW; simp [go_sem]
  have L0 : w.heap.size < WB.heap.size := by subst hW; simp; omega
  have L1 : w.heap.size + 1 < WB.heap.size := by subst hW; simp
  have FB := Lib.hid (FixAt.below hF0.out HB)
  rw [← hW]
  clear hW
  generalize w.heap.size + 1 = B1 at *
  go_wp2_with fail
  go_loopw [5, 6] (fun v i wr => ∃ (k g cp n : Nat), i = .int .i64 k ∧ v = .slice (some ⟨g, 0, none⟩) n cp ∧ k ≤ m ∧ n ≤ k ∧ Hid (n = (crs l ax ay bx cy k).length) ∧ Hid (wr.ownsRow WB.heap.size 57 5 (.slice (some ⟨g, 0, none⟩) n cp) n (crFlat (crs l ax ay bx cy k))) ∧ g < wr.heap.size ∧ WB.heap.size ≤ g ∧ Below WB.heap.size WB wr) (fun _ i _ => m - (intOf i).toNat)
  case atStart => exact ⟨0, WB.heap.size, 0, 0, rfl, rfl, Nat.zero_le _, Nat.le_refl _, Lib.hid rfl, Lib.hid (World.ownsRow_lit WB #[] 0 (Nat.le_refl _) (by unfold maxLen; omega) rfl), by simp, Nat.le_refl _, (by repeat (first | with_reducible exact Below.refl _ _ | with_reducible assumption | with_reducible refine Below.drew ?_ | with_reducible refine Below.alloc ?_ (by first | exact Nat.le_refl _ | (simp; done) | (simp; omega) | omega) _ | with_reducible refine Below.setCell ?_ (by first | exact Nat.le_refl _ | (simp; done) | (simp; omega) | omega) _ | with_reducible refine Below.trans ?_ (Below.mono (by with_reducible assumption) (by first | exact Nat.le_refl _ | (simp; done) | (simp; omega) | omega))))⟩
  case round =>
    obtain ⟨k, g, cp, n, rfl, rfl, hk, hnk, hn, own, hg2, hg1, hbl⟩ := hrel
    have HD : Below WB.heap.size WB wr := hbl
    obtain ⟨hc, hf⟩ := bcell hbl
    have hz := hbl.size
    replace b00 := (hc _ 0 L0).trans b00
    replace b10 := (hc _ 0 L1).trans b10
    replace b11 := (hc _ 1 L1).trans b11
    replace b12 := (hc _ 2 L1).trans b12
    replace b13 := (hc _ 3 L1).trans b13
    have FV := Lib.hid (FixAt.below FB.out hbl)
    have L0w := L0
    replace L0 := Nat.lt_of_lt_of_le L0 hz
    replace L1 := Nat.lt_of_lt_of_le L1 hz
    clear hc hf hbl
    by_cases h : k < m
    case neg =>
      have h' : ¬ (k : Int) + 1 < (l.length : Int) := by have := hm2.out; omega
      have hkm := Lib.hid (show l.length - 1 = k by have := hm2.out; omega)
      go_wp2
      go_ret
      exact ⟨⟨g, cp, by rw [hkm.out, ← hn.out]; rfl, by rw [hkm.out, ← hn.out]; exact own_mono own.out HB.size, Nat.le_trans HB.size hg1⟩, HB.trans (HD.mono HB.size)⟩
    have h' : (k : Int) + 1 < (l.length : Int) := by have := hm2.out; omega
    have hkl : k + 1 < l.length := by have := hm2.out; omega
    obtain ⟨hp, hq, t0, t1, t2⟩ := leg_facts e1 hkl
    have hWay := Lib.hid (fun h => cr_facts (l := l) (ax := ax) (ay := ay) (bx := bx) (cy := cy) e1 hA hB hkl h)
    have hYes := Lib.hid (@crs_yes l ax ay bx cy k)
    have hNo := Lib.hid (@crs_no l ax ay bx cy k)
    have hTm := Lib.hid (fun n d h0 h1 h2 => @cr_time l k n d e1 hkl h0 h1 h2)
    obtain ⟨b, off, rfl, hlt, hcs⟩ := FV.out.head (by omega)
    obtain ⟨c0, c1, c2⟩ := hcs k (by omega)
    obtain ⟨q, hq2⟩ : ∃ q, q = k + 1 := ⟨_, rfl⟩
    obtain ⟨d0, d1, d2⟩ := hcs q (by omega)
    have g1 : (k : Int) < (l.length : Int) := by omega
    have g2 : (q : Int) < (l.length : Int) := by omega
    have g3 : (k : Int) + 1 = (q : Int) := by omega
    have g4 : IntKind.i64.wrap (q : Int) = (q : Int) := by rw [IntKind.wrap_i64]; omega
    have hQ := Lib.hid hq2
    clear hcs hq2
    go_wp2_with fail
    go_cut [7, 8] (fun s7 s8 wx => ∃ B C : Nat, s7 = .pointer (some ⟨B, 0, none⟩) ∧ s8 = .pointer (some ⟨C, 0, none⟩) ∧ wx.cell? ⟨B, 0, none⟩ = some (.int .i64 (fx l k).x) ∧ wx.cell? ⟨B, 1, none⟩ = some (.int .i64 (fx l k).y) ∧ wx.cell? ⟨C, 0, none⟩ = some (.int .i64 (fx l q).x) ∧ wx.cell? ⟨C, 1, none⟩ = some (.int .i64 (fx l q).y) ∧ B < wx.heap.size ∧ C < wx.heap.size ∧ Below wr.heap.size wr wx)
    case first =>
      go_region_held3 (fun wx => Below wr.heap.size wr wx ∧ ∀ b o, b < wr.heap.size → wx.cell? ⟨b, o, none⟩ = wr.cell? ⟨b, o, none⟩)
        (first | with_reducible exact held_step (by assumption) hb | with_reducible exact held_alloc (by assumption) _ | with_reducible exact (held_set (by with_reducible assumption) (by first | exact Nat.le_refl _ | (simp; done) | (simp; omega) | omega) _) | with_reducible exact (held_set (held_set (by with_reducible assumption) (by first | exact Nat.le_refl _ | (simp; done) | (simp; omega) | omega) _) (by first | exact Nat.le_refl _ | (simp; done) | (simp; omega) | omega) _) | with_reducible exact (held_set (held_set (held_set (held_set (by with_reducible assumption) (by first | exact Nat.le_refl _ | (simp; done) | (simp; omega) | omega) _) (by first | exact Nat.le_refl _ | (simp; done) | (simp; omega) | omega) _) (by first | exact Nat.le_refl _ | (simp; done) | (simp; omega) | omega) _) (by first | exact Nat.le_refl _ | (simp; done) | (simp; omega) | omega) _) | with_reducible exact held_realloc (by assumption) (by first | exact Nat.le_refl _ | (simp; done) | (simp; omega) | omega) _ | with_reducible exact held_start _ _ | with_reducible exact held_begin _ | exact held_of (by repeat (first | with_reducible exact Below.refl _ _ | with_reducible assumption | with_reducible refine Below.drew ?_ | with_reducible refine Below.alloc ?_ (by first | exact Nat.le_refl _ | (simp; done) | (simp; omega) | omega) _ | with_reducible refine Below.setCell ?_ (by first | exact Nat.le_refl _ | (simp; done) | (simp; omega) | omega) _ | with_reducible refine Below.trans ?_ (Below.mono (by with_reducible assumption) (by first | exact Nat.le_refl _ | (simp; done) | (simp; omega) | omega)))))
        (first | (go_at_call 90; refine (l03Point_c _ _ _ _).mono ?_; rintro e w1 ⟨rfl, hb⟩; have hz := held_size (by with_reducible assumption) hb; (try simp at hz); have hs := hb.size; (try simp at hs); obtain ⟨hc, hf⟩ := bcell hb; have hlx := blt hb; (try simp only [World.size_drew] at hc hf hlx); (try have hl3 := Nat.lt_of_succ_le hs); (try have hl2 := Nat.lt_of_succ_lt hl3); (try (obtain ⟨hn1, hn2, hn3, hn4, hn5, hn6, hn7, hn8⟩ := below_top hb (by first | (simp; done) | (simp; omega) | omega); (try simp [go_sem] at hn1); (try simp [go_sem] at hn2); (try simp [go_sem] at hn3); (try simp [go_sem] at hn4); (try simp [go_sem] at hn5); (try simp [go_sem] at hn6); (try simp [go_sem] at hn7); (try simp [go_sem] at hn8))); (try have hm0 : w1.cell? ⟨wr.heap.size, 0, none⟩ = some (.int .i64 0) := by rw [hc _ _ (by first | (simp; done) | (simp; omega) | omega)]; first | assumption | (simp [go_sem, *]; done)); (try have hp0 : w1.frozen? ⟨wr.heap.size, 0, none⟩ = false := by rw [hf _ _ (by first | (simp; done) | (simp; omega) | omega)]; first | assumption | (simp [go_sem, *]; done)); (try have hm1 : w1.cell? ⟨wr.heap.size, 1, none⟩ = some (.int .i64 0) := by rw [hc _ _ (by first | (simp; done) | (simp; omega) | omega)]; first | assumption | (simp [go_sem, *]; done)); (try have hp1 : w1.frozen? ⟨wr.heap.size, 1, none⟩ = false := by rw [hf _ _ (by first | (simp; done) | (simp; omega) | omega)]; first | assumption | (simp [go_sem, *]; done)); (try have hm2 : w1.cell? ⟨wr.heap.size + 1, 0, none⟩ = some (.int .i64 0) := by rw [hc _ _ (by first | (simp; done) | (simp; omega) | omega)]; first | assumption | (simp [go_sem, *]; done)); (try have hp2 : w1.frozen? ⟨wr.heap.size + 1, 0, none⟩ = false := by rw [hf _ _ (by first | (simp; done) | (simp; omega) | omega)]; first | assumption | (simp [go_sem, *]; done)); (try have hm3 : w1.cell? ⟨wr.heap.size + 1, 1, none⟩ = some (.int .i64 0) := by rw [hc _ _ (by first | (simp; done) | (simp; omega) | omega)]; first | assumption | (simp [go_sem, *]; done)); (try have hp3 : w1.frozen? ⟨wr.heap.size + 1, 1, none⟩ = false := by rw [hf _ _ (by first | (simp; done) | (simp; omega) | omega)]; first | assumption | (simp [go_sem, *]; done))))
      all_goals (go_wp2_with fail; go_meet; exact ⟨_, _, rfl, rfl, (by first | (go_light; go_simp; done) | (simp [go_sem, *]; done)), (by first | (go_light; go_simp; done) | (simp [go_sem, *]; done)), (by first | (go_light; go_simp; done) | (simp [go_sem, *]; done)), (by first | (go_light; go_simp; done) | (simp [go_sem, *]; done)), (by go_light; first | (simp; done) | (simp; omega) | omega), (by go_light; first | (simp; done) | (simp; omega) | omega), (held_of (by repeat (first | with_reducible exact Below.refl _ _ | with_reducible assumption | with_reducible refine Below.drew ?_ | with_reducible refine Below.alloc ?_ (by first | exact Nat.le_refl _ | (simp; done) | (simp; omega) | omega) _ | with_reducible refine Below.setCell ?_ (by first | exact Nat.le_refl _ | (simp; done) | (simp; omega) | omega) _ | with_reducible refine Below.trans ?_ (Below.mono (by with_reducible assumption) (by first | exact Nat.le_refl _ | (simp; done) | (simp; omega) | omega))))).1⟩)
    case rest =>
      obtain ⟨B, C, rfl, rfl, p0, p1, q0, q1, lB, lC, hb⟩ := hcut
      obtain ⟨V1, rfl⟩ : ∃ x : World, x = wc := ⟨_, rfl⟩
      have hgs := hb.size
      replace hg2 : g < V1.heap.size := Nat.lt_of_lt_of_le hg2 hgs
      clear hgs c0 c1 c2 d0 d1 d2
      replace HD := HD.trans (hb.mono HD.size)
      obtain ⟨hc, hf⟩ := bcell hb
      have hz := hb.size
      replace b00 := (hc _ 0 L0).trans b00
      replace b10 := (hc _ 0 L1).trans b10
      replace b11 := (hc _ 1 L1).trans b11
      replace b12 := (hc _ 2 L1).trans b12
      replace b13 := (hc _ 3 L1).trans b13
      replace own := Lib.hid (ownsRow_below own.out hb)
      replace FV := Lib.hid (FixAt.below FV.out hb)
      replace L0 := Nat.lt_of_lt_of_le L0 hz
      replace L1 := Nat.lt_of_lt_of_le L1 hz
      clear hc hf hz hb
      rw [hQ.out] at q0 q1
      go_wp2_with fail
      have cw := l05Way_c ax ay bx cy (fx l k).x (fx l k).y (fx l (k + 1)).x (fx l (k + 1)).y V1 hA hB hp hq
      have hwl : wayL l ax ay bx cy k = wayZ ax ay bx cy (fx l k).x (fx l k).y (fx l (k + 1)).x (fx l (k + 1)).y := rfl
      rw [← hwl] at cw
      clear hwl
      by_cases hw : wayL l ax ay bx cy k = 0
      case pos =>
        have hN := Lib.hid (hNo.out hw)
        rw [hw] at cw
        refine (cw).mono ?_
        rintro e V3 ⟨rfl, hb⟩
        replace HD := HD.trans (hb.mono HD.size)
        obtain ⟨hc, hf⟩ := bcell hb
        have hz := hb.size
        replace b00 := (hc _ 0 L0).trans b00
        replace b10 := (hc _ 0 L1).trans b10
        replace b11 := (hc _ 1 L1).trans b11
        replace b12 := (hc _ 2 L1).trans b12
        replace b13 := (hc _ 3 L1).trans b13
        replace p0 := (hc _ 0 lB).trans p0
        replace p1 := (hc _ 1 lB).trans p1
        replace q0 := (hc _ 0 lC).trans q0
        replace q1 := (hc _ 1 lC).trans q1
        replace own := Lib.hid (ownsRow_below own.out hb)
        replace FV := Lib.hid (FixAt.below FV.out hb)
        replace L0 := Nat.lt_of_lt_of_le L0 hz
        replace L1 := Nat.lt_of_lt_of_le L1 hz
        replace lB := Nat.lt_of_lt_of_le lB hz
        replace lC := Nat.lt_of_lt_of_le lC hz
        clear hc hf hz hb
        go_wp2_with fail
        go_wp2
        exact ⟨⟨k + 1, g, cp, n, by rw [hQ.out], rfl, by omega, by omega, Lib.hid (by rw [hN.out, hn.out]), Lib.hid (by rw [hN.out]; exact own.out), (own.out.lt g rfl).2, hg1, HD⟩, by simp [intOf, hQ.out]; omega⟩
      obtain ⟨s1, s2, n0, n1, n2, n3⟩ := hWay.out hw
      have hY := Lib.hid (hYes.out hw)
      have hw2 : (wayL l ax ay bx cy k == 0) = false := by simpa using hw
      have cpl := fun w => l02Place_c (fx l k).x (fx l k).y (fx l (k + 1)).x (fx l (k + 1)).y ax ay bx cy w hp hq hA hB
      rw [lPl_Y s2] at cpl
      clear s1 s2
      have hct := Lib.hid (show crOf l ax ay bx cy k = ⟨crT l ax ay bx cy k, k, wayL l ax ay bx cy k, crN l ax ay bx cy k, crD l ax ay bx cy k⟩ from rfl)
      have hcT := show crT l ax ay bx cy k = if 0 < restZ l k (crN l ax ay bx cy k) (crD l ax ay bx cy k) then wholeZ l k (crN l ax ay bx cy k) (crD l ax ay bx cy k) + 1 else wholeZ l k (crN l ax ay bx cy k) (crD l ax ay bx cy k) from rfl
      replace cpl : ∀ w, Calls Try.prog 118 #[.agg #[.int .i64 (fx l k).x, .int .i64 (fx l k).y, .int .i64 (fx l (k + 1)).x, .int .i64 (fx l (k + 1)).y], .agg #[.int .i64 ax, .int .i64 ay, .int .i64 bx, .int .i64 cy]] w fun e w' => e = .returned (.tuple #[.agg #[.int .i64 (crN l ax ay bx cy k), .int .i64 (crD l ax ay bx cy k)], .bool true]) ∧ Below w.heap.size w w' := cpl
      have cex := fun w h => l05Exact_c (some ⟨b, off, none⟩) cap l 0 (wayL l ax ay bx cy k) (crN l ax ay bx cy k) (crD l ax ay bx cy k) k w (by omega) e1 hkl (by simp only [placeOK, Bool.and_eq_true]; exact ⟨inR_mk n2 (by omega), inR_mk n0 n1⟩) h
      generalize crN l ax ay bx cy k = N at *
      generalize crD l ax ay bx cy k = D at *
      generalize crT l ax ay bx cy k = TT at *
      generalize wayL l ax ay bx cy k = y at *
      obtain ⟨u0, u1, u2, u3, u4, u5⟩ := hTm.out N D n0 n1 n2
      generalize restZ l k N D = R at *
      generalize wholeZ l k N D = X at *
      have CE := Lib.hid cex
      have HcT := Lib.hid hcT
      clear cex hcT hw
      refine (cw).mono ?_
      rintro e V3 ⟨rfl, hb⟩
      clear cw
      replace HD := HD.trans (hb.mono HD.size)
      obtain ⟨hc, hf⟩ := bcell hb
      have hz := hb.size
      replace b00 := (hc _ 0 L0).trans b00
      replace b10 := (hc _ 0 L1).trans b10
      replace b11 := (hc _ 1 L1).trans b11
      replace b12 := (hc _ 2 L1).trans b12
      replace b13 := (hc _ 3 L1).trans b13
      replace p0 := (hc _ 0 lB).trans p0
      replace p1 := (hc _ 1 lB).trans p1
      replace q0 := (hc _ 0 lC).trans q0
      replace q1 := (hc _ 1 lC).trans q1
      replace own := Lib.hid (ownsRow_below own.out hb)
      replace FV := Lib.hid (FixAt.below FV.out hb)
      replace L0 := Nat.lt_of_lt_of_le L0 hz
      replace L1 := Nat.lt_of_lt_of_le L1 hz
      replace lB := Nat.lt_of_lt_of_le lB hz
      replace lC := Nat.lt_of_lt_of_le lC hz
      clear hc hf hz hb
      go_wp2_with fail
      refine (cpl V3).mono ?_
      rintro e V4 ⟨rfl, hb⟩
      clear cpl
      replace HD := HD.trans (hb.mono HD.size)
      obtain ⟨hc, hf⟩ := bcell hb
      have hz := hb.size
      replace b00 := (hc _ 0 L0).trans b00
      replace b10 := (hc _ 0 L1).trans b10
      replace b11 := (hc _ 1 L1).trans b11
      replace b12 := (hc _ 2 L1).trans b12
      replace b13 := (hc _ 3 L1).trans b13
      replace p0 := (hc _ 0 lB).trans p0
      replace p1 := (hc _ 1 lB).trans p1
      replace q0 := (hc _ 0 lC).trans q0
      replace q1 := (hc _ 1 lC).trans q1
      replace own := Lib.hid (ownsRow_below own.out hb)
      replace FV := Lib.hid (FixAt.below FV.out hb)
      replace L0 := Nat.lt_of_lt_of_le L0 hz
      replace L1 := Nat.lt_of_lt_of_le L1 hz
      replace lB := Nat.lt_of_lt_of_le lB hz
      replace lC := Nat.lt_of_lt_of_le lC hz
      clear hc hf hz hb
      go_wp2_with fail
      clear hWay hYes hNo hTm hp hq FB hF0 hA hB hAB es hw2 u4 u5 p0 p1 q0 q1
      obtain ⟨V5, hV5⟩ : ∃ x, x = V4.alloc (.cells #[.int .i64 N, .int .i64 D] 55) := ⟨_, rfl⟩
      have hb : Below V4.heap.size V4 V5 := by subst hV5; exact (Below.refl _ _).alloc (Nat.le_refl _) _
      have k90 : V5.cell? ⟨V4.heap.size, 0, none⟩ = some (.int .i64 N) := by subst hV5; simp [go_sem]
      have k91 : V5.cell? ⟨V4.heap.size, 1, none⟩ = some (.int .i64 D) := by subst hV5; simp [go_sem]
      have K9 : V4.heap.size < V5.heap.size := by subst hV5; simp
      have hS9 := Lib.hid (show V5.heap.size = V4.heap.size + 1 by subst hV5; simp)
      rw [← hV5]
      clear hV5
      replace HD := HD.trans (hb.mono HD.size)
      obtain ⟨hc, hf⟩ := bcell hb
      have hz := hb.size
      replace b00 := (hc _ 0 L0).trans b00
      replace b10 := (hc _ 0 L1).trans b10
      replace b11 := (hc _ 1 L1).trans b11
      replace b12 := (hc _ 2 L1).trans b12
      replace b13 := (hc _ 3 L1).trans b13
      replace own := Lib.hid (ownsRow_below own.out hb)
      replace FV := Lib.hid (FixAt.below FV.out hb)
      replace L0 := Nat.lt_of_lt_of_le L0 hz
      replace L1 := Nat.lt_of_lt_of_le L1 hz
      replace lB := Nat.lt_of_lt_of_le lB hz
      replace lC := Nat.lt_of_lt_of_le lC hz
      clear hc hf hz hb
      obtain ⟨C9, hC9⟩ : ∃ x, x = V4.heap.size := ⟨_, rfl⟩
      rw [← hC9] at k90 k91 K9
      try rw [← hC9]
      replace hC9 := Lib.hid hC9
      have hg5 := (own.out.lt g rfl).2
      have hD5 := HD.size
      obtain ⟨V6, hV6⟩ : ∃ x, x = V5.alloc (.cells #[.int .i64 0, .int .i64 k, .int .i64 y, .int .i64 N, .int .i64 D] 57) := ⟨_, rfl⟩
      have hb : Below V5.heap.size V5 V6 := by subst hV6; exact (Below.refl _ _).alloc (Nat.le_refl _) _
      have k120 : V6.cell? ⟨V5.heap.size, 0, none⟩ = some (.int .i64 0) := by subst hV6; simp [go_sem]
      have k121 : V6.cell? ⟨V5.heap.size, 1, none⟩ = some (.int .i64 k) := by subst hV6; simp [go_sem]
      have k122 : V6.cell? ⟨V5.heap.size, 2, none⟩ = some (.int .i64 y) := by subst hV6; simp [go_sem]
      have k123 : V6.cell? ⟨V5.heap.size, 3, none⟩ = some (.int .i64 N) := by subst hV6; simp [go_sem]
      have k124 : V6.cell? ⟨V5.heap.size, 4, none⟩ = some (.int .i64 D) := by subst hV6; simp [go_sem]
      have fz : ∀ o, V6.frozen? ⟨V5.heap.size, o, none⟩ = false := by subst hV6; intro o; simp [go_sem]
      have K12 : V5.heap.size < V6.heap.size := by subst hV6; simp
      have hS12 := Lib.hid (show V6.heap.size = V5.heap.size + 1 by subst hV6; simp)
      rw [← hV6]
      clear hV6
      replace HD := HD.trans (hb.mono HD.size)
      obtain ⟨hc, hf⟩ := bcell hb
      have hz := hb.size
      replace b00 := (hc _ 0 L0).trans b00
      replace b10 := (hc _ 0 L1).trans b10
      replace b11 := (hc _ 1 L1).trans b11
      replace b12 := (hc _ 2 L1).trans b12
      replace b13 := (hc _ 3 L1).trans b13
      replace k90 := (hc _ 0 K9).trans k90
      replace k91 := (hc _ 1 K9).trans k91
      replace own := Lib.hid (ownsRow_below own.out hb)
      replace FV := Lib.hid (FixAt.below FV.out hb)
      replace L0 := Nat.lt_of_lt_of_le L0 hz
      replace L1 := Nat.lt_of_lt_of_le L1 hz
      replace lB := Nat.lt_of_lt_of_le lB hz
      replace lC := Nat.lt_of_lt_of_le lC hz
      replace K9 := Nat.lt_of_lt_of_le K9 hz
      clear hc hf hz hb
      obtain ⟨C12, hC12⟩ : ∃ x, x = V5.heap.size := ⟨_, rfl⟩
      rw [← hC12] at k120 k121 k122 k123 k124 K12
      try rw [← hC12]
      replace hC12 := Lib.hid hC12
      rw [show C9 + 1 = C12 by rw [hC12.out, hS9.out, hC9.out]]
      have hgC : g < C12 ∧ WB.heap.size ≤ C12 := by have := hC12.out; omega
      obtain ⟨hgC, hWC⟩ := hgC
      rw [← hC12.out] at fz
      clear hg5 hD5
      by_cases hR : 0 < R
      case pos =>
        have hTT : TT = X + 1 := by rw [HcT.out, if_pos hR]
        refine (CE.out V6 FV.out).mono ?_
        rintro e V7 ⟨rfl, hb⟩
        have fz7 := fun o => (hb.frozen (p := ⟨C12, o, none⟩) K12).trans (fz o)
        have g7 : g < V7.heap.size := Nat.lt_trans hgC (Nat.lt_of_lt_of_le K12 hb.size)
        have gC7 : C12 < V7.heap.size := Nat.lt_of_lt_of_le K12 hb.size
        replace HD := HD.trans (hb.mono HD.size)
        obtain ⟨hc, hf⟩ := bcell hb
        have hz := hb.size
        replace b00 := (hc _ 0 L0).trans b00
        replace b10 := (hc _ 0 L1).trans b10
        replace b11 := (hc _ 1 L1).trans b11
        replace b12 := (hc _ 2 L1).trans b12
        replace b13 := (hc _ 3 L1).trans b13
        replace k90 := (hc _ 0 K9).trans k90
        replace k91 := (hc _ 1 K9).trans k91
        replace k120 := (hc _ 0 K12).trans k120
        replace k121 := (hc _ 1 K12).trans k121
        replace k122 := (hc _ 2 K12).trans k122
        replace k123 := (hc _ 3 K12).trans k123
        replace k124 := (hc _ 4 K12).trans k124
        replace own := Lib.hid (ownsRow_below own.out hb)
        replace FV := Lib.hid (FixAt.below FV.out hb)
        replace L0 := Nat.lt_of_lt_of_le L0 hz
        replace L1 := Nat.lt_of_lt_of_le L1 hz
        replace lB := Nat.lt_of_lt_of_le lB hz
        replace lC := Nat.lt_of_lt_of_le lC hz
        replace K9 := Nat.lt_of_lt_of_le K9 hz
        replace K12 := Nat.lt_of_lt_of_le K12 hz
        clear hc hf hz hb
        have hs7 := HD.size
        go_wp2_with (at_builtin; refine wpList_append_lies _ rfl _ _ 80 rfl WB.heap.size 57 i0 _ 5 40 Try.underlying80 hi ti0 ti1 ti2 rfl (by decide) (.slice (some ⟨g, 0, none⟩) n cp) n (crFlat (crs l ax ay bx cy k)) rfl (by repeat (first | with_reducible exact own.out | with_reducible refine World.ownsRow.alloc ?_ _ | with_reducible refine ownsRow_setCell_other ?_ (by simp [Value.ownBlock]; omega) _ | with_reducible refine World.ownsRow.drew ?_)) ⟨V7.heap.size + 1, 0, none⟩ 1 1 [.int .i64 (X + 1), .int .i64 k, .int .i64 y, .int .i64 N, .int .i64 D] rfl rfl (World.news_of_block (heap_new (by simp))) (one5 _ _ _ _ _) (by decide) (by unfold maxLen; omega) (by omega) (by have := HD.size; simp; omega) (V7.heap.size + 1 + 1) (by simp) ?_; intro g' cp' w1 hown1 hgrow1 hat1 hlt1)
        have hG := grown_below (base := WB.heap.size) hgrow1 (by simp; omega) (by intro j e; simp [Value.ownBlock] at e; omega)
        have HB1 : Below WB.heap.size WB w1 := Below.trans (by exact (by repeat (first | with_reducible exact Below.refl _ _ | with_reducible assumption | with_reducible refine Below.drew ?_ | with_reducible refine Below.alloc ?_ (by first | exact Nat.le_refl _ | (simp; done) | (simp; omega) | omega) _ | with_reducible refine Below.setCell ?_ (by first | exact Nat.le_refl _ | (simp; done) | (simp; omega) | omega) _ | with_reducible refine Below.trans ?_ (Below.mono (by with_reducible assumption) (by first | exact Nat.le_refl _ | (simp; done) | (simp; omega) | omega))))) hG
        have hga : WB.heap.size ≤ g' := by rcases hat1 with e | e; (simp [Value.ownBlock] at e; omega); omega
        have hfl : crFlat (crs l ax ay bx cy (k + 1)) = crFlat (crs l ax ay bx cy k) ++ [.int .i64 (X + 1), .int .i64 k, .int .i64 y, .int .i64 N, .int .i64 D] := by rw [hY.out, crFlat_snoc, hct.out, ← hTT]
        rw [← hfl] at hown1
        have HO := Lib.hid hown1
        clear hG hgrow1 hat1 hown1 hfl hTT
        go_wp2
        exact ⟨⟨k + 1, g', cp', n + 1, by rw [hQ.out], rfl, by omega, by omega, Lib.hid (by rw [hY.out, List.length_append, ← hn.out]; rfl), HO, hlt1, hga, HB1⟩, by simp [intOf, hQ.out]; omega⟩
      case neg =>
        have hTT : TT = X := by rw [HcT.out, if_neg hR]
        refine (CE.out V6 FV.out).mono ?_
        rintro e V7 ⟨rfl, hb⟩
        have fz7 := fun o => (hb.frozen (p := ⟨C12, o, none⟩) K12).trans (fz o)
        have g7 : g < V7.heap.size := Nat.lt_trans hgC (Nat.lt_of_lt_of_le K12 hb.size)
        have gC7 : C12 < V7.heap.size := Nat.lt_of_lt_of_le K12 hb.size
        replace HD := HD.trans (hb.mono HD.size)
        obtain ⟨hc, hf⟩ := bcell hb
        have hz := hb.size
        replace b00 := (hc _ 0 L0).trans b00
        replace b10 := (hc _ 0 L1).trans b10
        replace b11 := (hc _ 1 L1).trans b11
        replace b12 := (hc _ 2 L1).trans b12
        replace b13 := (hc _ 3 L1).trans b13
        replace k90 := (hc _ 0 K9).trans k90
        replace k91 := (hc _ 1 K9).trans k91
        replace k120 := (hc _ 0 K12).trans k120
        replace k121 := (hc _ 1 K12).trans k121
        replace k122 := (hc _ 2 K12).trans k122
        replace k123 := (hc _ 3 K12).trans k123
        replace k124 := (hc _ 4 K12).trans k124
        replace own := Lib.hid (ownsRow_below own.out hb)
        replace FV := Lib.hid (FixAt.below FV.out hb)
        replace L0 := Nat.lt_of_lt_of_le L0 hz
        replace L1 := Nat.lt_of_lt_of_le L1 hz
        replace lB := Nat.lt_of_lt_of_le lB hz
        replace lC := Nat.lt_of_lt_of_le lC hz
        replace K9 := Nat.lt_of_lt_of_le K9 hz
        replace K12 := Nat.lt_of_lt_of_le K12 hz
        clear hc hf hz hb
        have hs7 := HD.size
        go_wp2_with (at_builtin; refine wpList_append_lies _ rfl _ _ 80 rfl WB.heap.size 57 i0 _ 5 40 Try.underlying80 hi ti0 ti1 ti2 rfl (by decide) (.slice (some ⟨g, 0, none⟩) n cp) n (crFlat (crs l ax ay bx cy k)) rfl (by repeat (first | with_reducible exact own.out | with_reducible refine World.ownsRow.alloc ?_ _ | with_reducible refine ownsRow_setCell_other ?_ (by simp [Value.ownBlock]; omega) _ | with_reducible refine World.ownsRow.drew ?_)) ⟨V7.heap.size + 1, 0, none⟩ 1 1 [.int .i64 (X), .int .i64 k, .int .i64 y, .int .i64 N, .int .i64 D] rfl rfl (World.news_of_block (heap_new (by simp))) (one5 _ _ _ _ _) (by decide) (by unfold maxLen; omega) (by omega) (by have := HD.size; simp; omega) (V7.heap.size + 1 + 1) (by simp) ?_; intro g' cp' w1 hown1 hgrow1 hat1 hlt1)
        have hG := grown_below (base := WB.heap.size) hgrow1 (by simp; omega) (by intro j e; simp [Value.ownBlock] at e; omega)
        have HB1 : Below WB.heap.size WB w1 := Below.trans (by exact (by repeat (first | with_reducible exact Below.refl _ _ | with_reducible assumption | with_reducible refine Below.drew ?_ | with_reducible refine Below.alloc ?_ (by first | exact Nat.le_refl _ | (simp; done) | (simp; omega) | omega) _ | with_reducible refine Below.setCell ?_ (by first | exact Nat.le_refl _ | (simp; done) | (simp; omega) | omega) _ | with_reducible refine Below.trans ?_ (Below.mono (by with_reducible assumption) (by first | exact Nat.le_refl _ | (simp; done) | (simp; omega) | omega))))) hG
        have hga : WB.heap.size ≤ g' := by rcases hat1 with e | e; (simp [Value.ownBlock] at e; omega); omega
        have hfl : crFlat (crs l ax ay bx cy (k + 1)) = crFlat (crs l ax ay bx cy k) ++ [.int .i64 (X), .int .i64 k, .int .i64 y, .int .i64 N, .int .i64 D] := by rw [hY.out, crFlat_snoc, hct.out, ← hTT]
        rw [← hfl] at hown1
        have HO := Lib.hid hown1
        clear hG hgrow1 hat1 hown1 hfl hTT
        go_wp2
        exact ⟨⟨k + 1, g', cp', n + 1, by rw [hQ.out], rfl, by omega, by omega, Lib.hid (by rw [hY.out, List.length_append, ← hn.out]; rfl), HO, hlt1, hga, HB1⟩, by simp [intOf, hQ.out]; omega⟩
end Go.Proofs.Ytdepdkpehbkcjaa
