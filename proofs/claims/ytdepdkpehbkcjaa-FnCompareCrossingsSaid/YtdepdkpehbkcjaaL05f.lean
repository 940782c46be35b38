/-
  The list of the crossings of a track and a line, the program's. Conditions: the cells lie in the world; the track and the line are valid.
-/
import Derived.Test.YtdepdkpehbkcjaaL05e
import Derived.Test.YtdepdkpehbkcjaaCut0
import Derived.Deep.AppendLies
namespace Go.Proofs.Ytdepdkpehbkcjaa
set_option linter.unusedVariables false
open Go.RowKit Go.Deep

theorem one5 (a b c d e : Int) : ∀ u ∈ [Value.int .i64 a, .int .i64 b, .int .i64 c, .int .i64 d, .int .i64 e], u.oneCell' = true := by
  intro u hu
  simp at hu
  rcases hu with rfl | rfl | rfl | rfl | rfl <;> rfl
theorem crFlat_snoc (l : List Cr) (c : Cr) : crFlat (l ++ [c]) = crFlat l ++ [.int .i64 c.t, .int .i64 c.leg, .int .i64 c.way, .int .i64 c.num, .int .i64 c.den] := by rw [crFlat_append]; rfl
theorem infoCr : (Try.prog.info? 57).map (fun i => (i.zero, i.size, i.bytes)) = some (some (.agg #[.int .i64 0, .int .i64 0, .int .i64 0, .int .i64 0, .int .i64 0]), 5, 40) := by kernel_rfl
set_option maxRecDepth 100000 in
set_option maxHeartbeats 1000000 in
theorem crossingsOf_c (a : Option Addr) (cap : Nat) (l : List Fx) (ax ay bx cy : Int) (w : World) (hl : l.length ≤ 4611686018427387904) (e1 : isTrk l = true) (es : isSeg ax ay bx cy = true) (hf : FixAt w a l) : Calls Try.prog 89 #[.agg #[.slice a l.length cap], .agg #[.int .i64 ax, .int .i64 ay, .int .i64 bx, .int .i64 cy]] w fun e w' => (∃ (g cp : Nat), e = .returned (.slice (some ⟨g, 0, none⟩) (crs l ax ay bx cy (l.length - 1)).length cp) ∧ w'.ownsRow w.heap.size 57 5 (.slice (some ⟨g, 0, none⟩) (crs l ax ay bx cy (l.length - 1)).length cp) (crs l ax ay bx cy (l.length - 1)).length (crFlat (crs l ax ay bx cy (l.length - 1))) ∧ w.heap.size ≤ g) ∧ Below w.heap.size w w' := by
  obtain ⟨hA, hB, hAB⟩ := isSeg_true es
  have h2 := (isTrk_true e1).1
  have h40 := (isTrk_true e1).2.1
  have hF0 := Lib.hid hf
  clear hf
  obtain ⟨i0, hi, ti0, ti1, ti2⟩ := info_parts infoCr
  obtain ⟨m, hm⟩ : ∃ m, l.length = m + 1 := ⟨l.length - 1, by omega⟩
  have hm2 := Lib.hid hm
  have hm3 : m ≤ 39 := by omega
  clear hm
  go_enter Try.func89, Try.ntmps89
  go_upto_region 1 with fail
  obtain ⟨WB, hW⟩ : ∃ W, W = (w.alloc (.cells #[.slice a l.length cap] 26)).alloc (.cells #[.int .i64 ax, .int .i64 ay, .int .i64 bx, .int .i64 cy] 66) := ⟨_, rfl⟩
  have HB : Below w.heap.size w WB := by subst hW; exact (by repeat (first | with_reducible exact Below.refl _ _ | with_reducible assumption | with_reducible refine Below.drew ?_ | with_reducible refine Below.alloc ?_ (by first | exact Nat.le_refl _ | (simp; done) | (simp; omega) | omega) _ | with_reducible refine Below.setCell ?_ (by first | exact Nat.le_refl _ | (simp; done) | (simp; omega) | omega) _ | with_reducible refine Below.trans ?_ (Below.mono (by with_reducible assumption) (by first | exact Nat.le_refl _ | (simp; done) | (simp; omega) | omega))))
  have b00 : WB.cell? ⟨w.heap.size, 0, none⟩ = some (.slice a l.length cap) := by subst hW; simp [go_sem]
  have b10 : WB.cell? ⟨w.heap.size + 1, 0, none⟩ = some (.int .i64 ax) := by subst hW; simp [go_sem]
  have b11 : WB.cell? ⟨w.heap.size + 1, 1, none⟩ = some (.int .i64 ay) := by subst hW; simp [go_sem]
  have b12 : WB.cell? ⟨w.heap.size + 1, 2, none⟩ = some (.int .i64 bx) := by subst hW; simp [go_sem]
  have b13 : WB.cell? ⟨w.heap.size + 1, 3, none⟩ = some (.int .i64 cy) := by subst hW; simp [go_sem]
  have L0 : w.heap.size < WB.heap.size := by subst hW; simp; omega
  have L1 : w.heap.size + 1 < WB.heap.size := by subst hW; simp
  have FB := Lib.hid (FixAt.below hF0.out HB)
  rw [← hW]
  clear hW
  generalize w.heap.size + 1 = B1 at *
  have hlen : (l.length : Int) - 1 = (m : Int) := by have := hm2.out; omega
  have hlen2 : IntKind.i64.wrap (m : Int) = (m : Int) := by rw [IntKind.wrap_i64]; omega
  go_wp2_with fail
  go_loopw [5, 19] (fun v i wr => ∃ (k g cp n : Nat), i = .int .i64 k ∧ v = .slice (some ⟨g, 0, none⟩) n cp ∧ k ≤ m ∧ n ≤ k ∧ Hid (n = (crs l ax ay bx cy k).length) ∧ Hid (wr.ownsRow WB.heap.size 57 5 (.slice (some ⟨g, 0, none⟩) n cp) n (crFlat (crs l ax ay bx cy k))) ∧ g < wr.heap.size ∧ WB.heap.size ≤ g ∧ Below WB.heap.size WB wr) (fun _ i _ => m - (intOf i).toNat)
  case atStart => exact ⟨0, WB.heap.size, 0, 0, rfl, rfl, Nat.zero_le _, Nat.le_refl _, Lib.hid rfl, Lib.hid (World.ownsRow_lit WB #[] 0 (Nat.le_refl _) (by unfold maxLen; omega) rfl), by simp, Nat.le_refl _, (by repeat (first | with_reducible exact Below.refl _ _ | with_reducible assumption | with_reducible refine Below.drew ?_ | with_reducible refine Below.alloc ?_ (by first | exact Nat.le_refl _ | (simp; done) | (simp; omega) | omega) _ | with_reducible refine Below.setCell ?_ (by first | exact Nat.le_refl _ | (simp; done) | (simp; omega) | omega) _ | with_reducible refine Below.trans ?_ (Below.mono (by with_reducible assumption) (by first | exact Nat.le_refl _ | (simp; done) | (simp; omega) | omega))))⟩
  case round =>
    obtain ⟨k, g, cp, n, rfl, rfl, hk, hnk, hn, own, hg2, hg1, hbl⟩ := hrel
    have HD : Below WB.heap.size WB wr := hbl
    obtain ⟨hc, hf⟩ := bcell hbl
    have hz := hbl.size
    replace b00 := (hc _ 0 L0).trans b00
    replace b10 := (hc _ 0 L1).trans b10
    replace b11 := (hc _ 1 L1).trans b11
    replace b12 := (hc _ 2 L1).trans b12
    replace b13 := (hc _ 3 L1).trans b13
    have FV := Lib.hid (FixAt.below FB.out hbl)
    have L0w := L0
    replace L0 := Nat.lt_of_lt_of_le L0 hz
    replace L1 := Nat.lt_of_lt_of_le L1 hz
    clear hc hf hbl
    by_cases h : k < m
    case neg =>
      have h' : (m : Int) ≤ (k : Int) := by omega
      have hkm := Lib.hid (show l.length - 1 = k by have := hm2.out; omega)
      go_wp2
      go_ret
      exact ⟨⟨g, cp, by rw [hkm.out, ← hn.out]; rfl, by rw [hkm.out, ← hn.out]; exact own_mono own.out HB.size, Nat.le_trans HB.size hg1⟩, HB.trans (HD.mono HB.size)⟩
    have h' : (k : Int) < (m : Int) := by omega
    have hkl : k + 1 < l.length := by have := hm2.out; omega
    obtain ⟨hp, hq, t0, t1, t2⟩ := leg_facts e1 hkl
    have hWay := Lib.hid (fun h => cr_facts (l := l) (ax := ax) (ay := ay) (bx := bx) (cy := cy) e1 hA hB hkl h)
    have hYes := Lib.hid (@crs_yes l ax ay bx cy k)
    have hNo := Lib.hid (@crs_no l ax ay bx cy k)
    have hTm := Lib.hid (fun n d h0 h1 h2 => @cr_time l k n d e1 hkl h0 h1 h2)
    obtain ⟨b, off, rfl, hlt, hcs⟩ := FV.out.head (by omega)
    obtain ⟨c0, c1, c2⟩ := hcs k (by omega)
    obtain ⟨q, hq2⟩ : ∃ q, q = k + 1 := ⟨_, rfl⟩
    obtain ⟨d0, d1, d2⟩ := hcs q (by omega)
    have g1 : (k : Int) < (l.length : Int) := by omega
    have g2 : (q : Int) < (l.length : Int) := by omega
    have g3 : (k : Int) + 1 = (q : Int) := by omega
    have g4 : IntKind.i64.wrap (q : Int) = (q : Int) := by rw [IntKind.wrap_i64]; omega
    have hQ := Lib.hid hq2
    clear hcs c1 c2 d1 d2 hq2
    have cls := legSegment_c (some ⟨b, off, none⟩) cap l k wr (by omega) hkl FV.out
    go_wp2_with fail
    refine (cls).mono ?_
    rintro e V1 ⟨rfl, hb⟩
    clear cls
    have hgs := hb.size
    replace hg2 : g < V1.heap.size := Nat.lt_of_lt_of_le hg2 hgs
    clear hgs
    replace HD := HD.trans (hb.mono HD.size)
    obtain ⟨hc, hf⟩ := bcell hb
    have hz := hb.size
    replace b00 := (hc _ 0 L0).trans b00
    replace b10 := (hc _ 0 L1).trans b10
    replace b11 := (hc _ 1 L1).trans b11
    replace b12 := (hc _ 2 L1).trans b12
    replace b13 := (hc _ 3 L1).trans b13
    replace c0 := (hc _ (off + k * 3) hlt).trans c0
    replace d0 := (hc _ (off + q * 3) hlt).trans d0
    replace own := Lib.hid (ownsRow_below own.out hb)
    replace L0 := Nat.lt_of_lt_of_le L0 hz
    replace L1 := Nat.lt_of_lt_of_le L1 hz
    replace hlt := Nat.lt_of_lt_of_le hlt hz
    clear hc hf hz hb
    go_wp2_with fail
    obtain ⟨V2, hV2⟩ : ∃ x, x = V1.alloc (.cells #[.int .i64 (fx l k).x, .int .i64 (fx l k).y, .int .i64 (fx l (k + 1)).x, .int .i64 (fx l (k + 1)).y] 121) := ⟨_, rfl⟩
    have hb : Below V1.heap.size V1 V2 := by subst hV2; exact (Below.refl _ _).alloc (Nat.le_refl _) _
    have k70 : V2.cell? ⟨V1.heap.size, 0, none⟩ = some (.int .i64 (fx l k).x) := by subst hV2; simp [go_sem]
    have k71 : V2.cell? ⟨V1.heap.size, 1, none⟩ = some (.int .i64 (fx l k).y) := by subst hV2; simp [go_sem]
    have k72 : V2.cell? ⟨V1.heap.size, 2, none⟩ = some (.int .i64 (fx l (k + 1)).x) := by subst hV2; simp [go_sem]
    have k73 : V2.cell? ⟨V1.heap.size, 3, none⟩ = some (.int .i64 (fx l (k + 1)).y) := by subst hV2; simp [go_sem]
    have K7 : V1.heap.size < V2.heap.size := by subst hV2; simp
    rw [← hV2]
    clear hV2
    replace HD := HD.trans (hb.mono HD.size)
    obtain ⟨hc, hf⟩ := bcell hb
    have hz := hb.size
    replace b00 := (hc _ 0 L0).trans b00
    replace b10 := (hc _ 0 L1).trans b10
    replace b11 := (hc _ 1 L1).trans b11
    replace b12 := (hc _ 2 L1).trans b12
    replace b13 := (hc _ 3 L1).trans b13
    replace c0 := (hc _ (off + k * 3) hlt).trans c0
    replace d0 := (hc _ (off + q * 3) hlt).trans d0
    replace own := Lib.hid (ownsRow_below own.out hb)
    replace L0 := Nat.lt_of_lt_of_le L0 hz
    replace L1 := Nat.lt_of_lt_of_le L1 hz
    replace hlt := Nat.lt_of_lt_of_le hlt hz
    clear hc hf hz hb
    obtain ⟨C7, hC7⟩ : ∃ x, x = V1.heap.size := ⟨_, rfl⟩
    rw [← hC7] at k70 k71 k72 k73 K7
    try rw [← hC7]
    replace hC7 := Lib.hid hC7
    have cw := wayAcross_c ax ay bx cy (fx l k).x (fx l k).y (fx l (k + 1)).x (fx l (k + 1)).y V2 hA hB hp hq
    have hwl : wayL l ax ay bx cy k = wayZ ax ay bx cy (fx l k).x (fx l k).y (fx l (k + 1)).x (fx l (k + 1)).y := rfl
    rw [← hwl] at cw
    clear hwl
    by_cases hw : wayL l ax ay bx cy k = 0
    case pos =>
      have hN := Lib.hid (hNo.out hw)
      rw [hw] at cw
      refine (cw).mono ?_
      rintro e V3 ⟨rfl, hb⟩
      replace HD := HD.trans (hb.mono HD.size)
      obtain ⟨hc, hf⟩ := bcell hb
      have hz := hb.size
      replace b00 := (hc _ 0 L0).trans b00
      replace b10 := (hc _ 0 L1).trans b10
      replace b11 := (hc _ 1 L1).trans b11
      replace b12 := (hc _ 2 L1).trans b12
      replace b13 := (hc _ 3 L1).trans b13
      replace c0 := (hc _ (off + k * 3) hlt).trans c0
      replace d0 := (hc _ (off + q * 3) hlt).trans d0
      replace k70 := (hc _ 0 K7).trans k70
      replace k71 := (hc _ 1 K7).trans k71
      replace k72 := (hc _ 2 K7).trans k72
      replace k73 := (hc _ 3 K7).trans k73
      replace own := Lib.hid (ownsRow_below own.out hb)
      replace L0 := Nat.lt_of_lt_of_le L0 hz
      replace L1 := Nat.lt_of_lt_of_le L1 hz
      replace hlt := Nat.lt_of_lt_of_le hlt hz
      replace K7 := Nat.lt_of_lt_of_le K7 hz
      clear hc hf hz hb
      go_wp2_with fail
      go_wp2
      exact ⟨⟨k + 1, g, cp, n, by rw [hQ.out], rfl, by omega, by omega, Lib.hid (by rw [hN.out, hn.out]), Lib.hid (by rw [hN.out]; exact own.out), (own.out.lt g rfl).2, hg1, HD⟩, by simp [intOf, hQ.out]; omega⟩
    obtain ⟨s1, s2, n0, n1, n2, n3⟩ := hWay.out hw
    have hY := Lib.hid (hYes.out hw)
    have hw2 : (wayL l ax ay bx cy k == 0) = false := by simpa using hw
    have cp1 := fun w => CrossingPlace_c (fx l k).x (fx l k).y (fx l (k + 1)).x (fx l (k + 1)).y ax ay bx cy w
    rw [placeR_yes s1 es rfl rfl s2] at cp1
    have cpl := fun w => cp1 w
    clear cp1 s1 s2
    have hct := Lib.hid (show crOf l ax ay bx cy k = ⟨crT l ax ay bx cy k, k, wayL l ax ay bx cy k, crN l ax ay bx cy k, crD l ax ay bx cy k⟩ from rfl)
    have hcT := show crT l ax ay bx cy k = if 0 < restZ l k (crN l ax ay bx cy k) (crD l ax ay bx cy k) then wholeZ l k (crN l ax ay bx cy k) (crD l ax ay bx cy k) + 1 else wholeZ l k (crN l ax ay bx cy k) (crD l ax ay bx cy k) from rfl
    replace cpl : ∀ w, Calls Try.prog 119 #[.agg #[.int .i64 (fx l k).x, .int .i64 (fx l k).y, .int .i64 (fx l (k + 1)).x, .int .i64 (fx l (k + 1)).y], .agg #[.int .i64 ax, .int .i64 ay, .int .i64 bx, .int .i64 cy]] w fun e w' => e = .returned (.tuple #[.agg #[.int .i64 (crN l ax ay bx cy k), .int .i64 (crD l ax ay bx cy k)], .int .i64 0]) ∧ Below w.heap.size w w' := cpl
    generalize crN l ax ay bx cy k = N at *
    generalize crD l ax ay bx cy k = D at *
    generalize crT l ax ay bx cy k = TT at *
    generalize wayL l ax ay bx cy k = y at *
    obtain ⟨u0, u1, u2, u3, u4, u5⟩ := hTm.out N D n0 n1 n2
    have cm := fun w => mulDiv_c (lapZ l k) N D w (by unfold lapZ; omega) (by unfold lapZ; omega) n0 (by omega) n2 (by omega) (part_lt (by unfold lapZ; omega) (by unfold lapZ; omega) n0 n1 n2)
    rw [show lapZ l k * N % D = restZ l k N D from rfl] at cm
    rw [show wholeZ l k N D = (fx l k).t + lapZ l k * N / D from rfl] at hcT u0 u1
    have hlap : IntKind.i64.wrap ((fx l (k + 1)).t - (fx l k).t) = lapZ l k := by unfold lapZ; rw [IntKind.wrap_i64]; omega
    have hlap2 : (fx l (k + 1)).t - (fx l k).t = lapZ l k := rfl
    have hlap3 : IntKind.i64.wrap (lapZ l k) = lapZ l k := by unfold lapZ; rw [IntKind.wrap_i64]; omega
    clear hlap
    rw [← hQ.out] at hlap2
    generalize restZ l k N D = R at *
    generalize lapZ l k * N / D = X at *
    have CM := Lib.hid cm
    have HcT := Lib.hid hcT
    clear cm hcT hw
    refine (cw).mono ?_
    rintro e V3 ⟨rfl, hb⟩
    clear cw
    replace HD := HD.trans (hb.mono HD.size)
    obtain ⟨hc, hf⟩ := bcell hb
    have hz := hb.size
    replace b00 := (hc _ 0 L0).trans b00
    replace b10 := (hc _ 0 L1).trans b10
    replace b11 := (hc _ 1 L1).trans b11
    replace b12 := (hc _ 2 L1).trans b12
    replace b13 := (hc _ 3 L1).trans b13
    replace c0 := (hc _ (off + k * 3) hlt).trans c0
    replace d0 := (hc _ (off + q * 3) hlt).trans d0
    replace k70 := (hc _ 0 K7).trans k70
    replace k71 := (hc _ 1 K7).trans k71
    replace k72 := (hc _ 2 K7).trans k72
    replace k73 := (hc _ 3 K7).trans k73
    replace own := Lib.hid (ownsRow_below own.out hb)
    replace L0 := Nat.lt_of_lt_of_le L0 hz
    replace L1 := Nat.lt_of_lt_of_le L1 hz
    replace hlt := Nat.lt_of_lt_of_le hlt hz
    replace K7 := Nat.lt_of_lt_of_le K7 hz
    clear hc hf hz hb
    go_wp2_with fail
    refine (cpl V3).mono ?_
    rintro e V4 ⟨rfl, hb⟩
    clear cpl
    replace HD := HD.trans (hb.mono HD.size)
    obtain ⟨hc, hf⟩ := bcell hb
    have hz := hb.size
    replace b00 := (hc _ 0 L0).trans b00
    replace b10 := (hc _ 0 L1).trans b10
    replace b11 := (hc _ 1 L1).trans b11
    replace b12 := (hc _ 2 L1).trans b12
    replace b13 := (hc _ 3 L1).trans b13
    replace c0 := (hc _ (off + k * 3) hlt).trans c0
    replace d0 := (hc _ (off + q * 3) hlt).trans d0
    replace k70 := (hc _ 0 K7).trans k70
    replace k71 := (hc _ 1 K7).trans k71
    replace k72 := (hc _ 2 K7).trans k72
    replace k73 := (hc _ 3 K7).trans k73
    replace own := Lib.hid (ownsRow_below own.out hb)
    replace L0 := Nat.lt_of_lt_of_le L0 hz
    replace L1 := Nat.lt_of_lt_of_le L1 hz
    replace hlt := Nat.lt_of_lt_of_le hlt hz
    replace K7 := Nat.lt_of_lt_of_le K7 hz
    clear hc hf hz hb
    go_wp2_with fail
    obtain ⟨V5, hV5⟩ : ∃ x, x = V4.alloc (.cells #[.int .i64 N, .int .i64 D] 55) := ⟨_, rfl⟩
    have hb : Below V4.heap.size V4 V5 := by subst hV5; exact (Below.refl _ _).alloc (Nat.le_refl _) _
    have k90 : V5.cell? ⟨V4.heap.size, 0, none⟩ = some (.int .i64 N) := by subst hV5; simp [go_sem]
    have k91 : V5.cell? ⟨V4.heap.size, 1, none⟩ = some (.int .i64 D) := by subst hV5; simp [go_sem]
    have K9 : V4.heap.size < V5.heap.size := by subst hV5; simp
    rw [← hV5]
    clear hV5
    replace HD := HD.trans (hb.mono HD.size)
    obtain ⟨hc, hf⟩ := bcell hb
    have hz := hb.size
    replace b00 := (hc _ 0 L0).trans b00
    replace b10 := (hc _ 0 L1).trans b10
    replace b11 := (hc _ 1 L1).trans b11
    replace b12 := (hc _ 2 L1).trans b12
    replace b13 := (hc _ 3 L1).trans b13
    replace c0 := (hc _ (off + k * 3) hlt).trans c0
    replace d0 := (hc _ (off + q * 3) hlt).trans d0
    replace k70 := (hc _ 0 K7).trans k70
    replace k71 := (hc _ 1 K7).trans k71
    replace k72 := (hc _ 2 K7).trans k72
    replace k73 := (hc _ 3 K7).trans k73
    replace own := Lib.hid (ownsRow_below own.out hb)
    replace L0 := Nat.lt_of_lt_of_le L0 hz
    replace L1 := Nat.lt_of_lt_of_le L1 hz
    replace hlt := Nat.lt_of_lt_of_le hlt hz
    replace K7 := Nat.lt_of_lt_of_le K7 hz
    clear hc hf hz hb
    obtain ⟨C9, hC9⟩ : ∃ x, x = V4.heap.size := ⟨_, rfl⟩
    rw [← hC9] at k90 k91 K9
    try rw [← hC9]
    replace hC9 := Lib.hid hC9
    go_wp2_with fail
    have x2 : X ≤ 1000000000 := Int.le_trans u5 (by unfold lapZ; omega)
    clear hWay hYes hNo hTm hp hq FV FB hF0 hA hB hAB e1 es hw2 u0 u1 u2 u3
    generalize (fx l k).t = tk at *
    generalize (fx l q).t = tq at *
    generalize lapZ l k = La at *
    replace HD := Lib.hid HD
    refine wp_region_later (by kernel_rfl) (by kernel_rfl) ?_
    repeat (first | go_big_quiet_step ((go_at_call 114; exact later_of _ (CM.out _))) | quiet_step ((go_at_call 114; exact later_of _ (CM.out _))))
    refine wpQuiet_nil ?_
    intro _ hw'
    obtain ⟨s10, hw''⟩ := hw'
    subst hw''
    have hb10 := s10.below
    generalize s10.w = w10 at hb10 ⊢
    clear s10
    try replace hb10 := below_trans (by with_reducible assumption) hb10
    obtain ⟨hc10, hf10⟩ := bcell hb10
    have hz10 := hb10.size
    try simp at hz10
    try have hz100 : w.heap.size ≤ w10.heap.size := by omega
    try have hz101 : w.heap.size < w10.heap.size := by omega
    try have hz102 : w.heap.size + 1 < w10.heap.size := by omega
    try have hz103 : w.heap.size + 1 + 1 < w10.heap.size := by omega
    try have hz104 : w.heap.size + 1 + 1 + 1 < w10.heap.size := by omega
    replace HD := HD.out
    obtain ⟨V6, rfl⟩ : ∃ x : World, x = w10 := ⟨_, rfl⟩
    have hb := hb10
    clear hb10 hc10 hf10
    replace HD := HD.trans (hb.mono HD.size)
    obtain ⟨hc, hf⟩ := bcell hb
    have hz := hb.size
    replace b00 := (hc _ 0 L0).trans b00
    replace b10 := (hc _ 0 L1).trans b10
    replace b11 := (hc _ 1 L1).trans b11
    replace b12 := (hc _ 2 L1).trans b12
    replace b13 := (hc _ 3 L1).trans b13
    replace c0 := (hc _ (off + k * 3) hlt).trans c0
    replace d0 := (hc _ (off + q * 3) hlt).trans d0
    replace k70 := (hc _ 0 K7).trans k70
    replace k71 := (hc _ 1 K7).trans k71
    replace k72 := (hc _ 2 K7).trans k72
    replace k73 := (hc _ 3 K7).trans k73
    replace k90 := (hc _ 0 K9).trans k90
    replace k91 := (hc _ 1 K9).trans k91
    replace own := Lib.hid (ownsRow_below own.out hb)
    replace L0 := Nat.lt_of_lt_of_le L0 hz
    replace L1 := Nat.lt_of_lt_of_le L1 hz
    replace hlt := Nat.lt_of_lt_of_le hlt hz
    replace K7 := Nat.lt_of_lt_of_le K7 hz
    replace K9 := Nat.lt_of_lt_of_le K9 hz
    clear hc hf hz hb
    by_cases hR : 0 < R
    case pos =>
      have hTT : TT = tk + (X + 1) := by rw [HcT.out, if_pos hR]; omega
      have hd : decide (0 < R) = true := by simpa using hR
      have hgV := (own.out.lt g rfl).2
      rw [hd]
      clear hd
      go_wp2_with (at_builtin; refine wpList_append_lies _ rfl _ _ 80 rfl WB.heap.size 57 i0 _ 5 40 Try.underlying80 hi ti0 ti1 ti2 rfl (by decide) (.slice (some ⟨g, 0, none⟩) n cp) n (crFlat (crs l ax ay bx cy k)) rfl (by repeat (first | with_reducible exact own.out | with_reducible refine World.ownsRow.alloc ?_ _ | with_reducible refine ownsRow_setCell_other ?_ (by simp [Value.ownBlock]; omega) _ | with_reducible refine World.ownsRow.drew ?_)) ⟨V6.heap.size, 0, none⟩ 1 1 [.int .i64 (tk + (X + 1)), .int .i64 k, .int .i64 y, .int .i64 N, .int .i64 D] rfl rfl (World.news_of_block (heap_new (by simp))) (one5 _ _ _ _ _) (by decide) (by unfold maxLen; omega) (by omega) (by have := HD.size; simp; omega) (V6.heap.size + 1) (by simp) ?_; intro g' cp' w1 hown1 hgrow1 hat1 hlt1)
      have hG := grown_below (base := WB.heap.size) hgrow1 (by have := HD.size; simp; omega) (by intro j e; simp [Value.ownBlock] at e; omega)
      have HB1 : Below WB.heap.size WB w1 := Below.trans (HD.alloc HD.size _) hG
      have hga : WB.heap.size ≤ g' := by rcases hat1 with e | e; (simp [Value.ownBlock] at e; omega); (have := HD.size; omega)
      have hfl : crFlat (crs l ax ay bx cy (k + 1)) = crFlat (crs l ax ay bx cy k) ++ [.int .i64 (tk + (X + 1)), .int .i64 k, .int .i64 y, .int .i64 N, .int .i64 D] := by rw [hY.out, crFlat_snoc, hct.out, ← hTT]
      rw [← hfl] at hown1
      have HO := Lib.hid hown1
      clear hG hgrow1 hat1 hown1 hfl hTT
      go_wp2
      exact ⟨⟨k + 1, g', cp', n + 1, by rw [hQ.out], rfl, by omega, by omega, Lib.hid (by rw [hY.out, List.length_append, ← hn.out]; rfl), HO, hlt1, hga, HB1⟩, by simp [intOf, hQ.out]; omega⟩
    case neg =>
      have hTT : TT = tk + X := by rw [HcT.out, if_neg hR]
      have hd : decide (0 < R) = false := by simpa using hR
      have hgV := (own.out.lt g rfl).2
      rw [hd]
      clear hd
      go_wp2_with (at_builtin; refine wpList_append_lies _ rfl _ _ 80 rfl WB.heap.size 57 i0 _ 5 40 Try.underlying80 hi ti0 ti1 ti2 rfl (by decide) (.slice (some ⟨g, 0, none⟩) n cp) n (crFlat (crs l ax ay bx cy k)) rfl (by repeat (first | with_reducible exact own.out | with_reducible refine World.ownsRow.alloc ?_ _ | with_reducible refine ownsRow_setCell_other ?_ (by simp [Value.ownBlock]; omega) _ | with_reducible refine World.ownsRow.drew ?_)) ⟨V6.heap.size, 0, none⟩ 1 1 [.int .i64 (tk + X), .int .i64 k, .int .i64 y, .int .i64 N, .int .i64 D] rfl rfl (World.news_of_block (heap_new (by simp))) (one5 _ _ _ _ _) (by decide) (by unfold maxLen; omega) (by omega) (by have := HD.size; simp; omega) (V6.heap.size + 1) (by simp) ?_; intro g' cp' w1 hown1 hgrow1 hat1 hlt1)
      have hG := grown_below (base := WB.heap.size) hgrow1 (by have := HD.size; simp; omega) (by intro j e; simp [Value.ownBlock] at e; omega)
      have HB1 : Below WB.heap.size WB w1 := Below.trans (HD.alloc HD.size _) hG
      have hga : WB.heap.size ≤ g' := by rcases hat1 with e | e; (simp [Value.ownBlock] at e; omega); (have := HD.size; omega)
      have hfl : crFlat (crs l ax ay bx cy (k + 1)) = crFlat (crs l ax ay bx cy k) ++ [.int .i64 (tk + X), .int .i64 k, .int .i64 y, .int .i64 N, .int .i64 D] := by rw [hY.out, crFlat_snoc, hct.out, ← hTT]
      rw [← hfl] at hown1
      have HO := Lib.hid hown1
      clear hG hgrow1 hat1 hown1 hfl hTT
      go_wp2
      exact ⟨⟨k + 1, g', cp', n + 1, by rw [hQ.out], rfl, by omega, by omega, Lib.hid (by rw [hY.out, List.length_append, ← hn.out]; rfl), HO, hlt1, hga, HB1⟩, by simp [intOf, hQ.out]; omega⟩
end Go.Proofs.Ytdepdkpehbkcjaa
