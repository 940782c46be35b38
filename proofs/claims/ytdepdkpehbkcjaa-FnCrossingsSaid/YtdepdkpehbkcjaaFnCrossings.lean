/-
  FnCrossings: for every code the law's function answers true. No condition.
-/
import Derived.Test.YtdepdkpehbkcjaaRows
import Derived.Test.YtdepdkpehbkcjaaTdraw7
import Derived.Test.YtdepdkpehbkcjaaL05q
namespace Go.Proofs.Ytdepdkpehbkcjaa.fnCrossings
open Go.ChangeShapes Go.WideShapes Go.ChangeAt Go.RowKit Go.Deep
open Go.ChangeMaps (open_string shut_string)
set_option linter.unusedVariables false

theorem fixC {w : World} {r k : Nat} {l : List Fx} (h : FixAt w (some ⟨r, 0, none⟩) l) (hk : k < l.length) : w.cell? ⟨r, k * 3, none⟩ = some (.int .i64 (fx l k).t) ∧ w.cell? ⟨r, k * 3 + 1, none⟩ = some (.int .i64 (fx l k).x) ∧ w.cell? ⟨r, k * 3 + 2, none⟩ = some (.int .i64 (fx l k).y) ∧ r < w.heap.size := by
  obtain ⟨b, off, ha, hlt, c0, c1, c2⟩ := h k _ (fx_of hk)
  simp at ha
  obtain ⟨rfl, rfl⟩ := ha
  exact ⟨by simpa using c0, by simpa using c1, by simpa using c2, hlt⟩

set_option maxRecDepth 100000 in
set_option maxHeartbeats 2000000 in
theorem walk (a : Option Addr) (cap n : Nat) (w : World) (w0 : n ≤ 9223372036854775807 ∧ BytesB w.heap.size w a n) :
    Calls Try.prog 12 #[.slice a n cap] w fun e w' => e = .returned (.bool true) ∧ Below w.heap.size w w' := by
  obtain ⟨hn, hb⟩ := w0
  have HB := Lib.hid hb
  clear hb
  by_cases h : (4096 : Int) < (n : Int)
  · have CB := Lib.hid (fun w => big_t a n cap w hn h)
    go_enter Try.func12, Try.ntmps12
    go_wp2_with (go_at_call 13; refine (CB.out _).mono ?_; rintro e w' ⟨rfl, rfl⟩)
    go_ret
    exact ⟨rfl, (by repeat (first | with_reducible exact Below.refl _ _ | with_reducible assumption | with_reducible refine Below.drew ?_ | with_reducible refine Below.alloc ?_ (by first | exact Nat.le_refl _ | (simp; done) | (simp; omega) | omega) _ | with_reducible refine Below.setCell ?_ (by first | exact Nat.le_refl _ | (simp; done) | (simp; omega) | omega) _ | with_reducible refine Below.trans ?_ (Below.mono (by with_reducible assumption) (by first | exact Nat.le_refl _ | (simp; done) | (simp; omega) | omega))))⟩
  have CB := Lib.hid (fun w => big_f a n cap w hn h)
  clear h
  go_enter Try.func12, Try.ntmps12
  go_wp2_with (go_at_call 13; refine (CB.out _).mono ?_; rintro e w' ⟨rfl, rfl⟩)
  refine (DrawCrossingsOf_c a n cap _ hn (bytes_at HB.out (by repeat (first | with_reducible exact Below.refl _ _ | with_reducible assumption | with_reducible refine Below.drew ?_ | with_reducible refine Below.alloc ?_ (by first | exact Nat.le_refl _ | (simp; done) | (simp; omega) | omega) _ | with_reducible refine Below.setCell ?_ (by first | exact Nat.le_refl _ | (simp; done) | (simp; omega) | omega) _ | with_reducible refine Below.trans ?_ (Below.mono (by with_reducible assumption) (by first | exact Nat.le_refl _ | (simp; done) | (simp; omega) | omega)))))).mono ?_
  rintro e V1 ⟨⟨r, cp, l, ax, ay, bx, cy, rfl, hl0, hl1, ho⟩, hbV⟩
  clear CB HB
  have hzV := hbV.size
  go_wp2_with fail
  obtain ⟨W, hW⟩ : ∃ W, W = ((V1.alloc (.cells #[.slice (some ⟨r, 0, none⟩) l.length cp] 26)).alloc (.cells #[.int .i64 ax, .int .i64 ay, .int .i64 bx, .int .i64 cy] 66)) := ⟨_, rfl⟩
  have HD : Below w.heap.size w W := by subst hW; exact (by repeat (first | with_reducible exact Below.refl _ _ | with_reducible assumption | with_reducible refine Below.drew ?_ | with_reducible refine Below.alloc ?_ (by first | exact Nat.le_refl _ | (simp; done) | (simp; omega) | omega) _ | with_reducible refine Below.setCell ?_ (by first | exact Nat.le_refl _ | (simp; done) | (simp; omega) | omega) _ | with_reducible refine Below.trans ?_ (Below.mono (by with_reducible assumption) (by first | exact Nat.le_refl _ | (simp; done) | (simp; omega) | omega))))
  have HV : Below V1.heap.size V1 W := by subst hW; exact (by repeat (first | with_reducible exact Below.refl _ _ | with_reducible assumption | with_reducible refine Below.drew ?_ | with_reducible refine Below.alloc ?_ (by first | exact Nat.le_refl _ | (simp; done) | (simp; omega) | omega) _ | with_reducible refine Below.setCell ?_ (by first | exact Nat.le_refl _ | (simp; done) | (simp; omega) | omega) _ | with_reducible refine Below.trans ?_ (Below.mono (by with_reducible assumption) (by first | exact Nat.le_refl _ | (simp; done) | (simp; omega) | omega))))
  have b00 : W.cell? ⟨V1.heap.size, 0, none⟩ = some (.slice (some ⟨r, 0, none⟩) l.length cp) := by subst hW; simp [go_sem]
  have L0 : V1.heap.size < W.heap.size := by subst hW; first | (simp; done) | (simp; omega)
  have b10 : W.cell? ⟨V1.heap.size + 1, 0, none⟩ = some (.int .i64 ax) := by subst hW; simp [go_sem]
  have b11 : W.cell? ⟨V1.heap.size + 1, 1, none⟩ = some (.int .i64 ay) := by subst hW; simp [go_sem]
  have b12 : W.cell? ⟨V1.heap.size + 1, 2, none⟩ = some (.int .i64 bx) := by subst hW; simp [go_sem]
  have b13 : W.cell? ⟨V1.heap.size + 1, 3, none⟩ = some (.int .i64 cy) := by subst hW; simp [go_sem]
  have L1 : V1.heap.size + 1 < W.heap.size := by subst hW; first | (simp; done) | (simp; omega)
  rw [← hW]
  clear hW
  generalize V1.heap.size + 1 = B1 at *
  obtain ⟨B0, hB0⟩ : ∃ B, B = V1.heap.size := ⟨_, rfl⟩
  rw [← hB0] at b00 L0
  try rw [← hB0]
  replace hB0 := Lib.hid hB0
  have hn2 : l.length ≤ 4611686018427387904 := by omega
  have FV := Lib.hid (FixAt.below (fixAt_own ho) HV)
  clear ho HV
  by_cases E : isTrk l = true ∧ isSeg ax ay bx cy = true
  case neg =>
    have E1 : crsR l ax ay bx cy = ([], 1) := by unfold crsR; rw [if_neg E]
    obtain ⟨L, hL⟩ : ∃ L : List Cr, L = [] := ⟨_, rfl⟩
    rw [← hL] at E1
    have hL2 : L.length ≤ 4611686018427387904 := by rw [hL]; simp
    clear hL
    have C1 := Lib.hid (fun W h => E1 ▸ CrossingsOf_c (some ⟨r, 0, none⟩) cp l ax ay bx cy W hn2 h)
    have C2 := Lib.hid (fun W h => E1 ▸ CrossingsOfS_c (some ⟨r, 0, none⟩) cp l ax ay bx cy W hn2 h)
    clear E1 E
    refine (C1.out _ FV.out).mono ?_
    rintro e U1 ⟨⟨a1, cap1, rfl, hrow⟩, hb⟩
    have R1 := Lib.hid (row_own hrow (crFlat_length L))
    clear hrow
    replace HD := HD.trans (hb.mono HD.size)
    obtain ⟨hc, hf⟩ := bcell hb
    have hz := hb.size
    replace b00 := (hc _ 0 L0).trans b00
    replace b10 := (hc _ 0 L1).trans b10
    replace b11 := (hc _ 1 L1).trans b11
    replace b12 := (hc _ 2 L1).trans b12
    replace b13 := (hc _ 3 L1).trans b13
    replace FV := Lib.hid (FixAt.below FV.out hb)
    replace L0 := Nat.lt_of_lt_of_le L0 hz
    replace L1 := Nat.lt_of_lt_of_le L1 hz
    clear hc hf hz hb
    go_wp2_with fail
    refine (C2.out _ FV.out).mono ?_
    rintro e U2 ⟨⟨a2, cap2, rfl, hrow⟩, hb⟩
    have R2 := Lib.hid (row_own hrow (crFlat_length L))
    clear hrow
    replace HD := HD.trans (hb.mono HD.size)
    obtain ⟨hc, hf⟩ := bcell hb
    have hz := hb.size
    replace b00 := (hc _ 0 L0).trans b00
    replace b10 := (hc _ 0 L1).trans b10
    replace b11 := (hc _ 1 L1).trans b11
    replace b12 := (hc _ 2 L1).trans b12
    replace b13 := (hc _ 3 L1).trans b13
    replace FV := Lib.hid (FixAt.below FV.out hb)
    replace R1 := Lib.hid (RowAt.below R1.out hb)
    replace L0 := Nat.lt_of_lt_of_le L0 hz
    replace L1 := Nat.lt_of_lt_of_le L1 hz
    clear hc hf hz hb
    go_wp2_with fail
    refine (w9Crossings_c a1 a2 cap1 cap2 L U2 hL2 R1.out R2.out).mono ?_
    rintro e U3 ⟨rfl, hb⟩
    replace HD := HD.trans (hb.mono HD.size)
    obtain ⟨hc, hf⟩ := bcell hb
    have hz := hb.size
    replace b00 := (hc _ 0 L0).trans b00
    replace b10 := (hc _ 0 L1).trans b10
    replace b11 := (hc _ 1 L1).trans b11
    replace b12 := (hc _ 2 L1).trans b12
    replace b13 := (hc _ 3 L1).trans b13
    replace FV := Lib.hid (FixAt.below FV.out hb)
    replace R1 := Lib.hid (RowAt.below R1.out hb)
    replace R2 := Lib.hid (RowAt.below R2.out hb)
    replace L0 := Nat.lt_of_lt_of_le L0 hz
    replace L1 := Nat.lt_of_lt_of_le L1 hz
    clear hc hf hz hb
    go_wp2_with fail
    go_ret
    exact ⟨rfl, HD⟩
  case pos =>
    obtain ⟨hT, hS⟩ := E
    have E1 : crsR l ax ay bx cy = (crL l ax ay bx cy, 0) := by unfold crsR; rw [if_pos ⟨hT, hS⟩]
    have E2 : countR l ax ay bx cy = (((cntF (crL l ax ay bx cy) (crL l ax ay bx cy).length : Nat) : Int), ((crL l ax ay bx cy).length : Int) - ((cntF (crL l ax ay bx cy) (crL l ax ay bx cy).length : Nat) : Int), 0) := by unfold countR; rw [if_pos ⟨hT, hS⟩]
    have hLl := crL_len (ax := ax) (ay := ay) (bx := bx) (cy := cy) hT
    have C1 := Lib.hid (fun W h => E1 ▸ CrossingsOf_c (some ⟨r, 0, none⟩) cp l ax ay bx cy W hn2 h)
    have C2 := Lib.hid (fun W h => E1 ▸ CrossingsOfS_c (some ⟨r, 0, none⟩) cp l ax ay bx cy W hn2 h)
    have C3 := Lib.hid (fun W h => E2 ▸ CountCrossings_c (some ⟨r, 0, none⟩) cp l ax ay bx cy W hn2 h)
    have C4 := Lib.hid (fun j W h => CrossingPoint_c (some ⟨r, 0, none⟩) cp l ax ay bx cy j W hn2 h)
    have C5 := Lib.hid (fun px py qx qy W => WayAcross_c ax ay bx cy px py qx qy W)
    have KL := Lib.hid (fun i h => crL_law (ax := ax) (ay := ay) (bx := bx) (cy := cy) hT hS (i := i) h)
    have KP := Lib.hid (fun i h => crPt_ok (ax := ax) (ay := ay) (bx := bx) (cy := cy) hT hS (i := i) h)
    have KS := Lib.hid (fun i (h : i + 1 < (crL l ax ay bx cy).length) => crs_sorted (l := l) (ax := ax) (ay := ay) (bx := bx) (cy := cy) (K := l.length - 1) (i := i) h)
    rw [← show crL l ax ay bx cy = crs l ax ay bx cy (l.length - 1) from rfl] at KS
    clear E1 E2
    generalize crL l ax ay bx cy = L at *
    have hL2 : L.length ≤ 4611686018427387904 := by omega
    refine (C1.out _ FV.out).mono ?_
    rintro e U1 ⟨⟨a1, cap1, rfl, hrow⟩, hb⟩
    have R1 := Lib.hid (row_own hrow (crFlat_length L))
    clear hrow
    replace HD := HD.trans (hb.mono HD.size)
    obtain ⟨hc, hf⟩ := bcell hb
    have hz := hb.size
    replace b00 := (hc _ 0 L0).trans b00
    replace b10 := (hc _ 0 L1).trans b10
    replace b11 := (hc _ 1 L1).trans b11
    replace b12 := (hc _ 2 L1).trans b12
    replace b13 := (hc _ 3 L1).trans b13
    replace FV := Lib.hid (FixAt.below FV.out hb)
    replace L0 := Nat.lt_of_lt_of_le L0 hz
    replace L1 := Nat.lt_of_lt_of_le L1 hz
    clear hc hf hz hb
    go_wp2_with fail
    refine (C2.out _ FV.out).mono ?_
    rintro e U2 ⟨⟨a2, cap2, rfl, hrow⟩, hb⟩
    have R2 := Lib.hid (row_own hrow (crFlat_length L))
    clear hrow
    replace HD := HD.trans (hb.mono HD.size)
    obtain ⟨hc, hf⟩ := bcell hb
    have hz := hb.size
    replace b00 := (hc _ 0 L0).trans b00
    replace b10 := (hc _ 0 L1).trans b10
    replace b11 := (hc _ 1 L1).trans b11
    replace b12 := (hc _ 2 L1).trans b12
    replace b13 := (hc _ 3 L1).trans b13
    replace FV := Lib.hid (FixAt.below FV.out hb)
    replace R1 := Lib.hid (RowAt.below R1.out hb)
    replace L0 := Nat.lt_of_lt_of_le L0 hz
    replace L1 := Nat.lt_of_lt_of_le L1 hz
    clear hc hf hz hb
    go_wp2_with fail
    refine (w9Crossings_c a1 a2 cap1 cap2 L U2 hL2 R1.out R2.out).mono ?_
    rintro e U3 ⟨rfl, hb⟩
    replace HD := HD.trans (hb.mono HD.size)
    obtain ⟨hc, hf⟩ := bcell hb
    have hz := hb.size
    replace b00 := (hc _ 0 L0).trans b00
    replace b10 := (hc _ 0 L1).trans b10
    replace b11 := (hc _ 1 L1).trans b11
    replace b12 := (hc _ 2 L1).trans b12
    replace b13 := (hc _ 3 L1).trans b13
    replace FV := Lib.hid (FixAt.below FV.out hb)
    replace R1 := Lib.hid (RowAt.below R1.out hb)
    replace R2 := Lib.hid (RowAt.below R2.out hb)
    replace L0 := Nat.lt_of_lt_of_le L0 hz
    replace L1 := Nat.lt_of_lt_of_le L1 hz
    clear hc hf hz hb
    go_wp2_with fail
    clear C1 C2 R1
    go_loopw [9, 10] (fun x v wr => ∃ k c : Nat, x = .int .i64 c ∧ v = .int .i64 k ∧ Hid (c = cntF L k) ∧ c ≤ k ∧ k ≤ L.length ∧ wr.cell? ⟨B0, 0, none⟩ = some (.slice (some ⟨r, 0, none⟩) l.length cp) ∧ wr.cell? ⟨B1, 0, none⟩ = some (.int .i64 ax) ∧ wr.cell? ⟨B1, 1, none⟩ = some (.int .i64 ay) ∧ wr.cell? ⟨B1, 2, none⟩ = some (.int .i64 bx) ∧ wr.cell? ⟨B1, 3, none⟩ = some (.int .i64 cy) ∧ B0 < wr.heap.size ∧ B1 < wr.heap.size ∧ Hid (FixAt wr (some ⟨r, 0, none⟩) l) ∧ Hid (RowAt wr a2 (crFlat L)) ∧ Below w.heap.size w wr) (fun _ v _ => L.length - (intOf v).toNat)
    case atStart => exact ⟨0, 0, rfl, rfl, Lib.hid rfl, Nat.le_refl _, Nat.zero_le _, b00, b10, b11, b12, b13, L0, L1, FV, R2, HD⟩
    case round =>
      clear b00 b10 b11 b12 b13 L0 L1 FV R2 HD
      obtain ⟨k, c, rfl, rfl, hc, hck, hle, b00, b10, b11, b12, b13, L0, L1, FV, R2, HD⟩ := hrel
      by_cases hk : k < L.length
      case neg =>
        have hk1 : ¬ (k : Int) < (L.length : Int) := by omega
        obtain rfl : k = L.length := by omega
        have C6 := C3.out
        rw [← hc.out] at C6
        replace C6 := Lib.hid C6
        clear C3 hc
        have i1 : IntKind.i64.wrap ((c : Int) + ((L.length : Int) - (c : Int))) = (L.length : Int) := by rw [IntKind.wrap_i64]; omega
        go_wp2_with fail
        refine (C6.out _ FV.out).mono ?_
        rintro e U4 ⟨rfl, hb⟩
        replace HD := HD.trans (hb.mono HD.size)
        obtain ⟨hc, hf⟩ := bcell hb
        have hz := hb.size
        replace b00 := (hc _ 0 L0).trans b00
        replace b10 := (hc _ 0 L1).trans b10
        replace b11 := (hc _ 1 L1).trans b11
        replace b12 := (hc _ 2 L1).trans b12
        replace b13 := (hc _ 3 L1).trans b13
        replace FV := Lib.hid (FixAt.below FV.out hb)
        replace R2 := Lib.hid (RowAt.below R2.out hb)
        replace L0 := Nat.lt_of_lt_of_le L0 hz
        replace L1 := Nat.lt_of_lt_of_le L1 hz
        clear hc hf hz hb
        go_wp2_with fail
        go_ret
        exact ⟨rfl, HD⟩
      case pos =>
        have hk1 : (k : Int) < (L.length : Int) := by omega
        obtain ⟨b2, off2, rfl, hlt2, d0, d1, d2, _, _⟩ := row_cell' R2.out hk
        obtain ⟨K, hK, hleg, hway, ht0, ht1⟩ := KL.out k hk
        obtain ⟨px, py, hpt⟩ := KP.out k hk
        have hcnt : (0 < (cr L k).way → c + 1 = cntF L (k + 1)) ∧ (¬ 0 < (cr L k).way → c = cntF L (k + 1)) := ⟨fun h => by rw [cntF_yes h, hc.out], fun h => by rw [cntF_no h, hc.out]⟩
        replace hcnt := Lib.hid hcnt
        have hso : ∀ j : Nat, j + 1 = k → (cr L j).leg < (K : Int) := fun j e => by have h1 := KS.out j (by omega); rw [e, hleg] at h1; exact h1
        replace hso := Lib.hid hso
        rw [hleg] at d1
        clear hleg
        generalize cr L k = x at *
        obtain ⟨xt, xl, xw, xn, xd⟩ := x
        simp only at d0 d2 hway ht0 ht1 hcnt
        obtain ⟨c0, c1, c2, LR⟩ := fixC FV.out (show K < l.length by omega)
        obtain ⟨e0, e1, e2, _⟩ := fixC FV.out hK
        have i1 : (K : Int) < (l.length : Int) := by omega
        have i2 : (K : Int) + 1 < (l.length : Int) := by omega
        have i3 : IntKind.i64.wrap ((K : Int) + 1) = (K : Int) + 1 := by rw [IntKind.wrap_i64]; omega
        have i4 : (0 : Int) ≤ (K : Int) + 1 := by omega
        go_wp2_with fail
        go_cut [11, 12] (fun s11 s12 wx => ∃ g0 g1 : Nat, s11 = .pointer (some ⟨g0, 0, none⟩) ∧ s12 = .pointer (some ⟨g1, 0, none⟩) ∧ wx.cell? ⟨g0, 0, none⟩ = some (.int .i64 (fx l K).t) ∧ wx.cell? ⟨g0, 1, none⟩ = some (.int .i64 (fx l K).x) ∧ wx.cell? ⟨g0, 2, none⟩ = some (.int .i64 (fx l K).y) ∧ wx.cell? ⟨g1, 0, none⟩ = some (.int .i64 (fx l (K + 1)).t) ∧ wx.cell? ⟨g1, 1, none⟩ = some (.int .i64 (fx l (K + 1)).x) ∧ wx.cell? ⟨g1, 2, none⟩ = some (.int .i64 (fx l (K + 1)).y) ∧ g0 < wx.heap.size ∧ g1 < wx.heap.size ∧ Below wr.heap.size wr wx)
        case first =>
          go_region_held3 (fun wx => Below wr.heap.size wr wx ∧ ∀ b o, b < wr.heap.size → wx.cell? ⟨b, o, none⟩ = wr.cell? ⟨b, o, none⟩)
            (first | with_reducible exact held_step (by assumption) hb | with_reducible exact held_alloc (by assumption) _ | exact held_of (by repeat (first | with_reducible exact Below.refl _ _ | with_reducible assumption | with_reducible refine Below.drew ?_ | with_reducible refine Below.alloc ?_ (by first | exact Nat.le_refl _ | (simp; done) | (simp; omega) | omega) _ | with_reducible refine Below.setCell ?_ (by first | exact Nat.le_refl _ | (simp; done) | (simp; omega) | omega) _ | with_reducible refine Below.trans ?_ (Below.mono (by with_reducible assumption) (by first | exact Nat.le_refl _ | (simp; done) | (simp; omega) | omega)))))
            (first | fail)
          all_goals (go_wp2_with fail; go_meet; exact ⟨_, _, rfl, rfl, (by go_light; go_simp), (by go_light; go_simp), (by go_light; go_simp), (by go_light; go_simp), (by go_light; go_simp), (by go_light; go_simp), (by go_light; first | (simp; done) | (simp; omega) | omega), (by go_light; first | (simp; done) | (simp; omega) | omega), (held_of (by with_reducible exact And.left (by with_reducible assumption))).1⟩)
        case rest =>
          obtain ⟨C21, C22, rfl, rfl, k210, k211, k212, k220, k221, k222, K21, K22, hb⟩ := hcut
          obtain ⟨U4, rfl⟩ : ∃ x : World, x = wc := ⟨_, rfl⟩
          replace HD := HD.trans (hb.mono HD.size)
          obtain ⟨hc, hf⟩ := bcell hb
          have hz := hb.size
          replace b00 := (hc _ 0 L0).trans b00
          replace b10 := (hc _ 0 L1).trans b10
          replace b11 := (hc _ 1 L1).trans b11
          replace b12 := (hc _ 2 L1).trans b12
          replace b13 := (hc _ 3 L1).trans b13
          replace d0 := (hc _ (off2 + k * 5) hlt2).trans d0
          replace d1 := (hc _ (off2 + k * 5 + 1) hlt2).trans d1
          replace d2 := (hc _ (off2 + k * 5 + 2) hlt2).trans d2
          replace FV := Lib.hid (FixAt.below FV.out hb)
          replace R2 := Lib.hid (RowAt.below R2.out hb)
          replace L0 := Nat.lt_of_lt_of_le L0 hz
          replace L1 := Nat.lt_of_lt_of_le L1 hz
          replace hlt2 := Nat.lt_of_lt_of_le hlt2 hz
          clear hc hf hz hb
          clear c0 c1 c2 e0 e1 e2 LR i1 i2 i3 i4
          have C6 := Lib.hid (hway ▸ C5.out (fx l K).x (fx l K).y (fx l (K + 1)).x (fx l (K + 1)).y)
          have C7 := Lib.hid (fun W h => hpt ▸ C4.out (k : Int) W h)
          clear hway hpt
          generalize fx l K = fa at *
          generalize fx l (K + 1) = fb at *
          go_wp2_with fail
          refine (C6.out _).mono ?_
          rintro e U5 ⟨rfl, hb⟩
          replace HD := HD.trans (hb.mono HD.size)
          obtain ⟨hc, hf⟩ := bcell hb
          have hz := hb.size
          replace b00 := (hc _ 0 L0).trans b00
          replace b10 := (hc _ 0 L1).trans b10
          replace b11 := (hc _ 1 L1).trans b11
          replace b12 := (hc _ 2 L1).trans b12
          replace b13 := (hc _ 3 L1).trans b13
          replace d0 := (hc _ (off2 + k * 5) hlt2).trans d0
          replace d1 := (hc _ (off2 + k * 5 + 1) hlt2).trans d1
          replace d2 := (hc _ (off2 + k * 5 + 2) hlt2).trans d2
          replace k210 := (hc _ 0 K21).trans k210
          replace k211 := (hc _ 1 K21).trans k211
          replace k212 := (hc _ 2 K21).trans k212
          replace k220 := (hc _ 0 K22).trans k220
          replace k221 := (hc _ 1 K22).trans k221
          replace k222 := (hc _ 2 K22).trans k222
          replace FV := Lib.hid (FixAt.below FV.out hb)
          replace R2 := Lib.hid (RowAt.below R2.out hb)
          replace L0 := Nat.lt_of_lt_of_le L0 hz
          replace L1 := Nat.lt_of_lt_of_le L1 hz
          replace hlt2 := Nat.lt_of_lt_of_le hlt2 hz
          replace K21 := Nat.lt_of_lt_of_le K21 hz
          replace K22 := Nat.lt_of_lt_of_le K22 hz
          clear hc hf hz hb
          have h1 : ¬ xt < fa.t := by omega
          have h2 : ¬ fb.t < xt := by omega
          have i7 : IntKind.i64.wrap ((c : Int) + 1) = (c : Int) + 1 := by rw [IntKind.wrap_i64]; omega
          by_cases hz : k = 0
          case pos =>
            have z1 : ¬ (0 : Int) < (k : Int) := by omega
            have z2 : ¬ 0 < k := by omega
            clear hz
            by_cases hp : 0 < xw
            all_goals go_wp2_with fail
            all_goals
              refine wp_region_later (by kernel_rfl) (by kernel_rfl) ?_
              repeat (first | go_big_quiet_step (fail) | quiet_step (fail))
              refine wpQuiet_nil ?_
              intro _ hw'
              obtain ⟨s9, hw''⟩ := hw'
              subst hw''
              have hb := s9.below
              generalize s9.w = U5b at hb ⊢
              clear s9
              replace HD := HD.trans (hb.mono HD.size)
              obtain ⟨hc, hf⟩ := bcell hb
              have hz := hb.size
              replace b00 := (hc _ 0 L0).trans b00
              replace b10 := (hc _ 0 L1).trans b10
              replace b11 := (hc _ 1 L1).trans b11
              replace b12 := (hc _ 2 L1).trans b12
              replace b13 := (hc _ 3 L1).trans b13
              replace d0 := (hc _ (off2 + k * 5) hlt2).trans d0
              replace d1 := (hc _ (off2 + k * 5 + 1) hlt2).trans d1
              replace d2 := (hc _ (off2 + k * 5 + 2) hlt2).trans d2
              replace k210 := (hc _ 0 K21).trans k210
              replace k211 := (hc _ 1 K21).trans k211
              replace k212 := (hc _ 2 K21).trans k212
              replace k220 := (hc _ 0 K22).trans k220
              replace k221 := (hc _ 1 K22).trans k221
              replace k222 := (hc _ 2 K22).trans k222
              replace FV := Lib.hid (FixAt.below FV.out hb)
              replace R2 := Lib.hid (RowAt.below R2.out hb)
              replace L0 := Nat.lt_of_lt_of_le L0 hz
              replace L1 := Nat.lt_of_lt_of_le L1 hz
              replace hlt2 := Nat.lt_of_lt_of_le hlt2 hz
              replace K21 := Nat.lt_of_lt_of_le K21 hz
              replace K22 := Nat.lt_of_lt_of_le K22 hz
              clear hc hf hz hb
              go_wp2_with fail
              refine (C7.out _ FV.out).mono ?_
              rintro e U6 ⟨rfl, hb⟩
              replace HD := HD.trans (hb.mono HD.size)
              obtain ⟨hc, hf⟩ := bcell hb
              have hz := hb.size
              replace b00 := (hc _ 0 L0).trans b00
              replace b10 := (hc _ 0 L1).trans b10
              replace b11 := (hc _ 1 L1).trans b11
              replace b12 := (hc _ 2 L1).trans b12
              replace b13 := (hc _ 3 L1).trans b13
              replace d0 := (hc _ (off2 + k * 5) hlt2).trans d0
              replace d1 := (hc _ (off2 + k * 5 + 1) hlt2).trans d1
              replace d2 := (hc _ (off2 + k * 5 + 2) hlt2).trans d2
              replace k210 := (hc _ 0 K21).trans k210
              replace k211 := (hc _ 1 K21).trans k211
              replace k212 := (hc _ 2 K21).trans k212
              replace k220 := (hc _ 0 K22).trans k220
              replace k221 := (hc _ 1 K22).trans k221
              replace k222 := (hc _ 2 K22).trans k222
              replace FV := Lib.hid (FixAt.below FV.out hb)
              replace R2 := Lib.hid (RowAt.below R2.out hb)
              replace L0 := Nat.lt_of_lt_of_le L0 hz
              replace L1 := Nat.lt_of_lt_of_le L1 hz
              replace hlt2 := Nat.lt_of_lt_of_le hlt2 hz
              replace K21 := Nat.lt_of_lt_of_le K21 hz
              replace K22 := Nat.lt_of_lt_of_le K22 hz
              clear hc hf hz hb
              go_wp2_with fail
              obtain ⟨P9, hP9⟩ : ∃ x, x = U6.alloc (.cells #[.int .i64 px, .int .i64 py] 35) := ⟨_, rfl⟩
              have hb : Below U6.heap.size U6 P9 := by subst hP9; exact (Below.refl _ _).alloc (Nat.le_refl _) _
              have k310 : P9.cell? ⟨U6.heap.size, 0, none⟩ = some (.int .i64 px) := by subst hP9; simp [go_sem]
              have k311 : P9.cell? ⟨U6.heap.size, 1, none⟩ = some (.int .i64 py) := by subst hP9; simp [go_sem]
              have K31 : U6.heap.size < P9.heap.size := by subst hP9; simp
              have hS31 := Lib.hid (show P9.heap.size = U6.heap.size + 1 by subst hP9; simp)
              rw [← hP9]
              clear hP9
              replace HD := HD.trans (hb.mono HD.size)
              obtain ⟨hc, hf⟩ := bcell hb
              have hz := hb.size
              replace b00 := (hc _ 0 L0).trans b00
              replace b10 := (hc _ 0 L1).trans b10
              replace b11 := (hc _ 1 L1).trans b11
              replace b12 := (hc _ 2 L1).trans b12
              replace b13 := (hc _ 3 L1).trans b13
              replace d0 := (hc _ (off2 + k * 5) hlt2).trans d0
              replace d1 := (hc _ (off2 + k * 5 + 1) hlt2).trans d1
              replace d2 := (hc _ (off2 + k * 5 + 2) hlt2).trans d2
              replace k210 := (hc _ 0 K21).trans k210
              replace k211 := (hc _ 1 K21).trans k211
              replace k212 := (hc _ 2 K21).trans k212
              replace k220 := (hc _ 0 K22).trans k220
              replace k221 := (hc _ 1 K22).trans k221
              replace k222 := (hc _ 2 K22).trans k222
              replace FV := Lib.hid (FixAt.below FV.out hb)
              replace R2 := Lib.hid (RowAt.below R2.out hb)
              replace L0 := Nat.lt_of_lt_of_le L0 hz
              replace L1 := Nat.lt_of_lt_of_le L1 hz
              replace hlt2 := Nat.lt_of_lt_of_le hlt2 hz
              replace K21 := Nat.lt_of_lt_of_le K21 hz
              replace K22 := Nat.lt_of_lt_of_le K22 hz
              clear hc hf hz hb
              obtain ⟨C31, hC31⟩ : ∃ x, x = U6.heap.size := ⟨_, rfl⟩
              rw [← hC31] at k310 k311 K31
              try rw [← hC31]
              replace hC31 := Lib.hid hC31
              first
                | exact ⟨⟨k + 1, c + 1, by simp, by simp, Lib.hid (hcnt.out.1 (by omega)), by omega, by omega, b00, b10, b11, b12, b13, L0, L1, FV, R2, HD⟩, by simp [intOf]; omega⟩
                | exact ⟨⟨k + 1, c, by simp, by simp, Lib.hid (hcnt.out.2 (by omega)), by omega, by omega, b00, b10, b11, b12, b13, L0, L1, FV, R2, HD⟩, by simp [intOf]; omega⟩
          case neg =>
            obtain ⟨j, hj⟩ : ∃ j, j + 1 = k := ⟨k - 1, by omega⟩
            have z1 : (0 : Int) < (k : Int) := by omega
            have z2 : 0 < k := by omega
            have hj1 : (j : Int) < (L.length : Int) := by omega
            have i5 : IntKind.i64.wrap ((k : Int) - 1) = (j : Int) := by rw [IntKind.wrap_i64]; omega
            obtain ⟨b3, off3, hbe, _, _, f1, _, _, _⟩ := row_cell' R2.out (show j < L.length by omega)
            simp only [Option.some.injEq, Addr.mk.injEq, and_true] at hbe
            obtain ⟨rfl, rfl⟩ := hbe
            have hs1 := hso.out j hj
            generalize (cr L j).leg = lg at *
            have h3 : ¬ (K : Int) ≤ lg := by omega
            clear hz hs1
            replace hj := Lib.hid hj
            by_cases hp : 0 < xw
            all_goals go_wp2_with fail
            all_goals
              refine wp_region_later (by kernel_rfl) (by kernel_rfl) ?_
              repeat (first | go_big_quiet_step (fail) | quiet_step (fail))
              refine wpQuiet_nil ?_
              intro _ hw'
              obtain ⟨s9, hw''⟩ := hw'
              subst hw''
              have hb := s9.below
              generalize s9.w = U5b at hb ⊢
              clear s9
              replace HD := HD.trans (hb.mono HD.size)
              obtain ⟨hc, hf⟩ := bcell hb
              have hz := hb.size
              replace b00 := (hc _ 0 L0).trans b00
              replace b10 := (hc _ 0 L1).trans b10
              replace b11 := (hc _ 1 L1).trans b11
              replace b12 := (hc _ 2 L1).trans b12
              replace b13 := (hc _ 3 L1).trans b13
              replace d0 := (hc _ (off2 + k * 5) hlt2).trans d0
              replace d1 := (hc _ (off2 + k * 5 + 1) hlt2).trans d1
              replace d2 := (hc _ (off2 + k * 5 + 2) hlt2).trans d2
              replace k210 := (hc _ 0 K21).trans k210
              replace k211 := (hc _ 1 K21).trans k211
              replace k212 := (hc _ 2 K21).trans k212
              replace k220 := (hc _ 0 K22).trans k220
              replace k221 := (hc _ 1 K22).trans k221
              replace k222 := (hc _ 2 K22).trans k222
              replace FV := Lib.hid (FixAt.below FV.out hb)
              replace R2 := Lib.hid (RowAt.below R2.out hb)
              replace L0 := Nat.lt_of_lt_of_le L0 hz
              replace L1 := Nat.lt_of_lt_of_le L1 hz
              replace hlt2 := Nat.lt_of_lt_of_le hlt2 hz
              replace K21 := Nat.lt_of_lt_of_le K21 hz
              replace K22 := Nat.lt_of_lt_of_le K22 hz
              clear hc hf hz hb
              go_wp2_with fail
              refine (C7.out _ FV.out).mono ?_
              rintro e U6 ⟨rfl, hb⟩
              replace HD := HD.trans (hb.mono HD.size)
              obtain ⟨hc, hf⟩ := bcell hb
              have hz := hb.size
              replace b00 := (hc _ 0 L0).trans b00
              replace b10 := (hc _ 0 L1).trans b10
              replace b11 := (hc _ 1 L1).trans b11
              replace b12 := (hc _ 2 L1).trans b12
              replace b13 := (hc _ 3 L1).trans b13
              replace d0 := (hc _ (off2 + k * 5) hlt2).trans d0
              replace d1 := (hc _ (off2 + k * 5 + 1) hlt2).trans d1
              replace d2 := (hc _ (off2 + k * 5 + 2) hlt2).trans d2
              replace k210 := (hc _ 0 K21).trans k210
              replace k211 := (hc _ 1 K21).trans k211
              replace k212 := (hc _ 2 K21).trans k212
              replace k220 := (hc _ 0 K22).trans k220
              replace k221 := (hc _ 1 K22).trans k221
              replace k222 := (hc _ 2 K22).trans k222
              replace FV := Lib.hid (FixAt.below FV.out hb)
              replace R2 := Lib.hid (RowAt.below R2.out hb)
              replace L0 := Nat.lt_of_lt_of_le L0 hz
              replace L1 := Nat.lt_of_lt_of_le L1 hz
              replace hlt2 := Nat.lt_of_lt_of_le hlt2 hz
              replace K21 := Nat.lt_of_lt_of_le K21 hz
              replace K22 := Nat.lt_of_lt_of_le K22 hz
              clear hc hf hz hb
              go_wp2_with fail
              obtain ⟨P9, hP9⟩ : ∃ x, x = U6.alloc (.cells #[.int .i64 px, .int .i64 py] 35) := ⟨_, rfl⟩
              have hb : Below U6.heap.size U6 P9 := by subst hP9; exact (Below.refl _ _).alloc (Nat.le_refl _) _
              have k310 : P9.cell? ⟨U6.heap.size, 0, none⟩ = some (.int .i64 px) := by subst hP9; simp [go_sem]
              have k311 : P9.cell? ⟨U6.heap.size, 1, none⟩ = some (.int .i64 py) := by subst hP9; simp [go_sem]
              have K31 : U6.heap.size < P9.heap.size := by subst hP9; simp
              have hS31 := Lib.hid (show P9.heap.size = U6.heap.size + 1 by subst hP9; simp)
              rw [← hP9]
              clear hP9
              replace HD := HD.trans (hb.mono HD.size)
              obtain ⟨hc, hf⟩ := bcell hb
              have hz := hb.size
              replace b00 := (hc _ 0 L0).trans b00
              replace b10 := (hc _ 0 L1).trans b10
              replace b11 := (hc _ 1 L1).trans b11
              replace b12 := (hc _ 2 L1).trans b12
              replace b13 := (hc _ 3 L1).trans b13
              replace d0 := (hc _ (off2 + k * 5) hlt2).trans d0
              replace d1 := (hc _ (off2 + k * 5 + 1) hlt2).trans d1
              replace d2 := (hc _ (off2 + k * 5 + 2) hlt2).trans d2
              replace k210 := (hc _ 0 K21).trans k210
              replace k211 := (hc _ 1 K21).trans k211
              replace k212 := (hc _ 2 K21).trans k212
              replace k220 := (hc _ 0 K22).trans k220
              replace k221 := (hc _ 1 K22).trans k221
              replace k222 := (hc _ 2 K22).trans k222
              replace FV := Lib.hid (FixAt.below FV.out hb)
              replace R2 := Lib.hid (RowAt.below R2.out hb)
              replace L0 := Nat.lt_of_lt_of_le L0 hz
              replace L1 := Nat.lt_of_lt_of_le L1 hz
              replace hlt2 := Nat.lt_of_lt_of_le hlt2 hz
              replace K21 := Nat.lt_of_lt_of_le K21 hz
              replace K22 := Nat.lt_of_lt_of_le K22 hz
              clear hc hf hz hb
              obtain ⟨C31, hC31⟩ : ∃ x, x = U6.heap.size := ⟨_, rfl⟩
              rw [← hC31] at k310 k311 K31
              try rw [← hC31]
              replace hC31 := Lib.hid hC31
              first
                | exact ⟨⟨k + 1, c + 1, by simp, by simp, Lib.hid (hcnt.out.1 (by omega)), by omega, by omega, b00, b10, b11, b12, b13, L0, L1, FV, R2, HD⟩, by simp [intOf]; omega⟩
                | exact ⟨⟨k + 1, c, by simp, by simp, Lib.hid (hcnt.out.2 (by omega)), by omega, by omega, b00, b10, b11, b12, b13, L0, L1, FV, R2, HD⟩, by simp [intOf]; omega⟩

theorem own : ownKnob Try.prog.godebug = none := by kernel_rfl
theorem laidOut : laidOutB Try.prog = true := by kernel_rfl
set_option maxRecDepth 100000 in
theorem lifted (os : Os) (started : os.Started) (H : Type) (enc : TypeId × Value → H) :
    ReturnsInHanded {} Try.checked os 12 .any (Rows.fnCrossingsSpec.pre6 enc Try.prog Try.f12 Rows.fnCrossingsRow.domain false) (Rows.fnCrossingsSpec.post enc Try.prog Try.f12 false true false false) := by
  refine returnsInHanded_of_change (C := Try.checked) own started (by kernel_rfl) Try.func12
    (ChangeSpec.witness6 (enc := enc) (C := Try.checked) false ⟨#[], #[.slice none 0 0], []⟩ 8 (by kernel_rfl) (by kernel_rfl) (by kernel_rfl) (by kernel_rfl)) ?_
  intro W base args ds gs before hval0 hW hcnd _
  have hval : ∀ (j : Nat) t v, Try.f12.params[j]? = some t → args[j]? = some v → Value.okWide Try.prog W .any base t v := hval0
  have hW' := hW
  obtain ⟨p, q, hA0, hV, rfl, hfz, hnd⟩ := hW
  have hA : DataW.TrodAll enc Try.prog W 0 (fun _ => true) true Try.f12.params.toList args.toList ds p := hA0
  rw [Try.params12] at hA hval
  obtain ⟨v0, vs0, d0, ds0, p0, q0, hargs, rfl, rfl, h0, r0⟩ := trodAll_cons hA
  obtain ⟨rfl, rfl, rfl⟩ := trodAll_nil r0
  obtain rfl : args = #[v0] := by cases args; simp_all
  obtain ⟨rfl, rfl⟩ := trodVars_none hV
  have k0 := h0
  have lt0 : ∀ x ∈ p0, x.block < W.heap.size := by obtain ⟨m, hm⟩ := k0; exact DataW.trod_lt m _ _ _ hm
  obtain ⟨⟨a0, cap0⟩, n0, rfl, w0⟩ := open_bytes Try.underlying22 Try.underlying5 (by kernel_rfl) (hval 0 22 v0 rfl rfl) h0
  clear hA0 hval0
  refine (walk a0 cap0 n0 W w0).mono fun e W' ⟨he, bel⟩ => ?_
  subst he
  exact ⟨_, rfl, _, _, _, [], _, [], hW', trodAll_mk1 (shut_bool Try.underlying4 _), (trodAll_cons_mk (Below.trod laidOut (by kernel_rfl) (of_decide_eq_true (by kernel_rfl)) k0 bel lt0) trodAll_mk0), rfl, bel.frame _, fun h => by cases h⟩

theorem over : Rows.fnCrossingsRow.holds Try.pinned (OpenSpec.ofChange Rows.fnCrossingsSpec) :=
  OpenClaim.holds_of_wide 12 Try.f12 rfl rfl rfl rfl rfl rfl rfl ⟨rfl, rfl, rfl, rfl, rfl⟩ rfl rfl rfl rfl rfl (by kernel_rfl) Try.func12 (by kernel_rfl)
    (of_decide_eq_true (by kernel_rfl)) (by unfold Func.isWrapper; first | (rw [if_pos (by decide +kernel)]; kernel_rfl) | (rw [if_neg (by decide +kernel)]; exact ⟨rfl, rfl⟩))
    (fun os started H enc _ => lifted os started H enc)

/-- The statement. -/
theorem proved : Rows.FnCrossingsSaid := over
end Go.Proofs.Ytdepdkpehbkcjaa.fnCrossings
