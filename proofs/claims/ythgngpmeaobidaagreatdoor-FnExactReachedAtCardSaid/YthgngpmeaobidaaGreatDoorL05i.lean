/-
  The first crossing of a line from a time on: the program's and the reference's. Conditions: the cells lie in the world.
-/
import Derived.Test.YthgngpmeaobidaaGreatDoorL05h
namespace Go.Proofs.YthgngpmeaobidaaGreatDoor
set_option linter.unusedVariables false
open Go.RowKit Go.Deep

def firstCr (y f : Int) : List Cr → Option Cr
  | [] => none
  | c :: L => if c.way = y ∧ f ≤ c.t then some c else firstCr y f L
theorem drop_cr {L : List Cr} {k : Nat} (h : k < L.length) : L.drop k = cr L k :: L.drop (k + 1) := by
  rw [List.drop_eq_getElem_cons h]
  congr 1
  have := cr_of h
  rw [List.getElem?_eq_getElem h] at this
  exact Option.some.inj this
def zeroCr : Cr := ⟨0, 0, 0, 0, 0⟩
def firstT (L : List Cr) (y f : Int) : Cr × Bool := match firstCr y f L with | some c => (c, true) | none => (zeroCr, false)
def firstR (l : List Fx) (ax ay bx cy y f : Int) : Cr × Int := if isTrk l = true ∧ isSeg ax ay bx cy = true then (if y = 1 ∨ y = -1 then (if (firstT (crL l ax ay bx cy) y f).2 = true then ((firstT (crL l ax ay bx cy) y f).1, 0) else (zeroCr, 4)) else (zeroCr, 2)) else (zeroCr, 1)
theorem firstT_hit {L : List Cr} {y f : Int} {k : Nat} (h : k < L.length) (hk : firstCr y f (L.drop k) = firstCr y f L) (h1 : (cr L k).way = y) (h2 : f ≤ (cr L k).t) : firstT L y f = (cr L k, true) := by
  unfold firstT
  rw [← hk, drop_cr h, firstCr, if_pos ⟨h1, h2⟩]
theorem first_next {L : List Cr} {y f : Int} {k : Nat} (h : k < L.length) (hk : firstCr y f (L.drop k) = firstCr y f L) (h1 : ¬ ((cr L k).way = y ∧ f ≤ (cr L k).t)) : firstCr y f (L.drop (k + 1)) = firstCr y f L := by
  rw [← hk, drop_cr h, firstCr, if_neg h1]
theorem firstT_none {L : List Cr} {y f : Int} {k : Nat} (h : L.length ≤ k) (hk : firstCr y f (L.drop k) = firstCr y f L) : firstT L y f = (zeroCr, false) := by
  unfold firstT
  rw [← hk, List.drop_eq_nil_of_le h]; rfl
def crV (c : Cr) : Value := .agg #[.int .i64 c.t, .int .i64 c.leg, .int .i64 c.way, .int .i64 c.num, .int .i64 c.den]
theorem own_lt {w wr : World} {g k : Nat} {L : List Cr} (h : RowAt w (some ⟨g, 0, none⟩) (crFlat L)) (hk : k < L.length) (hb : Below w.heap.size w wr) : g < wr.heap.size := by
  obtain ⟨b, off, ha, hlt, _⟩ := h.head (by rw [crFlat_length]; omega)
  simp at ha
  obtain ⟨rfl, rfl⟩ := ha
  exact Nat.lt_of_lt_of_le hlt hb.size
set_option maxRecDepth 100000 in
set_option maxHeartbeats 1000000 in
theorem firstCrossing_c (a : Option Addr) (cap : Nat) (l : List Fx) (ax ay bx cy : Int) (y f : Int) (w : World) (hl : l.length ≤ 4611686018427387904) (e1 : isTrk l = true) (es : isSeg ax ay bx cy = true) (hf : FixAt w a l) : Calls Tryz.prog 57 #[.agg #[.slice a l.length cap], .agg #[.int .i64 ax, .int .i64 ay, .int .i64 bx, .int .i64 cy], .int .i64 y, .int .i64 f] w fun e w' => e = .returned (.tuple #[.agg #[.int .i64 (firstT (crL l ax ay bx cy) y f).1.t, .int .i64 (firstT (crL l ax ay bx cy) y f).1.leg, .int .i64 (firstT (crL l ax ay bx cy) y f).1.way, .int .i64 (firstT (crL l ax ay bx cy) y f).1.num, .int .i64 (firstT (crL l ax ay bx cy) y f).1.den], .bool (firstT (crL l ax ay bx cy) y f).2]) ∧ Below w.heap.size w w' := by
  have hF0 := Lib.hid hf
  clear hf
  go_enter Tryz.func57, Tryz.ntmps57
  go_wp2_with fail
  obtain ⟨W, hW⟩ : ∃ W, W = (((w.alloc (.cells #[.slice a l.length cap] 45)).alloc (.cells #[.int .i64 ax, .int .i64 ay, .int .i64 bx, .int .i64 cy] 38)).alloc (.cells #[.int .i64 0, .int .i64 0, .int .i64 0, .int .i64 0, .int .i64 0] 78)) := ⟨_, rfl⟩
  have HD : Below w.heap.size w W := by subst hW; exact (by repeat (first | with_reducible exact Below.refl _ _ | with_reducible assumption | with_reducible refine Below.drew ?_ | with_reducible refine Below.alloc ?_ (by first | exact Nat.le_refl _ | (simp; done) | (simp; omega) | omega) _ | with_reducible refine Below.setCell ?_ (by first | exact Nat.le_refl _ | (simp; done) | (simp; omega) | omega) _ | with_reducible refine Below.trans ?_ (Below.mono (by with_reducible assumption) (by first | exact Nat.le_refl _ | (simp; done) | (simp; omega) | omega))))
  have b00 : W.cell? ⟨w.heap.size, 0, none⟩ = some (.slice a l.length cap) := by subst hW; simp [go_sem]
  have L0 : w.heap.size < W.heap.size := by subst hW; first | (simp; done) | (simp; omega)
  have b10 : W.cell? ⟨w.heap.size + 1, 0, none⟩ = some (.int .i64 ax) := by subst hW; simp [go_sem]
  have b11 : W.cell? ⟨w.heap.size + 1, 1, none⟩ = some (.int .i64 ay) := by subst hW; simp [go_sem]
  have b12 : W.cell? ⟨w.heap.size + 1, 2, none⟩ = some (.int .i64 bx) := by subst hW; simp [go_sem]
  have b13 : W.cell? ⟨w.heap.size + 1, 3, none⟩ = some (.int .i64 cy) := by subst hW; simp [go_sem]
  have L1 : w.heap.size + 1 < W.heap.size := by subst hW; first | (simp; done) | (simp; omega)
  have b20 : W.cell? ⟨w.heap.size + 1 + 1, 0, none⟩ = some (.int .i64 0) := by subst hW; simp [go_sem]
  have b21 : W.cell? ⟨w.heap.size + 1 + 1, 1, none⟩ = some (.int .i64 0) := by subst hW; simp [go_sem]
  have b22 : W.cell? ⟨w.heap.size + 1 + 1, 2, none⟩ = some (.int .i64 0) := by subst hW; simp [go_sem]
  have b23 : W.cell? ⟨w.heap.size + 1 + 1, 3, none⟩ = some (.int .i64 0) := by subst hW; simp [go_sem]
  have b24 : W.cell? ⟨w.heap.size + 1 + 1, 4, none⟩ = some (.int .i64 0) := by subst hW; simp [go_sem]
  have L2 : w.heap.size + 1 + 1 < W.heap.size := by subst hW; first | (simp; done) | (simp; omega)
  have hRB : w.heap.size ≤ w.heap.size + 1 + 1 := by omega
  have fz : ∀ o, W.frozen? ⟨w.heap.size + 1 + 1, o, none⟩ = false := by subst hW; intro o; simp [go_sem]
  rw [← hW]
  clear hW
  generalize w.heap.size + 1 + 1 = B2 at *
  generalize w.heap.size + 1 = B1 at *
  obtain ⟨B0, hB0⟩ : ∃ B, B = w.heap.size := ⟨_, rfl⟩
  rw [← hB0] at b00 L0
  try rw [← hB0]
  replace hB0 := Lib.hid hB0
  have FV := Lib.hid (FixAt.below hF0.out HD)
  have cc := crossingsOf_c a cap l ax ay bx cy W hl e1 es FV.out
  rw [show crs l ax ay bx cy (l.length - 1) = crL l ax ay bx cy from rfl] at cc
  have hn39 := crL_len (l := l) (ax := ax) (ay := ay) (bx := bx) (cy := cy) e1
  generalize hL : crL l ax ay bx cy = L at *
  have HL := Lib.hid hL
  clear hL
  refine cc.mono ?_
  rintro e V2 ⟨⟨g, cp, rfl, ho, hgg⟩, hb⟩
  have RW := Lib.hid (rowAt_own ho)
  clear ho cc hgg
  replace HD := HD.trans (hb.mono HD.size)
  obtain ⟨hc, hf⟩ := bcell hb
  have hz := hb.size
  replace b00 := (hc _ 0 L0).trans b00
  replace b10 := (hc _ 0 L1).trans b10
  replace b11 := (hc _ 1 L1).trans b11
  replace b12 := (hc _ 2 L1).trans b12
  replace b13 := (hc _ 3 L1).trans b13
  replace b20 := (hc _ 0 L2).trans b20
  replace b21 := (hc _ 1 L2).trans b21
  replace b22 := (hc _ 2 L2).trans b22
  replace b23 := (hc _ 3 L2).trans b23
  replace b24 := (hc _ 4 L2).trans b24
  replace fz := fun o => (hf _ o L2).trans (fz o)
  replace FV := Lib.hid (FixAt.below FV.out hb)
  replace L0 := Nat.lt_of_lt_of_le L0 hz
  replace L1 := Nat.lt_of_lt_of_le L1 hz
  replace L2 := Nat.lt_of_lt_of_le L2 hz
  clear hc hf hz hb
  go_wp2_with fail
  go_loopw [16] (fun i wr => ∃ k : Nat, i = .int .i64 k ∧ k ≤ L.length ∧ Hid (firstCr y f (L.drop k) = firstCr y f L) ∧ Below V2.heap.size V2 wr) (fun i _ => L.length - (intOf i).toNat)
  case atStart => exact ⟨0, rfl, Nat.zero_le _, Lib.hid rfl, Below.refl _ _⟩
  case round =>
    obtain ⟨k, rfl, hk, hq, hbl⟩ := hrel
    have HR : Below w.heap.size w wr := HD.trans (hbl.mono HD.size)
    have hz := hbl.size
    have gz := fun o => (hbl.frozen (p := ⟨B2, o, none⟩) L2).trans (fz o)
    have y0 := (hbl.cell (p := ⟨B2, 0, none⟩) L2).trans b20
    have y1 := (hbl.cell (p := ⟨B2, 1, none⟩) L2).trans b21
    have y2 := (hbl.cell (p := ⟨B2, 2, none⟩) L2).trans b22
    have y3 := (hbl.cell (p := ⟨B2, 3, none⟩) L2).trans b23
    have y4 := (hbl.cell (p := ⟨B2, 4, none⟩) L2).trans b24
    have L2r : B2 < wr.heap.size := Nat.lt_of_lt_of_le L2 hbl.size
    clear b20 b21 b22 b23 b24 fz
    by_cases h : k < L.length
    · obtain ⟨r0, r1, r2, r3, r4⟩ := row_cell (RW.out.below hbl) h
      have hgl := own_lt RW.out h hbl
      have h' : (k : Int) < (L.length : Int) := by omega
      have hN := Lib.hid (fun h1 => first_next h hq.out h1)
      have hT := Lib.hid (fun h1 h2 => firstT_hit h hq.out h1 h2)
      generalize hx : cr L k = x at *
      clear hx
      by_cases h1 : x.way = y
      · by_cases h2 : f ≤ x.t
        · have HT := Lib.hid (hT.out h1 h2)
          have h1' : (x.way == y) = true := by simpa using h1
          go_wp2
          exact bodyPost_ret (v := .tuple #[.agg #[.int .i64 x.t, .int .i64 x.leg, .int .i64 x.way, .int .i64 x.num, .int .i64 x.den], .bool true]) (by simp [results, Tryz.results57, go_sem, *]) rfl ⟨by rw [HL.out, HT.out], (by repeat (first | with_reducible exact Below.refl _ _ | with_reducible assumption | with_reducible refine Below.drew ?_ | with_reducible refine Below.alloc ?_ (by first | exact Nat.le_refl _ | (simp; done) | (simp; omega) | omega) _ | with_reducible refine Below.setCell ?_ (by first | exact Nat.le_refl _ | (simp; done) | (simp; omega) | omega) _ | with_reducible refine Below.trans ?_ (Below.mono (by with_reducible assumption) (by first | exact Nat.le_refl _ | (simp; done) | (simp; omega) | omega))))⟩
        · have HN := Lib.hid (hN.out (fun h => h2 h.2))
          have h1' : (x.way == y) = true := by simpa using h1
          go_wp2
          exact ⟨⟨k + 1, by simp, by omega, HN, (by repeat (first | with_reducible exact Below.refl _ _ | with_reducible assumption | with_reducible refine Below.drew ?_ | with_reducible refine Below.alloc ?_ (by first | exact Nat.le_refl _ | (simp; done) | (simp; omega) | omega) _ | with_reducible refine Below.setCell ?_ (by first | exact Nat.le_refl _ | (simp; done) | (simp; omega) | omega) _ | with_reducible refine Below.trans ?_ (Below.mono (by with_reducible assumption) (by first | exact Nat.le_refl _ | (simp; done) | (simp; omega) | omega))))⟩, by simp [intOf]; omega⟩
      · have HN := Lib.hid (hN.out (fun h => h1 h.1))
        have h1' : (x.way == y) = false := by simpa using h1
        go_wp2
        exact ⟨⟨k + 1, by simp, by omega, HN, (by repeat (first | with_reducible exact Below.refl _ _ | with_reducible assumption | with_reducible refine Below.drew ?_ | with_reducible refine Below.alloc ?_ (by first | exact Nat.le_refl _ | (simp; done) | (simp; omega) | omega) _ | with_reducible refine Below.setCell ?_ (by first | exact Nat.le_refl _ | (simp; done) | (simp; omega) | omega) _ | with_reducible refine Below.trans ?_ (Below.mono (by with_reducible assumption) (by first | exact Nat.le_refl _ | (simp; done) | (simp; omega) | omega))))⟩, by simp [intOf]; omega⟩
    · have h' : (L.length : Int) ≤ (k : Int) := by omega
      have HT := Lib.hid (firstT_none (by omega) hq.out)
      go_wp2
      exact bodyPost_ret (v := .tuple #[.agg #[.int .i64 0, .int .i64 0, .int .i64 0, .int .i64 0, .int .i64 0], .bool false]) (by simp [results, Tryz.results57, go_sem, *]) rfl ⟨by rw [HL.out, HT.out]; rfl, (by repeat (first | with_reducible exact Below.refl _ _ | with_reducible assumption | with_reducible refine Below.drew ?_ | with_reducible refine Below.alloc ?_ (by first | exact Nat.le_refl _ | (simp; done) | (simp; omega) | omega) _ | with_reducible refine Below.setCell ?_ (by first | exact Nat.le_refl _ | (simp; done) | (simp; omega) | omega) _ | with_reducible refine Below.trans ?_ (Below.mono (by with_reducible assumption) (by first | exact Nat.le_refl _ | (simp; done) | (simp; omega) | omega))))⟩
set_option maxRecDepth 100000 in
set_option maxHeartbeats 1000000 in
theorem l05First_c (a : Option Addr) (cap : Nat) (l : List Fx) (ax ay bx cy : Int) (y f : Int) (w : World) (hl : l.length ≤ 4611686018427387904) (e1 : isTrk l = true) (es : isSeg ax ay bx cy = true) (hf : FixAt w a l) : Calls Tryz.prog 32 #[.agg #[.slice a l.length cap], .agg #[.int .i64 ax, .int .i64 ay, .int .i64 bx, .int .i64 cy], .int .i64 y, .int .i64 f] w fun e w' => e = .returned (.tuple #[.agg #[.int .i64 (firstT (crL l ax ay bx cy) y f).1.t, .int .i64 (firstT (crL l ax ay bx cy) y f).1.leg, .int .i64 (firstT (crL l ax ay bx cy) y f).1.way, .int .i64 (firstT (crL l ax ay bx cy) y f).1.num, .int .i64 (firstT (crL l ax ay bx cy) y f).1.den], .bool (firstT (crL l ax ay bx cy) y f).2]) ∧ Below w.heap.size w w' := by
  have hF0 := Lib.hid hf
  clear hf
  go_enter Tryz.func32, Tryz.ntmps32
  go_wp2_with fail
  obtain ⟨W, hW⟩ : ∃ W, W = (((w.alloc (.cells #[.slice a l.length cap] 45)).alloc (.cells #[.int .i64 ax, .int .i64 ay, .int .i64 bx, .int .i64 cy] 38)).alloc (.cells #[.int .i64 0, .int .i64 0, .int .i64 0, .int .i64 0, .int .i64 0] 78)) := ⟨_, rfl⟩
  have HD : Below w.heap.size w W := by subst hW; exact (by repeat (first | with_reducible exact Below.refl _ _ | with_reducible assumption | with_reducible refine Below.drew ?_ | with_reducible refine Below.alloc ?_ (by first | exact Nat.le_refl _ | (simp; done) | (simp; omega) | omega) _ | with_reducible refine Below.setCell ?_ (by first | exact Nat.le_refl _ | (simp; done) | (simp; omega) | omega) _ | with_reducible refine Below.trans ?_ (Below.mono (by with_reducible assumption) (by first | exact Nat.le_refl _ | (simp; done) | (simp; omega) | omega))))
  have b00 : W.cell? ⟨w.heap.size, 0, none⟩ = some (.slice a l.length cap) := by subst hW; simp [go_sem]
  have L0 : w.heap.size < W.heap.size := by subst hW; first | (simp; done) | (simp; omega)
  have b10 : W.cell? ⟨w.heap.size + 1, 0, none⟩ = some (.int .i64 ax) := by subst hW; simp [go_sem]
  have b11 : W.cell? ⟨w.heap.size + 1, 1, none⟩ = some (.int .i64 ay) := by subst hW; simp [go_sem]
  have b12 : W.cell? ⟨w.heap.size + 1, 2, none⟩ = some (.int .i64 bx) := by subst hW; simp [go_sem]
  have b13 : W.cell? ⟨w.heap.size + 1, 3, none⟩ = some (.int .i64 cy) := by subst hW; simp [go_sem]
  have L1 : w.heap.size + 1 < W.heap.size := by subst hW; first | (simp; done) | (simp; omega)
  have b20 : W.cell? ⟨w.heap.size + 1 + 1, 0, none⟩ = some (.int .i64 0) := by subst hW; simp [go_sem]
  have b21 : W.cell? ⟨w.heap.size + 1 + 1, 1, none⟩ = some (.int .i64 0) := by subst hW; simp [go_sem]
  have b22 : W.cell? ⟨w.heap.size + 1 + 1, 2, none⟩ = some (.int .i64 0) := by subst hW; simp [go_sem]
  have b23 : W.cell? ⟨w.heap.size + 1 + 1, 3, none⟩ = some (.int .i64 0) := by subst hW; simp [go_sem]
  have b24 : W.cell? ⟨w.heap.size + 1 + 1, 4, none⟩ = some (.int .i64 0) := by subst hW; simp [go_sem]
  have L2 : w.heap.size + 1 + 1 < W.heap.size := by subst hW; first | (simp; done) | (simp; omega)
  have hRB : w.heap.size ≤ w.heap.size + 1 + 1 := by omega
  have fz : ∀ o, W.frozen? ⟨w.heap.size + 1 + 1, o, none⟩ = false := by subst hW; intro o; simp [go_sem]
  rw [← hW]
  clear hW
  generalize w.heap.size + 1 + 1 = B2 at *
  generalize w.heap.size + 1 = B1 at *
  obtain ⟨B0, hB0⟩ : ∃ B, B = w.heap.size := ⟨_, rfl⟩
  rw [← hB0] at b00 L0
  try rw [← hB0]
  replace hB0 := Lib.hid hB0
  have FV := Lib.hid (FixAt.below hF0.out HD)
  have cc := l05Crossings_c a cap l ax ay bx cy W hl e1 es FV.out
  rw [show crs l ax ay bx cy (l.length - 1) = crL l ax ay bx cy from rfl] at cc
  have hn39 := crL_len (l := l) (ax := ax) (ay := ay) (bx := bx) (cy := cy) e1
  generalize hL : crL l ax ay bx cy = L at *
  have HL := Lib.hid hL
  clear hL
  refine cc.mono ?_
  rintro e V2 ⟨⟨g, cp, rfl, ho, hgg⟩, hb⟩
  have RW := Lib.hid (rowAt_own ho)
  clear ho cc hgg
  replace HD := HD.trans (hb.mono HD.size)
  obtain ⟨hc, hf⟩ := bcell hb
  have hz := hb.size
  replace b00 := (hc _ 0 L0).trans b00
  replace b10 := (hc _ 0 L1).trans b10
  replace b11 := (hc _ 1 L1).trans b11
  replace b12 := (hc _ 2 L1).trans b12
  replace b13 := (hc _ 3 L1).trans b13
  replace b20 := (hc _ 0 L2).trans b20
  replace b21 := (hc _ 1 L2).trans b21
  replace b22 := (hc _ 2 L2).trans b22
  replace b23 := (hc _ 3 L2).trans b23
  replace b24 := (hc _ 4 L2).trans b24
  replace fz := fun o => (hf _ o L2).trans (fz o)
  replace FV := Lib.hid (FixAt.below FV.out hb)
  replace L0 := Nat.lt_of_lt_of_le L0 hz
  replace L1 := Nat.lt_of_lt_of_le L1 hz
  replace L2 := Nat.lt_of_lt_of_le L2 hz
  clear hc hf hz hb
  go_wp2_with fail
  go_loopw [11] (fun i wr => ∃ k : Nat, i = .int .i64 k ∧ k ≤ L.length ∧ Hid (firstCr y f (L.drop k) = firstCr y f L) ∧ Below V2.heap.size V2 wr) (fun i _ => L.length - (intOf i).toNat)
  case atStart => exact ⟨0, rfl, Nat.zero_le _, Lib.hid rfl, Below.refl _ _⟩
  case round =>
    obtain ⟨k, rfl, hk, hq, hbl⟩ := hrel
    have HR : Below w.heap.size w wr := HD.trans (hbl.mono HD.size)
    have hz := hbl.size
    have gz := fun o => (hbl.frozen (p := ⟨B2, o, none⟩) L2).trans (fz o)
    have y0 := (hbl.cell (p := ⟨B2, 0, none⟩) L2).trans b20
    have y1 := (hbl.cell (p := ⟨B2, 1, none⟩) L2).trans b21
    have y2 := (hbl.cell (p := ⟨B2, 2, none⟩) L2).trans b22
    have y3 := (hbl.cell (p := ⟨B2, 3, none⟩) L2).trans b23
    have y4 := (hbl.cell (p := ⟨B2, 4, none⟩) L2).trans b24
    have L2r : B2 < wr.heap.size := Nat.lt_of_lt_of_le L2 hbl.size
    clear b20 b21 b22 b23 b24 fz
    by_cases h : k < L.length
    · obtain ⟨r0, r1, r2, r3, r4⟩ := row_cell (RW.out.below hbl) h
      have hgl := own_lt RW.out h hbl
      have h' : (k : Int) < (L.length : Int) := by omega
      have hN := Lib.hid (fun h1 => first_next h hq.out h1)
      have hT := Lib.hid (fun h1 h2 => firstT_hit h hq.out h1 h2)
      generalize hx : cr L k = x at *
      clear hx
      by_cases h1 : x.way = y
      · by_cases h2 : f ≤ x.t
        · have HT := Lib.hid (hT.out h1 h2)
          have h1' : (x.way == y) = true := by simpa using h1
          go_wp2
          exact bodyPost_ret (v := .tuple #[.agg #[.int .i64 x.t, .int .i64 x.leg, .int .i64 x.way, .int .i64 x.num, .int .i64 x.den], .bool true]) (by simp [results, Tryz.results32, go_sem, *]) rfl ⟨by rw [HL.out, HT.out], (by repeat (first | with_reducible exact Below.refl _ _ | with_reducible assumption | with_reducible refine Below.drew ?_ | with_reducible refine Below.alloc ?_ (by first | exact Nat.le_refl _ | (simp; done) | (simp; omega) | omega) _ | with_reducible refine Below.setCell ?_ (by first | exact Nat.le_refl _ | (simp; done) | (simp; omega) | omega) _ | with_reducible refine Below.trans ?_ (Below.mono (by with_reducible assumption) (by first | exact Nat.le_refl _ | (simp; done) | (simp; omega) | omega))))⟩
        · have HN := Lib.hid (hN.out (fun h => h2 h.2))
          have h1' : (x.way == y) = true := by simpa using h1
          go_wp2
          exact ⟨⟨k + 1, by simp, by omega, HN, (by repeat (first | with_reducible exact Below.refl _ _ | with_reducible assumption | with_reducible refine Below.drew ?_ | with_reducible refine Below.alloc ?_ (by first | exact Nat.le_refl _ | (simp; done) | (simp; omega) | omega) _ | with_reducible refine Below.setCell ?_ (by first | exact Nat.le_refl _ | (simp; done) | (simp; omega) | omega) _ | with_reducible refine Below.trans ?_ (Below.mono (by with_reducible assumption) (by first | exact Nat.le_refl _ | (simp; done) | (simp; omega) | omega))))⟩, by simp [intOf]; omega⟩
      · have HN := Lib.hid (hN.out (fun h => h1 h.1))
        have h1' : (x.way == y) = false := by simpa using h1
        go_wp2
        exact ⟨⟨k + 1, by simp, by omega, HN, (by repeat (first | with_reducible exact Below.refl _ _ | with_reducible assumption | with_reducible refine Below.drew ?_ | with_reducible refine Below.alloc ?_ (by first | exact Nat.le_refl _ | (simp; done) | (simp; omega) | omega) _ | with_reducible refine Below.setCell ?_ (by first | exact Nat.le_refl _ | (simp; done) | (simp; omega) | omega) _ | with_reducible refine Below.trans ?_ (Below.mono (by with_reducible assumption) (by first | exact Nat.le_refl _ | (simp; done) | (simp; omega) | omega))))⟩, by simp [intOf]; omega⟩
    · have h' : (L.length : Int) ≤ (k : Int) := by omega
      have HT := Lib.hid (firstT_none (by omega) hq.out)
      go_wp2
      exact bodyPost_ret (v := .tuple #[.agg #[.int .i64 0, .int .i64 0, .int .i64 0, .int .i64 0, .int .i64 0], .bool false]) (by simp [results, Tryz.results32, go_sem, *]) rfl ⟨by rw [HL.out, HT.out]; rfl, (by repeat (first | with_reducible exact Below.refl _ _ | with_reducible assumption | with_reducible refine Below.drew ?_ | with_reducible refine Below.alloc ?_ (by first | exact Nat.le_refl _ | (simp; done) | (simp; omega) | omega) _ | with_reducible refine Below.setCell ?_ (by first | exact Nat.le_refl _ | (simp; done) | (simp; omega) | omega) _ | with_reducible refine Below.trans ?_ (Below.mono (by with_reducible assumption) (by first | exact Nat.le_refl _ | (simp; done) | (simp; omega) | omega))))⟩
end Go.Proofs.YthgngpmeaobidaaGreatDoor
