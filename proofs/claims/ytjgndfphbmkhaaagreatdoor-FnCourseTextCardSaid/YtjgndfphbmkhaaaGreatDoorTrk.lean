/-
  Tracks as lists of fixes: how they lie in memory, and what the plain functions on them say. No condition; the program is not named.
-/
import Derived.Test.YtjgndfphbmkhaaaGreatDoorHeld
import Derived.Test.YtjgndfphbmkhaaaGreatDoorPlain2
import Derived.Laws.AppendOwn
import Derived.Laws.OwnMore
import Derived.OwnWalk
namespace Go.Proofs.YtjgndfphbmkhaaaGreatDoor
set_option linter.unusedVariables false
open Go.RowKit Go.Deep Go.ChangeShapes Go.WideShapes

structure Fx where
  t : Int
  x : Int
  y : Int
def fx (l : List Fx) (i : Nat) : Fx := l.getD i ⟨0, 0, 0⟩
theorem fx_of {l : List Fx} {i : Nat} (h : i < l.length) : l[i]? = some (fx l i) := by
  unfold fx
  rw [List.getD_eq_getElem?_getD, List.getElem?_eq_getElem h]; rfl
def flat : List Fx → List Value
  | [] => []
  | f :: l => .int .i64 f.t :: .int .i64 f.x :: .int .i64 f.y :: flat l
theorem flat_length : ∀ l : List Fx, (flat l).length = l.length * 3
  | [] => rfl
  | f :: l => by simp [flat, flat_length l]; omega
theorem flat_append : ∀ a b : List Fx, flat (a ++ b) = flat a ++ flat b
  | [], b => rfl
  | f :: a, b => by simp [flat, flat_append a b]
theorem flat_get : ∀ (l : List Fx) (i : Nat) (f : Fx), l[i]? = some f → (flat l)[i * 3]? = some (.int .i64 f.t) ∧ (flat l)[i * 3 + 1]? = some (.int .i64 f.x) ∧ (flat l)[i * 3 + 2]? = some (.int .i64 f.y)
  | [], i, f, h => by simp at h
  | g :: l, 0, f, h => by simp at h; subst h; simp [flat]
  | g :: l, i + 1, f, h => by
    have := flat_get l i f (by simpa using h)
    rw [show (i + 1) * 3 = i * 3 + 1 + 1 + 1 by omega]
    simpa [flat] using this

/-- a slice of fixes, as it lies in a world -/
def FixAt (w : World) (a : Option Addr) (l : List Fx) : Prop :=
  ∀ i f, l[i]? = some f → ∃ b off, a = some ⟨b, off, none⟩ ∧ b < w.heap.size ∧ w.cell? ⟨b, off + i * 3, none⟩ = some (.int .i64 f.t) ∧ w.cell? ⟨b, off + i * 3 + 1, none⟩ = some (.int .i64 f.x) ∧ w.cell? ⟨b, off + i * 3 + 2, none⟩ = some (.int .i64 f.y)
theorem FixAt.below {w w' : World} {a : Option Addr} {l : List Fx} (h : FixAt w a l) (hb : Below w.heap.size w w') : FixAt w' a l := fun i f hf => by
  obtain ⟨b, off, ha, hlt, h0, h1, h2⟩ := h i f hf
  exact ⟨b, off, ha, Nat.lt_of_lt_of_le hlt hb.size, (hb.cell (p := ⟨b, _, none⟩) hlt).trans h0, (hb.cell (p := ⟨b, _, none⟩) hlt).trans h1, (hb.cell (p := ⟨b, _, none⟩) hlt).trans h2⟩
theorem FixAt.belowN {N : Nat} {w w' : World} {a : Option Addr} {l : List Fx} (h : FixAt w a l) (hN : w.heap.size ≤ N) (hb : Below N w w') : FixAt w' a l := h.below (hb.mono hN)
theorem FixAt.head {w : World} {a : Option Addr} {l : List Fx} (h : FixAt w a l) (hl : 0 < l.length) : ∃ b off, a = some ⟨b, off, none⟩ ∧ b < w.heap.size ∧
    ∀ i, i < l.length → w.cell? ⟨b, off + i * 3, none⟩ = some (.int .i64 (fx l i).t) ∧ w.cell? ⟨b, off + i * 3 + 1, none⟩ = some (.int .i64 (fx l i).x) ∧ w.cell? ⟨b, off + i * 3 + 2, none⟩ = some (.int .i64 (fx l i).y) := by
  obtain ⟨b, off, ha, hlt, _⟩ := h 0 _ (fx_of hl)
  refine ⟨b, off, ha, hlt, fun i hi => ?_⟩
  obtain ⟨b', off', ha', _, h0, h1, h2⟩ := h i _ (fx_of hi)
  rw [ha] at ha'
  simp at ha'
  obtain ⟨rfl, rfl⟩ := ha'
  exact ⟨h0, h1, h2⟩
/-- a block that holds just these fixes -/
def FixBlk (w : World) (g : Nat) (T : TypeId) (l : List Fx) : Prop := w.heap[g]? = some (.cells (flat l).toArray T (0, 0))
theorem FixBlk.at {w : World} {g : Nat} {T : TypeId} {l : List Fx} (h : FixBlk w g T l) : FixAt w (some ⟨g, 0, none⟩) l := fun i f hf => by
  have hlt : g < w.heap.size := by
    rcases Nat.lt_or_ge g w.heap.size with h' | h'
    · exact h'
    · unfold FixBlk at h; rw [Array.getElem?_eq_none h'] at h; cases h
  have hc : ∀ j, w.cell? ⟨g, j, none⟩ = (flat l)[j]? := fun j => by
    unfold FixBlk at h
    simp [World.cell?, h]
  obtain ⟨h0, h1, h2⟩ := flat_get l i f hf
  refine ⟨g, 0, rfl, hlt, ?_, ?_, ?_⟩
  · rw [hc, Nat.zero_add]; exact h0
  · rw [hc, Nat.zero_add]; exact h1
  · rw [hc, Nat.zero_add]; exact h2
theorem FixBlk.lt {w : World} {g : Nat} {T : TypeId} {l : List Fx} (h : FixBlk w g T l) : g < w.heap.size := by
  rcases Nat.lt_or_ge g w.heap.size with h' | h'
  · exact h'
  · unfold FixBlk at h; rw [Array.getElem?_eq_none h'] at h; cases h
theorem FixBlk.below {w w' : World} {g : Nat} {T : TypeId} {l : List Fx} (h : FixBlk w g T l) (hb : Below w.heap.size w w') : FixBlk w' g T l := (hb.block g h.lt).trans h

theorem ownsRow_below {w w' : World} {base size n : Nat} {e : TypeId} {v : Value} {xs : List Value} (h : w.ownsRow base e size v n xs) (hb : Below w.heap.size w w') : w'.ownsRow base e size v n xs := by
  obtain ⟨h1, h2⟩ := h
  refine ⟨h1, ?_⟩
  rcases h2 with h2 | ⟨g, cap, cur, hv, hg, hh, r⟩
  · exact .inl h2
  · refine .inr ⟨g, cap, cur, hv, hg, ?_, r⟩
    have hlt : g < w.heap.size := by
      rcases Nat.lt_or_ge g w.heap.size with h' | h'
      · exact h'
      · rw [Array.getElem?_eq_none h'] at hh; cases hh
    exact (hb.block g hlt).trans hh
theorem fixBlk_of_own {w : World} {base g : Nat} {T : TypeId} {l : List Fx} (h : w.ownsRow base T 3 (.slice (some ⟨g, 0, none⟩) l.length l.length) l.length (flat l)) : FixBlk w g T l := by
  obtain ⟨h1, h2⟩ := h
  rcases h2 with ⟨h2, _⟩ | ⟨g', cap, cur, hv, hg, hh, _, _, hs, ht⟩
  · simp at h2
  · simp at hv
    obtain ⟨rfl, rfl⟩ := hv
    unfold FixBlk
    rw [hh, ← ht, List.take_of_length_le (by simp; omega)]

/-- the row of fixes after k of them have been filled in -/
def filled (l : List Fx) (k : Nat) : List Value := flat (l.take k) ++ List.replicate ((l.length - k) * 3) (.int .i64 0)
theorem filled_zero (l : List Fx) : filled l 0 = List.replicate (l.length * 3) (.int .i64 0) := by simp [filled, flat]
theorem filled_all (l : List Fx) : filled l l.length = flat l := by simp [filled]
theorem filled_get {l : List Fx} {k : Nat} (h : k < l.length) : (filled l k)[k * 3]? = some (.int .i64 0) ∧ (filled l k)[k * 3 + 1]? = some (.int .i64 0) ∧ (filled l k)[k * 3 + 2]? = some (.int .i64 0) := by
  have hl : (flat (l.take k)).length = k * 3 := by rw [flat_length, List.length_take, Nat.min_eq_left (Nat.le_of_lt h)]
  unfold filled
  refine ⟨?_, ?_, ?_⟩
  all_goals
    rw [List.getElem?_append_right (by omega), List.getElem?_replicate, if_pos (by omega)]
theorem filled_succ {l : List Fx} {k : Nat} (h : k < l.length) : (((filled l k).set (k * 3) (.int .i64 (fx l k).t)).set (k * 3 + 1) (.int .i64 (fx l k).x)).set (k * 3 + 2) (.int .i64 (fx l k).y) = filled l (k + 1) := by
  have hl : (flat (l.take k)).length = k * 3 := by rw [flat_length, List.length_take, Nat.min_eq_left (Nat.le_of_lt h)]
  have e : l.take (k + 1) = l.take k ++ [fx l k] := by
    rw [List.take_add_one, fx_of h]; rfl
  unfold filled
  rw [e, flat_append, show (l.length - k) * 3 = (l.length - (k + 1)) * 3 + 1 + 1 + 1 by omega]
  generalize flat (l.take k) = p at *
  rw [List.set_append_right _ _ (by omega), List.set_append_right _ _ (by omega), List.set_append_right _ _ (by omega), hl]
  rw [show k * 3 - k * 3 = 0 by omega, show k * 3 + 1 - k * 3 = 1 by omega, show k * 3 + 2 - k * 3 = 2 by omega, List.append_assoc]
  simp [List.replicate_succ, flat]

/-- is it a track -/
def okAt (l : List Fx) (i : Nat) : Bool := inR (fx l i).t 0 1000000000 && isPt (fx l i).x (fx l i).y && (decide (i = 0) || decide ((fx l (i - 1)).t < (fx l i).t))
def okUpto (l : List Fx) : Nat → Bool
  | 0 => true
  | n + 1 => okUpto l n && okAt l n
theorem okUpto_lt {l : List Fx} : ∀ {n : Nat}, okUpto l n = true → ∀ i, i < n → okAt l i = true
  | 0, _, i, h => by omega
  | n + 1, h, i, hi => by
    simp [okUpto] at h
    rcases Nat.lt_or_eq_of_le (Nat.le_of_lt_succ hi) with g | g
    · exact okUpto_lt h.1 i g
    · rw [g]; exact h.2
theorem okUpto_false {l : List Fx} : ∀ {n i : Nat}, okAt l i = false → i < n → okUpto l n = false
  | 0, i, _, hi => by omega
  | n + 1, i, h, hi => by
    simp only [okUpto, Bool.and_eq_false_iff]
    rcases Nat.lt_or_eq_of_le (Nat.le_of_lt_succ hi) with g | g
    · exact .inl (okUpto_false h g)
    · rw [← g]; exact .inr h
def isTrk (l : List Fx) : Bool := decide (2 ≤ l.length) && decide (l.length ≤ 40) && okUpto l l.length
theorem isTrk_true {l : List Fx} (h : isTrk l = true) : 2 ≤ l.length ∧ l.length ≤ 40 ∧ okUpto l l.length = true := by
  simp [isTrk] at h; exact ⟨h.1.1, h.1.2, h.2⟩
theorem isTrk_no {l : List Fx} {i : Nat} (h : okAt l i = false) (hi : i < l.length) : isTrk l = false := by simp [isTrk, okUpto_false h hi]
theorem okAt_1 {l : List Fx} {i : Nat} (h : inR (fx l i).t 0 1000000000 = false) : okAt l i = false := by simp [okAt, h]
theorem okAt_2 {l : List Fx} {i : Nat} (h : isPt (fx l i).x (fx l i).y = false) : okAt l i = false := by simp [okAt, h]
theorem okAt_3 {l : List Fx} {i : Nat} (h0 : 0 < i) (h : (fx l i).t ≤ (fx l (i - 1)).t) : okAt l i = false := by
  simp only [okAt, Bool.and_eq_false_iff, Bool.or_eq_false_iff, decide_eq_false_iff_not]; right; omega
theorem okAt_4 {l : List Fx} {i : Nat} (h1 : inR (fx l i).t 0 1000000000 = true) (h2 : isPt (fx l i).x (fx l i).y = true) (h : i = 0 ∨ (fx l (i - 1)).t < (fx l i).t) : okAt l i = true := by
  simp only [okAt, h1, h2, Bool.true_and, Bool.or_eq_true, decide_eq_true_eq]; exact h
theorem okAt_true {l : List Fx} {i : Nat} (h : okAt l i = true) : 0 ≤ (fx l i).t ∧ (fx l i).t ≤ 1000000000 ∧ isPt (fx l i).x (fx l i).y = true ∧ (i = 0 ∨ (fx l (i - 1)).t < (fx l i).t) := by
  simp only [okAt, Bool.and_eq_true, Bool.or_eq_true, decide_eq_true_eq] at h
  have := inR_true h.1.1
  exact ⟨this.1, this.2, h.1.2, h.2⟩

theorem add_none (b off k : Nat) : (⟨b, off, none⟩ : Addr).add k = ⟨b, off + k, none⟩ := by
  unfold Addr.add
  split
  · simp_all
  · rfl
section
variable {H : Type} {enc : TypeId × Value → H} {P : Program} {w : World} {base : Nat} {spare : Nat → Bool} {held : Bool}
/-- an argument that is a struct with one field, a slice of structs of three int64 -/
theorem open_track {r : Reach} {b0 n : Nat} {t s e : TypeId} {f0 : Field} {fs : Array Field} {v : Value} {d : DataW H} {p : List MemPlace} (hs : P.underlying t = some (.struct #[f0])) (hsl : P.underlying s = some (.slice e)) (hse : P.underlying e = some (.struct fs))
    (hf : (f0.type == s && f0.offset == 0) = true) (hA : allI64 P 3 e = true) (hC : P.cellsOf e = 3) (hC1 : P.cellsOf t = 1 ∧ P.cellsOf s = 1)
    (hv : Value.okWide P w r b0 t v) (h : DataW.Trod enc P w base spare held t v d p) :
    ∃ (a : Option Addr × Nat) (l : List Fx), v = .agg #[.slice a.1 l.length a.2] ∧ l.length ≤ 9223372036854775807 ∧ FixAt w a.1 l := by
  obtain ⟨cs, rfl, hsz⟩ := okWide_struct hs hv
  obtain ⟨l0⟩ := cs
  match l0, hsz.trans hC1.1 with
  | [c0], _ =>
    obtain ⟨fuel, hf'⟩ := h
    obtain ⟨xs, m, _, _, _, hlen, hg⟩ := DataW.trod_struct hs hf'
    simp only [Bool.and_eq_true, beq_iff_eq] at hf
    have h0 := hg 0 f0 rfl
    rw [hf.1, hf.2, hC1.2] at h0
    have hx : xs[0]? = some (xs[0]'(by simp at hlen; omega)) := List.getElem?_eq_getElem _
    rw [hx] at h0
    rcases open_slice hsl (show DataW.trod enc P w base spare held m s [c0] = some _ from by simpa [Value.cells] using h0) with ⟨hcs, _⟩ | ⟨a, len, cap, mm, k, D, Pl, hcs, hb, hl, hm, hmm, _, hi⟩
    · simp at hcs
      exact ⟨(none, 0), [], by simp [hcs], by simp, fun i f hf => by simp at hf⟩
    · simp at hcs
      rcases Nat.eq_zero_or_pos len with hz | hpos
      · exact ⟨(some a, cap), [], by simp [hcs, hz], by simp, fun i f hf => by simp at hf⟩
      obtain ⟨b, off, rfl⟩ : ∃ b off, a = ⟨b, off, none⟩ := by
        obtain ⟨cs', hc, ht⟩ := hi 0 (by rw [hmm]; split <;> omega)
        rw [hC] at hc
        obtain ⟨_, hcl, hat⟩ := World.cells?_some hc
        obtain ⟨b, off, sp⟩ := a
        have q0 := hat 0 (by decide)
        rw [List.getElem?_eq_getElem (by omega)] at q0
        have hsp := World.cell?_spot q0
        simp [Addr.add] at hsp
        exact ⟨b, off, by rw [hsp]⟩
      have hfix : ∀ i, i < len → ∃ f : Fx, ∃ b' off', (⟨b, off, none⟩ : Addr) = ⟨b', off', none⟩ ∧ b < w.heap.size ∧ w.cell? ⟨b, off + i * 3, none⟩ = some (.int .i64 f.t) ∧ w.cell? ⟨b, off + i * 3 + 1, none⟩ = some (.int .i64 f.x) ∧ w.cell? ⟨b, off + i * 3 + 2, none⟩ = some (.int .i64 f.y) := fun i hi' => by
        obtain ⟨cs', hc, ht⟩ := hi i (by rw [hmm]; split <;> omega)
        rw [hC] at hc
        obtain ⟨_, hcl, hat⟩ := World.cells?_some hc
        obtain ⟨ls, hls, _⟩ := list_map_of cs' (allI64_cells 3 e hA _ _ _ ht)
        match ls, hls with
        | [x, y, z], hls =>
          subst hls
          have q0 := hat 0 (by decide)
          have q1 := hat 1 (by decide)
          have q2 := hat 2 (by decide)
          rw [add_none] at q0 q1 q2
          rw [add_none] at q0 q1 q2
          exact ⟨⟨x, y, z⟩, b, off, rfl, World.block_lt_of_cell? w _ q0, q0, q1, q2⟩
        | [], hls => rw [hls] at hcl; simp at hcl
        | [_], hls => rw [hls] at hcl; simp at hcl
        | [_, _], hls => rw [hls] at hcl; simp at hcl
        | _ :: _ :: _ :: _ :: _, hls => rw [hls] at hcl; simp at hcl
      obtain ⟨l, hl1, hl2⟩ : ∃ l : List Fx, l.length = len ∧ ∀ i f, l[i]? = some f → ∃ b' off', (⟨b, off, none⟩ : Addr) = ⟨b', off', none⟩ ∧ b < w.heap.size ∧ w.cell? ⟨b, off + i * 3, none⟩ = some (.int .i64 f.t) ∧ w.cell? ⟨b, off + i * 3 + 1, none⟩ = some (.int .i64 f.x) ∧ w.cell? ⟨b, off + i * 3 + 2, none⟩ = some (.int .i64 f.y) := by
        have key : ∀ n, n ≤ len → ∃ l : List Fx, l.length = n ∧ ∀ i f, l[i]? = some f → ∃ b' off', (⟨b, off, none⟩ : Addr) = ⟨b', off', none⟩ ∧ b < w.heap.size ∧ w.cell? ⟨b, off + i * 3, none⟩ = some (.int .i64 f.t) ∧ w.cell? ⟨b, off + i * 3 + 1, none⟩ = some (.int .i64 f.x) ∧ w.cell? ⟨b, off + i * 3 + 2, none⟩ = some (.int .i64 f.y) := by
          intro n
          induction n with
          | zero => intro _; exact ⟨[], rfl, fun i f hf => by simp at hf⟩
          | succ n ih =>
            intro hn
            obtain ⟨l, hl, hq⟩ := ih (by omega)
            obtain ⟨f, hf⟩ := hfix n (by omega)
            refine ⟨l ++ [f], by simp [hl], fun i g hg => ?_⟩
            rcases Nat.lt_or_ge i n with h1 | h1
            · rw [List.getElem?_append_left (by omega)] at hg; exact hq i g hg
            · have : i < n + 1 := by have := (List.getElem?_eq_some_iff.1 hg).1; simp [hl] at this; omega
              obtain rfl : i = n := by omega
              rw [List.getElem?_append_right (by omega), hl] at hg
              simp at hg
              subst hg
              exact hf
        exact key len (Nat.le_refl _)
      refine ⟨(some ⟨b, off, none⟩, cap), l, by simp [hcs, hl1], by simp [maxLen] at hm; omega, fun i f hf => ?_⟩
      obtain ⟨b', off', ha, r⟩ := hl2 i f hf
      exact ⟨b, off, rfl, r⟩
end
end Go.Proofs.YtjgndfphbmkhaaaGreatDoor
