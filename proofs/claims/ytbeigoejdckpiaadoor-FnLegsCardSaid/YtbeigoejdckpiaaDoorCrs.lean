/-
  Courses: how an argument of this type lies in memory. No condition.
-/
import Derived.Test.YtbeigoejdckpiaaDoorRow
import Derived.Deep.Slices
namespace Go.Proofs.YtbeigoejdckpiaaDoor
set_option linter.unusedVariables false
open Go.ChangeShapes Go.WideShapes Go.ChangeAt Go.RowKit Go.Deep

/-- a mark -/
structure Mk where
  name : ByteArray
  x : Int
  y : Int
  s : Int
  z : Int
def mflat : List Mk → List Value
  | [] => []
  | m :: l => .string m.name :: .int .i64 m.x :: .int .i64 m.y :: .int .i64 m.s :: .int .i64 m.z :: mflat l
theorem mflat_length : ∀ l : List Mk, (mflat l).length = l.length * 5
  | [] => rfl
  | m :: l => by simp [mflat, mflat_length l]; omega
theorem mflat_append : ∀ a b : List Mk, mflat (a ++ b) = mflat a ++ mflat b
  | [], b => rfl
  | m :: a, b => by simp [mflat, mflat_append a b]
theorem mflat_get : ∀ (l : List Mk) (i : Nat) (m : Mk), l[i]? = some m → (mflat l)[i * 5]? = some (.string m.name) ∧ (mflat l)[i * 5 + 1]? = some (.int .i64 m.x) ∧ (mflat l)[i * 5 + 2]? = some (.int .i64 m.y) ∧ (mflat l)[i * 5 + 3]? = some (.int .i64 m.s) ∧ (mflat l)[i * 5 + 4]? = some (.int .i64 m.z)
  | [], i, m, h => by simp at h
  | c :: l, 0, m, h => by simp at h; subst h; exact ⟨rfl, rfl, rfl, rfl, rfl⟩
  | c :: l, i + 1, m, h => by
    have := mflat_get l i m (by simpa using h)
    rw [show (i + 1) * 5 = i * 5 + 1 + 1 + 1 + 1 + 1 by omega]
    simpa [mflat] using this
def mk (l : List Mk) (i : Nat) : Mk := l.getD i ⟨ByteArray.empty, 0, 0, 0, 0⟩
theorem mk_of {l : List Mk} {i : Nat} (h : i < l.length) : l[i]? = some (mk l i) := by
  unfold mk
  rw [List.getD_eq_getElem?_getD, List.getElem?_eq_getElem h]; rfl

theorem cell_of_row {w : World} (g i : Nat) (cur : Array Value) (e : TypeId) (z : Nat × Nat) (hh : w.heap[g]? = some (.cells cur e)) : w.cell? ⟨g, i, none⟩ = cur[i]? := by
  simp [World.cell?, hh]
theorem mark_cell {w : World} {a : Option Addr} {k : Nat} {l : List Mk} (h : RowAt w a (mflat l)) (hk : k < l.length) : ∃ b off, a = some ⟨b, off, none⟩ ∧ b < w.heap.size ∧ w.cell? ⟨b, off + k * 5, none⟩ = some (.string (mk l k).name) ∧ w.cell? ⟨b, off + k * 5 + 1, none⟩ = some (.int .i64 (mk l k).x) ∧ w.cell? ⟨b, off + k * 5 + 2, none⟩ = some (.int .i64 (mk l k).y) ∧ w.cell? ⟨b, off + k * 5 + 3, none⟩ = some (.int .i64 (mk l k).s) ∧ w.cell? ⟨b, off + k * 5 + 4, none⟩ = some (.int .i64 (mk l k).z) := by
  obtain ⟨f0, f1, f2, f3, f4⟩ := mflat_get l k _ (mk_of hk)
  obtain ⟨b, off, rfl, hlt, hc⟩ := h.head (by rw [mflat_length]; omega)
  exact ⟨b, off, rfl, hlt, hc _ _ f0, hc _ _ f1, hc _ _ f2, hc _ _ f3, hc _ _ f4⟩

theorem add_noneC (b off k : Nat) : (⟨b, off, none⟩ : Addr).add k = ⟨b, off + k, none⟩ := by
  unfold Addr.add
  split
  · simp_all
  · rfl
section
variable {H : Type} {enc : TypeId × Value → H} {w : World} {base : Nat} {spare : Nat → Bool} {held : Bool}
set_option maxRecDepth 100000 in
theorem open_mark {fuel : Nat} {cs : List Value} {x : DataW H × List MemPlace} (h : DataW.trod enc Tryd.prog w base spare held fuel 100 cs = some x) :
    ∃ (s : ByteArray) (a b c e : Int), cs = [.string s, .int .i64 a, .int .i64 b, .int .i64 c, .int .i64 e] ∧ s.size ≤ maxLen := by
  obtain ⟨xs, m, _, _, hlen, hl, hg⟩ := DataW.trod_struct Tryd.underlying100 h
  have c100 : Tryd.prog.cellsOf 100 = 5 := by kernel_rfl
  have c9 : Tryd.prog.cellsOf 9 = 1 := by kernel_rfl
  have c2 : Tryd.prog.cellsOf 2 = 1 := by kernel_rfl
  have c23 : Tryd.prog.cellsOf 23 = 2 := by kernel_rfl
  rw [c100] at hlen
  match cs, hlen with
  | [v0, v1, v2, v3, v4], _ =>
    have h0 := hg 0 _ rfl
    have h1 := hg 1 _ rfl
    have h2 := hg 2 _ rfl
    have h3 := hg 3 _ rfl
    simp at hl
    have e0 : xs[0]? = some (xs[0]'(by omega)) := List.getElem?_eq_getElem _
    have e1 : xs[1]? = some (xs[1]'(by omega)) := List.getElem?_eq_getElem _
    have e2 : xs[2]? = some (xs[2]'(by omega)) := List.getElem?_eq_getElem _
    have e3 : xs[3]? = some (xs[3]'(by omega)) := List.getElem?_eq_getElem _
    rw [e0] at h0
    rw [e1] at h1
    rw [e2] at h2
    rw [e3] at h3
    simp [c9, c2, c23] at h0 h1 h2 h3
    obtain ⟨s, hs, _, hsz⟩ := DataW.trod_string Tryd.underlying9 h0
    obtain ⟨c, hc, _⟩ := DataW.trod_int Tryd.underlying2 h2
    obtain ⟨e, he, _⟩ := DataW.trod_int Tryd.underlying2 h3
    obtain ⟨a, ha, _⟩ := allI64_cells 3 23 (by kernel_rfl) _ _ _ h1 0 _ rfl
    obtain ⟨b, hb, _⟩ := allI64_cells 3 23 (by kernel_rfl) _ _ _ h1 1 _ rfl
    simp at hs hc he
    exact ⟨s, a, b, c, e, by rw [hs, ha, hb, hc, he], hsz⟩
set_option maxRecDepth 100000 in
/-- a course: eight numbers and a slice of marks -/
theorem open_course {r : Reach} {b0 : Nat} {v : Value} {d : DataW H} {p : List MemPlace} (hv : Value.okWide Tryd.prog w r b0 28 v) (h : DataW.Trod enc Tryd.prog w base spare held 28 v d p) :
    ∃ (x0 x1 x2 x3 x4 x5 x6 x7 : Int) (a : Option Addr × Nat) (l : List Mk), v = .agg #[.int .i64 x0, .int .i64 x1, .int .i64 x2, .int .i64 x3, .int .i64 x4, .int .i64 x5, .int .i64 x6, .int .i64 x7, .slice a.1 l.length a.2] ∧ l.length ≤ 9223372036854775807 ∧ RowAt w a.1 (mflat l) ∧ (∀ i, i < l.length → (mk l i).name.size ≤ maxLen) := by
  obtain ⟨cs, rfl, hsz⟩ := okWide_struct Tryd.underlying28 hv
  have cC : Tryd.prog.cellsOf 28 = 9 := by kernel_rfl
  have cM : Tryd.prog.cellsOf 100 = 5 := by kernel_rfl
  have cL : Tryd.prog.cellsOf 25 = 4 := by kernel_rfl
  have cS : Tryd.prog.cellsOf 26 = 1 := by kernel_rfl
  obtain ⟨l0⟩ := cs
  match l0, hsz.trans cC with
  | [v0, v1, v2, v3, v4, v5, v6, v7, v8], _ =>
    obtain ⟨fuel, hf'⟩ := h
    obtain ⟨xs, m, _, _, _, hl, hg⟩ := DataW.trod_struct Tryd.underlying28 hf'
    have h0 := hg 0 _ rfl
    have h1 := hg 1 _ rfl
    have h2 := hg 2 _ rfl
    simp at hl
    have e0 : xs[0]? = some (xs[0]'(by omega)) := List.getElem?_eq_getElem _
    have e1 : xs[1]? = some (xs[1]'(by omega)) := List.getElem?_eq_getElem _
    have e2 : xs[2]? = some (xs[2]'(by omega)) := List.getElem?_eq_getElem _
    rw [e0] at h0
    rw [e1] at h1
    rw [e2] at h2
    simp [cL, cS, Value.cells] at h0 h1 h2
    obtain ⟨x0, q0, _⟩ := allI64_cells 4 25 (by kernel_rfl) _ _ _ h0 0 _ rfl
    obtain ⟨x1, q1, _⟩ := allI64_cells 4 25 (by kernel_rfl) _ _ _ h0 1 _ rfl
    obtain ⟨x2, q2, _⟩ := allI64_cells 4 25 (by kernel_rfl) _ _ _ h0 2 _ rfl
    obtain ⟨x3, q3, _⟩ := allI64_cells 4 25 (by kernel_rfl) _ _ _ h0 3 _ rfl
    obtain ⟨x4, q4, _⟩ := allI64_cells 4 25 (by kernel_rfl) _ _ _ h1 0 _ rfl
    obtain ⟨x5, q5, _⟩ := allI64_cells 4 25 (by kernel_rfl) _ _ _ h1 1 _ rfl
    obtain ⟨x6, q6, _⟩ := allI64_cells 4 25 (by kernel_rfl) _ _ _ h1 2 _ rfl
    obtain ⟨x7, q7, _⟩ := allI64_cells 4 25 (by kernel_rfl) _ _ _ h1 3 _ rfl
    subst q0 q1 q2 q3 q4 q5 q6 q7
    rcases open_slice Tryd.underlying26 h2 with ⟨hcs, _⟩ | ⟨a, len, cap, mm, k, D, Pl, hcs, hb, hl, hm, hmm, _, hi⟩
    · simp at hcs
      exact ⟨x0, x1, x2, x3, x4, x5, x6, x7, (none, 0), [], by simp [hcs], by simp, fun i f hf => by simp [mflat] at hf, fun i hi => by simp at hi⟩
    · simp at hcs
      rcases Nat.eq_zero_or_pos len with hz | hpos
      · exact ⟨x0, x1, x2, x3, x4, x5, x6, x7, (some a, cap), [], by simp [hcs, hz], by simp, fun i f hf => by simp [mflat] at hf, fun i hi => by simp at hi⟩
      obtain ⟨b, off, rfl⟩ : ∃ b off, a = ⟨b, off, none⟩ := by
        obtain ⟨cs', hc, ht⟩ := hi 0 (by rw [hmm]; split <;> omega)
        rw [cM] at hc
        obtain ⟨_, hcl, hat⟩ := World.cells?_some hc
        obtain ⟨b, off, sp⟩ := a
        have q0 := hat 0 (by decide)
        rw [List.getElem?_eq_getElem (by omega)] at q0
        have hsp := World.cell?_spot q0
        simp [Addr.add] at hsp
        exact ⟨b, off, by rw [hsp]⟩
      have hfix : ∀ i, i < len → ∃ f : Mk, f.name.size ≤ maxLen ∧ b < w.heap.size ∧ ∀ j v, (mflat [f])[j]? = some v → w.cell? ⟨b, off + (i * 5 + j), none⟩ = some v := fun i hi' => by
        obtain ⟨cs', hc, ht⟩ := hi i (by rw [hmm]; split <;> omega)
        rw [cM] at hc
        obtain ⟨_, hcl, hat⟩ := World.cells?_some hc
        obtain ⟨s, x, y, z, u, rfl, hsz⟩ := open_mark ht
        have q0 := hat 0 (by decide)
        have q1 := hat 1 (by decide)
        have q2 := hat 2 (by decide)
        have q3 := hat 3 (by decide)
        have q4 := hat 4 (by decide)
        rw [add_noneC] at q0 q1 q2 q3 q4
        rw [add_noneC] at q0 q1 q2 q3 q4
        refine ⟨⟨s, x, y, z, u⟩, hsz, World.block_lt_of_cell? w _ q0, fun j v hv => ?_⟩
        have hj := (List.getElem?_eq_some_iff.1 hv).1
        simp [mflat] at hj
        rw [← Nat.add_assoc]
        match j, hj, hv with
        | 0, _, hv => rw [← hv]; exact q0
        | 1, _, hv => rw [← hv]; exact q1
        | 2, _, hv => rw [← hv]; exact q2
        | 3, _, hv => rw [← hv]; exact q3
        | 4, _, hv => rw [← hv]; exact q4
      have key : ∀ n, n ≤ len → ∃ l : List Mk, l.length = n ∧ (∀ i v, (mflat l)[i]? = some v → b < w.heap.size ∧ w.cell? ⟨b, off + i, none⟩ = some v) ∧ (∀ i, i < l.length → (mk l i).name.size ≤ maxLen) := by
        intro n
        induction n with
        | zero => intro _; exact ⟨[], rfl, fun i f hf => by simp [mflat] at hf, fun i hi => by simp at hi⟩
        | succ n ih =>
          intro hn
          obtain ⟨l, hl, hq, hs⟩ := ih (by omega)
          obtain ⟨f, hf0, hf1, hf2⟩ := hfix n (by omega)
          refine ⟨l ++ [f], by simp [hl], fun i v hv => ?_, fun i hi => ?_⟩
          · rw [mflat_append] at hv
            rcases Nat.lt_or_ge i (mflat l).length with h1 | h1
            · rw [List.getElem?_append_left h1] at hv; exact hq i v hv
            · rw [List.getElem?_append_right h1] at hv
              have := hf2 _ _ hv
              rw [mflat_length, hl] at this h1
              rw [show n * 5 + (i - n * 5) = i by omega] at this
              exact ⟨hf1, this⟩
          · have e := mk_of hi
            rcases Nat.lt_or_ge i l.length with h1 | h1
            · rw [List.getElem?_append_left h1, mk_of h1] at e
              simp at e
              rw [← e]; exact hs i h1
            · rw [List.getElem?_append_right h1] at e
              have : i - l.length = 0 := by simp at hi; omega
              rw [this] at e
              simp at e
              rw [← e]; exact hf0
      obtain ⟨l, hl1, hl2, hl3⟩ := key len (Nat.le_refl _)
      have h9 : maxLen ≤ 9223372036854775807 := by decide
      refine ⟨x0, x1, x2, x3, x4, x5, x6, x7, (some ⟨b, off, none⟩, cap), l, by simp [hcs, hl1], by omega, fun i v hv => ?_, hl3⟩
      obtain ⟨h1, h2⟩ := hl2 i v hv
      exact ⟨b, off, rfl, h1, h2⟩
end
end Go.Proofs.YtbeigoejdckpiaaDoor
