/-
  General lemmas of the prover's own: worlds in which nothing old has changed, a region that draws its order and whose operations read or call functions that only make memory, and arguments that are structs of int64 read as their cells. No condition; no program is named.
-/
import Derived.WalkKit
import Derived.ProofKit
import Derived.Carry
import Derived.OpenShut
import Derived.Deep.Slices
import Derived.Deep.QuietTactic
import Derived.BigQuiet
import Derived.WalkSpells
import Derived.WalkLawsBesides
import Derived.Lib.Hide
namespace Go.Proofs.YtjgndfphbmkhaaaGreatDoor
set_option linter.unusedVariables false
open Go.ChangeShapes Go.WideShapes Go.ChangeAt Go.RowKit Go.Deep

theorem bcell {W w1 : World} (hb : Below W.heap.size W w1) : (∀ b o, b < W.heap.size → w1.cell? ⟨b, o, none⟩ = W.cell? ⟨b, o, none⟩) ∧ (∀ b o, b < W.heap.size → w1.frozen? ⟨b, o, none⟩ = W.frozen? ⟨b, o, none⟩) :=
  ⟨fun b o h => hb.cell (p := ⟨b, o, none⟩) h, fun b o h => hb.frozen (p := ⟨b, o, none⟩) h⟩

theorem below_trans {W X Y : World} (h : Below W.heap.size W X) (k : Below X.heap.size X Y) : Below W.heap.size W Y := h.trans (k.mono h.size)

/-- The worlds that come later than W: nothing that was in W has changed. -/
def Later (W : World) : Type := { w' : World // Below W.heap.size W w' }
def Later.w {W : World} (s : Later W) : World := s.1
theorem Later.below {W : World} (s : Later W) : Below W.heap.size W s.w := s.2
theorem Later.size {W : World} (s : Later W) : W.heap.size ≤ s.w.heap.size := s.2.size
instance instLaterNonempty {W : World} : Nonempty (Later W) := ⟨⟨W, Below.refl _ _⟩⟩
theorem Later.cell {W : World} (s : Later W) (b o : Nat) (h : b < W.heap.size) : s.w.cell? ⟨b, o, none⟩ = W.cell? ⟨b, o, none⟩ := (bcell s.below).1 b o h
theorem Later.frozen {W : World} (s : Later W) (b o : Nat) (h : b < W.heap.size) : s.w.frozen? ⟨b, o, none⟩ = W.frozen? ⟨b, o, none⟩ := (bcell s.below).2 b o h

attribute [go_sem] Later.cell Later.frozen

/-- A region that draws its order, walked once in the text's order: what it reads are old cells, and what it calls only makes memory. -/
theorem wp_region_later {P : Program} {id : Nat} {Q : Exit → Act → World → Prop} {a : Act} {w : World} {l : List Oper} (hm : P.follows .mixedOrders = true) (hB : Region.lexB .any l.toArray = true)
    (h : wpQuiet P l.toArray (fun w' => ∃ s : Later w, w' = s.w) (fun a' => ∀ w', (∃ s : Later w, w' = s.w) → Q .normal a' w') l a) : (Code.region id l.toArray true).wp P Q a w :=
  wp_region_quiet (C := fun w' => ∃ s : Later w, w' = s.w) hm hB ⟨⟨_, (Below.refl _ _).drew⟩, rfl⟩ (by simpa using h)

/-- A callee that only makes memory, met inside such a region. -/
theorem later_of {P : Program} {f : FuncId} {args : Array Value} {W : World} {v : Value} (s : Later W)
    (h : Calls P f args s.w fun e w' => e = .returned v ∧ Below s.w.heap.size s.w w') : Calls P f args s.w fun e w'' => e = .returned v ∧ ∃ s' : Later W, w'' = s'.w :=
  h.mono fun _ w'' ⟨he, hb⟩ => ⟨he, ⟨w'', s.below.trans (hb.mono s.size)⟩, rfl⟩
/-- A callee that leaves the world alone. -/
theorem later_of_same {P : Program} {f : FuncId} {args : Array Value} {W : World} {v : Value} (s : Later W)
    (h : Calls P f args s.w fun e w' => e = .returned v ∧ s.w = w') : Calls P f args s.w fun e w'' => e = .returned v ∧ ∃ s' : Later W, w'' = s'.w :=
  h.mono fun _ _ ⟨he, hb⟩ => ⟨he, s, hb.symm⟩

/-- Type t is an int64, or a struct whose cells are int64 throughout. -/
def allI64 (P : Program) : Nat → TypeId → Bool
  | 0, _ => false
  | n + 1, t =>
    match P.underlying t with
    | some (.int .i64) => true
    | some (.struct fs) => (List.range (P.cellsOf t)).all fun i => fs.toList.any fun f => decide (f.offset ≤ i) && decide (i < f.offset + P.cellsOf f.type) && allI64 P n f.type
    | _ => false

section
variable {H : Type} {enc : TypeId × Value → H} {P : Program} {w : World} {base : Nat} {spare : Nat → Bool} {held : Bool}
theorem allI64_cells : ∀ (n : Nat) (t : TypeId), allI64 P n t = true → ∀ (fuel : Nat) (cs : List Value) (x : DataW H × List MemPlace), DataW.trod enc P w base spare held fuel t cs = some x →
    ∀ (i : Nat) (c : Value), cs[i]? = some c → ∃ z, c = .int .i64 z ∧ (Lit.int .i64 z).wf = true
  | 0, _, h => by cases h
  | n + 1, t, h => by
    intro fuel cs x hx i c hc
    unfold allI64 at h
    split at h
    · rename_i hu
      obtain ⟨z, rfl, _, hz⟩ := DataW.trod_int hu hx
      match i, hc with
      | 0, hc => exact ⟨z, by simpa using hc.symm, hz⟩
      | i + 1, hc => simp at hc
    · rename_i fs hu
      obtain ⟨xs, m, _, _, hlen, hxl, hf⟩ := DataW.trod_struct hu hx
      have hi : i < cs.length := (List.getElem?_eq_some_iff.1 hc).1
      have h1 := List.all_eq_true.1 h i (by simp; omega)
      obtain ⟨f, hfm, h2⟩ := List.any_eq_true.1 h1
      simp only [Bool.and_eq_true, decide_eq_true_eq] at h2
      obtain ⟨⟨h3, h4⟩, h5⟩ := h2
      obtain ⟨j, hj⟩ := List.getElem?_of_mem hfm
      have hj' : fs[j]? = some f := by simpa using hj
      have h6 := hf j f hj'
      have hjl : j < xs.length := by
        have := (Array.getElem?_eq_some_iff.1 hj').1
        omega
      rw [List.getElem?_eq_getElem hjl] at h6
      refine allI64_cells n f.type h5 m _ _ h6 (i - f.offset) c ?_
      rw [List.getElem?_take_of_lt (by omega), List.getElem?_drop, show f.offset + (i - f.offset) = i from by omega]
      exact hc
    · cases h

theorem list_map_of {p : Int → Prop} : ∀ (cs : List Value), (∀ (i : Nat) (c : Value), cs[i]? = some c → ∃ z, c = .int .i64 z ∧ p z) → ∃ l : List Int, cs = l.map (Value.int .i64) ∧ ∀ z ∈ l, p z
  | [], _ => ⟨[], rfl, by simp⟩
  | c :: cs, h => by
    obtain ⟨z, rfl, hz⟩ := h 0 c rfl
    obtain ⟨l, rfl, hl⟩ := list_map_of cs (fun i c hc => h (i + 1) c hc)
    exact ⟨z :: l, rfl, by simpa using ⟨hz, hl⟩⟩

theorem open_allI64 {fs : Array Field} {r : Reach} {b0 n : Nat} {t : TypeId} {v : Value} {d : DataW H} {p : List MemPlace} (hs : P.underlying t = some (.struct fs)) (hA : allI64 P n t = true)
    (hv : Value.okWide P w r b0 t v) (h : DataW.Trod enc P w base spare held t v d p) :
    ∃ l : List Int, l.length = P.cellsOf t ∧ v = .agg (l.map (Value.int .i64)).toArray ∧ ∀ z ∈ l, (Lit.int .i64 z).wf = true := by
  obtain ⟨cs, rfl, hsz⟩ := okWide_struct hs hv
  obtain ⟨fuel, hf⟩ := h
  obtain ⟨l, hl, hw⟩ := list_map_of cs.toList (allI64_cells n t hA fuel _ _ hf)
  refine ⟨l, ?_, ?_, hw⟩
  · have := congrArg List.length hl
    simp at this
    omega
  · rw [← hl]

theorem open_two {fs : Array Field} {r : Reach} {b0 n : Nat} {t : TypeId} {v : Value} {d : DataW H} {p : List MemPlace} (hs : P.underlying t = some (.struct fs)) (hA : allI64 P n t = true) (hC : P.cellsOf t = 2)
    (hv : Value.okWide P w r b0 t v) (h : DataW.Trod enc P w base spare held t v d p) :
    ∃ a b : Int, v = .agg #[.int .i64 a, .int .i64 b] ∧ (Lit.int .i64 a).wf = true ∧ (Lit.int .i64 b).wf = true := by
  obtain ⟨l, hl, hv', hw⟩ := open_allI64 hs hA hv h
  rw [hC] at hl
  match l, hl with
  | [a, b], _ => exact ⟨a, b, hv', hw a (by simp), hw b (by simp)⟩
theorem open_three {fs : Array Field} {r : Reach} {b0 n : Nat} {t : TypeId} {v : Value} {d : DataW H} {p : List MemPlace} (hs : P.underlying t = some (.struct fs)) (hA : allI64 P n t = true) (hC : P.cellsOf t = 3)
    (hv : Value.okWide P w r b0 t v) (h : DataW.Trod enc P w base spare held t v d p) :
    ∃ a b c : Int, v = .agg #[.int .i64 a, .int .i64 b, .int .i64 c] ∧ (Lit.int .i64 a).wf = true ∧ (Lit.int .i64 b).wf = true ∧ (Lit.int .i64 c).wf = true := by
  obtain ⟨l, hl, hv', hw⟩ := open_allI64 hs hA hv h
  rw [hC] at hl
  match l, hl with
  | [a, b, c], _ => exact ⟨a, b, c, hv', hw a (by simp), hw b (by simp), hw c (by simp)⟩
theorem open_four {fs : Array Field} {r : Reach} {b0 n : Nat} {t : TypeId} {v : Value} {d : DataW H} {p : List MemPlace} (hs : P.underlying t = some (.struct fs)) (hA : allI64 P n t = true) (hC : P.cellsOf t = 4)
    (hv : Value.okWide P w r b0 t v) (h : DataW.Trod enc P w base spare held t v d p) :
    ∃ a b c e : Int, v = .agg #[.int .i64 a, .int .i64 b, .int .i64 c, .int .i64 e] ∧ (Lit.int .i64 a).wf = true ∧ (Lit.int .i64 b).wf = true ∧ (Lit.int .i64 c).wf = true ∧ (Lit.int .i64 e).wf = true := by
  obtain ⟨l, hl, hv', hw⟩ := open_allI64 hs hA hv h
  rw [hC] at hl
  match l, hl with
  | [a, b, c, e], _ => exact ⟨a, b, c, e, hv', hw a (by simp), hw b (by simp), hw c (by simp), hw e (by simp)⟩
theorem open_five {fs : Array Field} {r : Reach} {b0 n : Nat} {t : TypeId} {v : Value} {d : DataW H} {p : List MemPlace} (hs : P.underlying t = some (.struct fs)) (hA : allI64 P n t = true) (hC : P.cellsOf t = 5)
    (hv : Value.okWide P w r b0 t v) (h : DataW.Trod enc P w base spare held t v d p) :
    ∃ a b c e f : Int, v = .agg #[.int .i64 a, .int .i64 b, .int .i64 c, .int .i64 e, .int .i64 f] ∧ (Lit.int .i64 a).wf = true ∧ (Lit.int .i64 b).wf = true ∧ (Lit.int .i64 c).wf = true ∧ (Lit.int .i64 e).wf = true ∧ (Lit.int .i64 f).wf = true := by
  obtain ⟨l, hl, hv', hw⟩ := open_allI64 hs hA hv h
  rw [hC] at hl
  match l, hl with
  | [a, b, c, e, f], _ => exact ⟨a, b, c, e, f, hv', hw a (by simp), hw b (by simp), hw c (by simp), hw e (by simp), hw f (by simp)⟩
end

theorem wf_bounds {z : Int} (h : (Lit.int .i64 z).wf = true) : -9223372036854775808 ≤ z ∧ z ≤ 9223372036854775807 := bounds_i64 h
theorem ret_bool {a b : Bool} (h : a = b) : Ending.returned (.bool a) = .returned (.bool b) := by rw [h]
theorem ret_int {k : IntKind} {a b : Int} (h : a = b) : Ending.returned (.int k a) = .returned (.int k b) := by rw [h]
theorem ret_int2 {k : IntKind} {a b c d : Int} (h : a = b) (h' : c = d) : Ending.returned (.tuple #[.int k a, .int k c]) = .returned (.tuple #[.int k b, .int k d]) := by rw [h, h']
end Go.Proofs.YtjgndfphbmkhaaaGreatDoor
