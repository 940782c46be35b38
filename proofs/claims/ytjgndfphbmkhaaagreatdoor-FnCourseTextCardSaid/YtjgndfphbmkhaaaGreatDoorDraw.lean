/-
  The source of drawn numbers: what is known of it, and what its functions do. Conditions: the code's bytes lie in the world.
-/
import Derived.Test.YtjgndfphbmkhaaaGreatDoorL01
import Derived.Test.YtjgndfphbmkhaaaGreatDoorHeld
namespace Go.Proofs.YtjgndfphbmkhaaaGreatDoor
set_option linter.unusedVariables false
open Go.ChangeShapes Go.WideShapes Go.ChangeAt Go.RowKit Go.Deep

@[go_sem] theorem lt_add2 (a : Nat) : a < a + 1 + 1 := by omega
@[go_sem] theorem lt_add3 (a : Nat) : a < a + 1 + 1 + 1 := by omega
@[go_sem] theorem lt_add4 (a : Nat) : a < a + 1 + 1 + 1 + 1 := by omega
@[go_sem] theorem le_add1 (a : Nat) : a ≤ a + 1 := by omega
@[go_sem] theorem le_add2 (a : Nat) : a ≤ a + 1 + 1 := by omega
/-- nothing that was there has changed, but for block g -/
structure Kept (g : Nat) (w w' : World) : Prop where
  os : w'.os = w.os
  tape : w'.tape = w.tape
  output : w'.output = w.output
  size : w.heap.size ≤ w'.heap.size
  block : ∀ k, k < w.heap.size → k ≠ g → w'.heap[k]? = w.heap[k]?
theorem Kept.refl (g : Nat) (w : World) : Kept g w w := ⟨rfl, rfl, rfl, Nat.le_refl _, fun _ _ _ => rfl⟩
theorem Kept.trans {g : Nat} {a b c : World} (h : Kept g a b) (k : Kept g b c) : Kept g a c :=
  ⟨k.os.trans h.os, k.tape.trans h.tape, k.output.trans h.output, Nat.le_trans h.size k.size, fun i hi hn => (k.block i (Nat.lt_of_lt_of_le hi h.size) hn).trans (h.block i hi hn)⟩
theorem Kept.drew {g : Nat} {a w : World} (h : Kept g a w) : Kept g a w.drew := ⟨h.os, h.tape, h.output, h.size, h.block⟩
theorem Kept.of {g : Nat} {w w' : World} (h : Below w.heap.size w w') : Kept g w w' := ⟨h.os, h.tape, h.output, h.size, fun k hk _ => h.block k hk⟩
theorem Kept.alloc {g : Nat} {a w : World} (h : Kept g a w) (o : Obj) : Kept g a (w.alloc o) :=
  h.trans (Kept.of ((Below.refl _ _).alloc (Nat.le_refl _) o))
theorem Kept.setCell {g : Nat} {a w : World} (h : Kept g a w) {p : Addr} (hp : p.block = g ∨ a.heap.size ≤ p.block) (u : Value) : Kept g a (w.setCell p u) :=
  ⟨h.os, h.tape, h.output, by have := h.size; simpa [World.setCell] using this, fun k hk hn => (Below.heap_setCell _ _ _ _ (by omega)).trans (h.block k hk hn)⟩
theorem Kept.below {g n : Nat} {w w' : World} (h : Kept g w w') (h1 : n ≤ g) (h2 : n ≤ w.heap.size) : Below n w w' := ⟨h.os, h.tape, h.output, h.size, fun k hk => h.block k (by omega) (by omega)⟩
theorem kcell {g : Nat} {W w1 : World} (hb : Kept g W w1) : (∀ b o, b < W.heap.size → b ≠ g → w1.cell? ⟨b, o, none⟩ = W.cell? ⟨b, o, none⟩) ∧ (∀ b o, b < W.heap.size → b ≠ g → w1.frozen? ⟨b, o, none⟩ = W.frozen? ⟨b, o, none⟩) :=
  ⟨fun b o h hn => World.cell?_of_block (w := W) (hb.block b h hn), fun b o h hn => World.frozen?_of_block (w := W) (hb.block b h hn)⟩

theorem kept_lt {g : Nat} {W w1 : World} (hb : Kept g W w1) : ∀ b, b < W.heap.size → b < w1.heap.size := fun _ h => Nat.lt_of_lt_of_le h hb.size
theorem kept_le {g : Nat} {W w1 : World} (hb : Kept g W w1) : ∀ b, b < W.heap.size → b ≤ w1.heap.size := fun _ h => Nat.le_of_lt (Nat.lt_of_lt_of_le h hb.size)
theorem kept_lt1 {g : Nat} {W w1 : World} (hb : Kept g W w1) : ∀ b, b < W.heap.size → b < w1.heap.size + 1 := fun _ h => Nat.lt_succ_of_lt (Nat.lt_of_lt_of_le h hb.size)
theorem kept_lt2 {g : Nat} {W w1 : World} (hb : Kept g W w1) : ∀ b, b < W.heap.size → b < w1.heap.size + 1 + 1 := fun _ h => Nat.lt_succ_of_lt (Nat.lt_succ_of_lt (Nat.lt_of_lt_of_le h hb.size))
theorem bodyPost_retE {P : Program} {fn : Func} {R : Ending → World → Prop} {a : Act} {w : World} (hd : a.defers = []) (h : ∃ v, (results fn a.tmps).run P w = .ok v w ∧ R (.returned v) w) : bodyPost P fn R .ret a w := let ⟨v, h1, h2⟩ := h; bodyPost_ret h1 hd h2

/-- the bytes of a code, in blocks below g -/
def BytesB (g : Nat) (w : World) (a : Option Addr) (n : Nat) : Prop :=
  ∀ i, i < n → ∃ b off z, a = some ⟨b, off, none⟩ ∧ b < g ∧ w.cell? ⟨b, off + i, none⟩ = some (.int .u8 z) ∧ 0 ≤ z ∧ z ≤ 255
theorem BytesB.below {g m : Nat} {w w' : World} {a : Option Addr} {n : Nat} (h : BytesB g w a n) (hb : Below m w w') (hg : g ≤ m) : BytesB g w' a n := fun i hi => by
  obtain ⟨b, off, z, ha, hbg, hc, hz⟩ := h i hi
  exact ⟨b, off, z, ha, hbg, (hb.cell (p := ⟨b, off + i, none⟩) (Nat.lt_of_lt_of_le hbg hg)).trans hc, hz⟩
theorem BytesB.mono {g m : Nat} {w : World} {a : Option Addr} {n : Nat} (h : BytesB g w a n) (hg : g ≤ m) : BytesB m w a n := fun i hi => by
  obtain ⟨b, off, z, ha, hbg, hc, hz⟩ := h i hi
  exact ⟨b, off, z, ha, by omega, hc, hz⟩

/-- the source in block g -/
structure Src (g : Nat) (a : Option Addr) (n cap : Nat) (w : World) : Prop where
  lt : g < w.heap.size
  c0 : w.cell? ⟨g, 0, none⟩ = some (.slice a n cap)
  c1 : ∃ k : Nat, k ≤ n ∧ w.cell? ⟨g, 1, none⟩ = some (.int .i64 k)
  c2 : ∃ z : Int, 0 ≤ z ∧ z ≤ 2147483646 ∧ w.cell? ⟨g, 2, none⟩ = some (.int .i64 z)
  fr : ∀ o, w.frozen? ⟨g, o, none⟩ = false
  bytes : BytesB g w a n
theorem Src.below {g : Nat} {a : Option Addr} {n cap : Nat} {w w' : World} (h : Src g a n cap w) (hb : Below w.heap.size w w') : Src g a n cap w' := by
  have hc := fun o => hb.cell (p := ⟨g, o, none⟩) h.lt
  have hf := fun o => hb.frozen (p := ⟨g, o, none⟩) h.lt
  exact ⟨Nat.lt_of_lt_of_le h.lt hb.size, (hc 0).trans h.c0, by simpa only [hc] using h.c1, by simpa only [hc] using h.c2, fun o => (hf o).trans (h.fr o), h.bytes.below hb (Nat.le_of_lt h.lt)⟩
theorem Src.drew {g : Nat} {a : Option Addr} {n cap : Nat} {w : World} (h : Src g a n cap w) : Src g a n cap w.drew := h.below (Below.refl _ _).drew
theorem Src.alloc {g : Nat} {a : Option Addr} {n cap : Nat} {w : World} (h : Src g a n cap w) (o : Obj) : Src g a n cap (w.alloc o) := h.below ((Below.refl _ _).alloc (Nat.le_refl _) o)
theorem Src.setCell {g : Nat} {a : Option Addr} {n cap : Nat} {w : World} (h : Src g a n cap w) {p : Addr} (hp : g < p.block) (u : Value) : Src g a n cap (w.setCell p u) := by
  have hb : Below (g + 1) w (w.setCell p u) := (Below.refl _ _).setCell hp u
  have hc := fun o => hb.cell (p := ⟨g, o, none⟩) (Nat.lt_succ_self g)
  have hf := fun o => hb.frozen (p := ⟨g, o, none⟩) (Nat.lt_succ_self g)
  exact ⟨by have := h.lt; simpa [World.setCell] using this, (hc 0).trans h.c0, by simpa only [hc] using h.c1, by simpa only [hc] using h.c2, fun o => (hf o).trans (h.fr o), h.bytes.below hb (Nat.le_succ g)⟩
theorem Src.put1 {g : Nat} {a : Option Addr} {n cap : Nat} {w : World} (h : Src g a n cap w) {z : Int} (h0 : 0 ≤ z) (h1 : z ≤ n) : Src g a n cap (w.setCell ⟨g, 1, none⟩ (.int .i64 z)) := by
  obtain ⟨k, hk, hc⟩ := h.c1
  have hb : Below g w (w.setCell ⟨g, 1, none⟩ (.int .i64 z)) := (Below.refl g w).setCell (p := ⟨g, 1, none⟩) (Nat.le_refl g) _
  refine ⟨by have := h.lt; simpa [World.setCell] using this, (World.cell?_setCell_other _ _ _ _ (by simp)).trans h.c0, ⟨z.toNat, by omega, ?_⟩, ?_, fun o => (World.frozen?_setCell ..).trans (h.fr o), h.bytes.below hb (Nat.le_refl _)⟩
  · rw [World.cell?_setCell_same _ _ _ hc, Int.toNat_of_nonneg h0]
  · obtain ⟨y, y0, y1, hy⟩ := h.c2
    exact ⟨y, y0, y1, (World.cell?_setCell_other _ _ _ _ (by simp)).trans hy⟩
theorem Src.put2 {g : Nat} {a : Option Addr} {n cap : Nat} {w : World} (h : Src g a n cap w) {z : Int} (h0 : 0 ≤ z) (h1 : z ≤ 2147483646) : Src g a n cap (w.setCell ⟨g, 2, none⟩ (.int .i64 z)) := by
  obtain ⟨y, y0, y1, hy⟩ := h.c2
  have hb : Below g w (w.setCell ⟨g, 2, none⟩ (.int .i64 z)) := (Below.refl g w).setCell (p := ⟨g, 2, none⟩) (Nat.le_refl g) _
  refine ⟨by have := h.lt; simpa [World.setCell] using this, (World.cell?_setCell_other _ _ _ _ (by simp)).trans h.c0, ?_, ⟨z, h0, h1, World.cell?_setCell_same _ _ _ hy⟩, fun o => (World.frozen?_setCell ..).trans (h.fr o), h.bytes.below hb (Nat.le_refl _)⟩
  obtain ⟨k, hk, hc⟩ := h.c1
  exact ⟨k, hk, (World.cell?_setCell_other _ _ _ _ (by simp)).trans hc⟩

section
variable {H : Type} {enc : TypeId × Value → H} {P : Program} {w : World} {base : Nat} {spare : Nat → Bool} {held : Bool}
/-- an argument that is a slice of bytes -/
theorem open_bytes {r : Reach} {b0 : Nat} {t e : TypeId} {v : Value} {d : DataW H} {p : List MemPlace} (hs : P.underlying t = some (.slice e)) (he : P.underlying e = some (.int .u8)) (hc : P.cellsOf e = 1)
    (hv : Value.okWide P w r b0 t v) (h : DataW.Trod enc P w base spare held t v d p) :
    ∃ (a : Option Addr × Nat) (n : Nat), v = .slice a.1 n a.2 ∧ n ≤ 9223372036854775807 ∧ BytesB w.heap.size w a.1 n := by
  obtain ⟨a1, len, cap, rfl⟩ := okWide_slice hs hv
  obtain ⟨fuel, hf⟩ := h
  rcases open_ints hs he hc hf with ⟨hcs, hx⟩ | ⟨a, len', cap', zs, hcs, _, hl, hm, hz, hx, hcell, hwz⟩
  · simp [Value.cells] at hcs
    obtain ⟨rfl, rfl, rfl⟩ := hcs
    exact ⟨(none, 0), 0, rfl, by omega, fun i hi => by omega⟩
  · simp [Value.cells] at hcs
    obtain ⟨rfl, rfl, rfl⟩ := hcs
    refine ⟨(some a, cap), len, rfl, by simp [maxLen] at hm; omega, fun i hi => ?_⟩
    have hi' : i < zs.length := by rw [hz]; split <;> omega
    have hq := hcell i hi'
    have q0 := hcell 0 (by omega)
    obtain ⟨b, off, sp⟩ := a
    have hsp := World.cell?_spot q0
    simp [Addr.add] at hsp
    subst hsp
    rw [show (⟨b, off, none⟩ : Addr).add i = ⟨b, off + i, none⟩ from by unfold Addr.add; split; simp_all; rfl] at hq
    have hw := hwz (zs.getD i 0) (by simp [List.getD, List.getElem?_eq_getElem hi'])
    have hw' : 0 ≤ zs.getD i 0 ∧ zs.getD i 0 ≤ 255 := by
      revert hw
      generalize zs.getD i 0 = z
      intro hw
      simp [Lit.wf, IntKind.min, IntKind.max, IntKind.bits, IntKind.signed] at hw
      omega
    exact ⟨b, off, _, rfl, World.block_lt_of_cell? w _ hq, hq, hw'⟩
end

set_option maxHeartbeats 1600000 in
theorem l01Next_c (g : Nat) (a : Option Addr) (n cap : Nat) (m : Int) (w : World) (hn : n ≤ 9223372036854775807) (hs : Src g a n cap w) : Calls Tryz.prog 47 #[.pointer (some ⟨g, 0, none⟩), .int .i64 m] w fun e w' => (∃ r : Int, e = .returned (.int .i64 r) ∧ (1 < m → 0 ≤ r ∧ r < m) ∧ (m ≤ 1 → r = 0)) ∧ Src g a n cap w' ∧ Kept g w w' := by
  have HS := Lib.hid hs
  have hlt := hs.lt
  obtain ⟨k, hk, c1⟩ := hs.c1
  obtain ⟨z, z0, z1, c2⟩ := hs.c2
  have c0 := hs.c0
  have f1 := hs.fr 1
  have f2 := hs.fr 2
  by_cases hm : m ≤ 1
  · clear hs
    go_enter Tryz.func47, Tryz.ntmps47
    go_wp2
    go_ret
    exact ⟨⟨0, rfl, fun h => by omega, fun _ => rfl⟩, HS.out, Kept.refl _ _⟩
  by_cases h : k < n
  · obtain ⟨b, off, y, rfl, hbg, cy, y0, y1⟩ := hs.bytes k h
    have hne : ¬ b = g := by omega
    have hne' : ¬ g = b := by omega
    have h' : (k : Int) < (n : Int) := by omega
    have hbl : b < w.heap.size := by omega
    clear hs
    go_enter Tryz.func47, Tryz.ntmps47
    go_wp2
    refine wp_region_later (by kernel_rfl) (by kernel_rfl) ?_
    repeat (first | go_big_quiet_step (fail) | quiet_step (fail))
    refine wpQuiet_nil ?_
    intro _ hw'
    obtain ⟨s1, hw''⟩ := hw'
    subst hw''
    have hb1 := s1.below
    generalize s1.w = w1 at hb1 ⊢
    clear s1
    try replace hb1 := below_trans (by with_reducible assumption) hb1
    obtain ⟨hc1, hf1⟩ := bcell hb1
    have hz1 := hb1.size
    try simp at hz1
    try have hz10 : w.heap.size ≤ w1.heap.size := by omega
    try have hz11 : w.heap.size < w1.heap.size := by omega
    try have hz12 : w.heap.size + 1 < w1.heap.size := by omega
    try have hz13 : w.heap.size + 1 + 1 < w1.heap.size := by omega
    try have hz14 : w.heap.size + 1 + 1 + 1 < w1.heap.size := by omega
    go_wp2
    have hg1 : g < w1.heap.size := by omega
    have hl1 : b < w1.heap.size := by omega
    refine wp_region_later (by kernel_rfl) (by kernel_rfl) ?_
    repeat (first | go_big_quiet_step (fail) | quiet_step (fail))
    refine wpQuiet_nil ?_
    intro _ hw'
    obtain ⟨s2, hw''⟩ := hw'
    subst hw''
    have hb2 := s2.below
    generalize s2.w = w2 at hb2 ⊢
    clear s2
    try replace hb2 := below_trans (by with_reducible assumption) hb2
    obtain ⟨hc2, hf2⟩ := bcell hb2
    have hz2 := hb2.size
    try simp at hz2
    try have hz20 : w.heap.size ≤ w2.heap.size := by omega
    try have hz21 : w.heap.size < w2.heap.size := by omega
    try have hz22 : w.heap.size + 1 < w2.heap.size := by omega
    try have hz23 : w.heap.size + 1 + 1 < w2.heap.size := by omega
    try have hz24 : w.heap.size + 1 + 1 + 1 < w2.heap.size := by omega
    have hg2 : g < w2.heap.size := by omega
    have hl2 : b < w2.heap.size := by omega
    go_wp2
    · skip
      refine wp_region_later (by kernel_rfl) (by kernel_rfl) ?_
      repeat (first | go_big_quiet_step (fail) | quiet_step (fail))
      refine wpQuiet_nil ?_
      intro _ hw'
      obtain ⟨s3, hw''⟩ := hw'
      subst hw''
      have hb3 := s3.below
      generalize s3.w = w3 at hb3 ⊢
      clear s3
      try replace hb3 := below_trans (by with_reducible assumption) hb3
      obtain ⟨hc3, hf3⟩ := bcell hb3
      have hz3 := hb3.size
      try simp at hz3
      try have hz30 : w.heap.size ≤ w3.heap.size := by omega
      try have hz31 : w.heap.size < w3.heap.size := by omega
      try have hz32 : w.heap.size + 1 < w3.heap.size := by omega
      try have hz33 : w.heap.size + 1 + 1 < w3.heap.size := by omega
      try have hz34 : w.heap.size + 1 + 1 + 1 < w3.heap.size := by omega
      go_wp2
      go_ret
      refine ⟨⟨_, rfl, by first | exact fun _ => ⟨Int.emod_nonneg _ (by omega), Int.emod_lt_of_pos _ (by omega)⟩ | exact ⟨Int.emod_nonneg _ (by omega), Int.emod_lt_of_pos _ (by omega)⟩, by first | exact fun h => by omega | omega⟩, ?_, ?_⟩
      · exact (by repeat (first | with_reducible assumption | with_reducible exact HS.out | with_reducible exact And.left (by with_reducible assumption) | with_reducible refine Src.drew ?_ | with_reducible refine Src.alloc ?_ _ | with_reducible refine Src.put1 ?_ (by first | omega | (simp; omega)) (by first | omega | (simp; omega)) | with_reducible refine Src.put2 ?_ (by first | omega | (simp; omega)) (by first | omega | (simp; omega)) | with_reducible refine Src.setCell ?_ (by first | assumption | (simp; done) | (simp; omega) | omega) _ | with_reducible refine Src.below ?_ (by with_reducible assumption)))
      · exact (by repeat (first | with_reducible exact Kept.refl _ _ | with_reducible assumption | with_reducible exact And.right (by with_reducible assumption) | with_reducible refine Kept.drew ?_ | with_reducible refine Kept.alloc ?_ _ | with_reducible refine Kept.setCell ?_ (by first | exact .inl rfl | (right; first | exact Nat.le_refl _ | (simp; done) | (simp; omega) | omega) | omega) _ | with_reducible refine Kept.trans ?_ (Kept.of (by with_reducible assumption)) | with_reducible refine Kept.trans ?_ (by with_reducible assumption)))
    all_goals
      go_ret
      refine ⟨⟨_, rfl, by first | exact fun _ => ⟨Int.emod_nonneg _ (by omega), Int.emod_lt_of_pos _ (by omega)⟩ | exact ⟨Int.emod_nonneg _ (by omega), Int.emod_lt_of_pos _ (by omega)⟩, by first | exact fun h => by omega | omega⟩, ?_, ?_⟩
      · exact (by repeat (first | with_reducible assumption | with_reducible exact HS.out | with_reducible exact And.left (by with_reducible assumption) | with_reducible refine Src.drew ?_ | with_reducible refine Src.alloc ?_ _ | with_reducible refine Src.put1 ?_ (by first | omega | (simp; omega)) (by first | omega | (simp; omega)) | with_reducible refine Src.put2 ?_ (by first | omega | (simp; omega)) (by first | omega | (simp; omega)) | with_reducible refine Src.setCell ?_ (by first | assumption | (simp; done) | (simp; omega) | omega) _ | with_reducible refine Src.below ?_ (by with_reducible assumption)))
      · exact (by repeat (first | with_reducible exact Kept.refl _ _ | with_reducible assumption | with_reducible exact And.right (by with_reducible assumption) | with_reducible refine Kept.drew ?_ | with_reducible refine Kept.alloc ?_ _ | with_reducible refine Kept.setCell ?_ (by first | exact .inl rfl | (right; first | exact Nat.le_refl _ | (simp; done) | (simp; omega) | omega) | omega) _ | with_reducible refine Kept.trans ?_ (Kept.of (by with_reducible assumption)) | with_reducible refine Kept.trans ?_ (by with_reducible assumption)))
  · clear hs
    have h' : (n : Int) ≤ (k : Int) := by omega
    go_enter Tryz.func47, Tryz.ntmps47
    go_wp2
    refine wp_region_later (by kernel_rfl) (by kernel_rfl) ?_
    repeat (first | go_big_quiet_step (fail) | quiet_step (fail))
    refine wpQuiet_nil ?_
    intro _ hw'
    obtain ⟨s1, hw''⟩ := hw'
    subst hw''
    have hb1 := s1.below
    generalize s1.w = w1 at hb1 ⊢
    clear s1
    try replace hb1 := below_trans (by with_reducible assumption) hb1
    obtain ⟨hc1, hf1⟩ := bcell hb1
    have hz1 := hb1.size
    try simp at hz1
    try have hz10 : w.heap.size ≤ w1.heap.size := by omega
    try have hz11 : w.heap.size < w1.heap.size := by omega
    try have hz12 : w.heap.size + 1 < w1.heap.size := by omega
    try have hz13 : w.heap.size + 1 + 1 < w1.heap.size := by omega
    try have hz14 : w.heap.size + 1 + 1 + 1 < w1.heap.size := by omega
    go_wp2
    go_ret
    refine ⟨⟨_, rfl, by first | exact fun _ => ⟨Int.emod_nonneg _ (by omega), Int.emod_lt_of_pos _ (by omega)⟩ | exact ⟨Int.emod_nonneg _ (by omega), Int.emod_lt_of_pos _ (by omega)⟩, by first | exact fun h => by omega | omega⟩, ?_, ?_⟩
    · exact (by repeat (first | with_reducible assumption | with_reducible exact HS.out | with_reducible exact And.left (by with_reducible assumption) | with_reducible refine Src.drew ?_ | with_reducible refine Src.alloc ?_ _ | with_reducible refine Src.put1 ?_ (by first | omega | (simp; omega)) (by first | omega | (simp; omega)) | with_reducible refine Src.put2 ?_ (by first | omega | (simp; omega)) (by first | omega | (simp; omega)) | with_reducible refine Src.setCell ?_ (by first | assumption | (simp; done) | (simp; omega) | omega) _ | with_reducible refine Src.below ?_ (by with_reducible assumption)))
    · exact (by repeat (first | with_reducible exact Kept.refl _ _ | with_reducible assumption | with_reducible exact And.right (by with_reducible assumption) | with_reducible refine Kept.drew ?_ | with_reducible refine Kept.alloc ?_ _ | with_reducible refine Kept.setCell ?_ (by first | exact .inl rfl | (right; first | exact Nat.le_refl _ | (simp; done) | (simp; omega) | omega) | omega) _ | with_reducible refine Kept.trans ?_ (Kept.of (by with_reducible assumption)) | with_reducible refine Kept.trans ?_ (by with_reducible assumption)))
set_option maxHeartbeats 1600000 in
theorem l01From_c (a : Option Addr) (n cap : Nat) (w : World) (hn : n ≤ 9223372036854775807) (hb : BytesB w.heap.size w a n) : Calls Tryz.prog 28 #[.slice a n cap] w fun e w' => (∃ g, e = .returned (.pointer (some ⟨g, 0, none⟩)) ∧ w.heap.size ≤ g ∧ Src g a n cap w') ∧ Below w.heap.size w w' := by
  have HB := Lib.hid hb
  clear hb
  go_enter Tryz.func28, Tryz.ntmps28
  go_wp2
  go_loopw [4] (fun x wr => ∃ k : Nat, x = .int .i64 k ∧ k ≤ n ∧ Src w.heap.size a n cap wr ∧ Below w.heap.size w wr) (fun x _ => n - (intOf x).toNat)
  case atStart =>
    refine ⟨0, rfl, Nat.zero_le _, ⟨by simp, by simp [go_sem], ⟨0, Nat.zero_le _, by simp [go_sem]⟩, ⟨61657, by omega, by omega, by simp [go_sem]⟩, fun o => World.frozen?_alloc_at _ _ _ _ rfl, HB.out.below ((Below.refl _ _).alloc (Nat.le_refl _) _) (Nat.le_refl _)⟩, (by repeat (first | with_reducible exact Below.refl _ _ | with_reducible assumption | with_reducible refine Below.drew ?_ | with_reducible refine Below.alloc ?_ (by first | exact Nat.le_refl _ | (simp; done) | (simp; omega) | omega) _ | with_reducible refine Below.setCell ?_ (by first | exact Nat.le_refl _ | (simp; done) | (simp; omega) | omega) _ | with_reducible refine Below.trans ?_ (Below.mono (by with_reducible assumption) (by first | exact Nat.le_refl _ | (simp; done) | (simp; omega) | omega))))⟩
  case round =>
    obtain ⟨k, rfl, hk, hs, hbl⟩ := hrel
    have HS := Lib.hid hs
    have hlt := hs.lt
    obtain ⟨z, z0, z1, c2⟩ := hs.c2
    have f2 := hs.fr 2
    have hby := hs.bytes
    clear hs
    by_cases h : k < n
    · by_cases h6 : k < 64
      · obtain ⟨b, off, y, rfl, hbg, cy, y0, y1⟩ := hby k h
        have hne : ¬ b = w.heap.size := by omega
        have hne' : ¬ w.heap.size = b := by omega
        have h' : (k : Int) < (n : Int) := by omega
        have h6' : (k : Int) < 64 := by omega
        have hbl' : b < wr.heap.size := by omega
        clear hby
        go_wp2
        go_region
        all_goals go_wp2
        exact ⟨⟨k + 1, by simp, by omega, (by repeat (first | with_reducible assumption | with_reducible exact HS.out | with_reducible exact And.left (by with_reducible assumption) | with_reducible refine Src.drew ?_ | with_reducible refine Src.alloc ?_ _ | with_reducible refine Src.put1 ?_ (by first | omega | (simp; omega)) (by first | omega | (simp; omega)) | with_reducible refine Src.put2 ?_ (by first | omega | (simp; omega)) (by first | omega | (simp; omega)) | with_reducible refine Src.setCell ?_ (by first | assumption | (simp; done) | (simp; omega) | omega) _ | with_reducible refine Src.below ?_ (by with_reducible assumption))), (by repeat (first | with_reducible exact Below.refl _ _ | with_reducible assumption | with_reducible refine Below.drew ?_ | with_reducible refine Below.alloc ?_ (by first | exact Nat.le_refl _ | (simp; done) | (simp; omega) | omega) _ | with_reducible refine Below.setCell ?_ (by first | exact Nat.le_refl _ | (simp; done) | (simp; omega) | omega) _ | with_reducible refine Below.trans ?_ (Below.mono (by with_reducible assumption) (by first | exact Nat.le_refl _ | (simp; done) | (simp; omega) | omega))))⟩, by simp [intOf]; omega⟩
      · have h6' : 64 ≤ (k : Int) := by omega
        have h' : (k : Int) < (n : Int) := by omega
        clear hby
        go_wp2
        exact bodyPost_ret (v := .pointer (some ⟨w.heap.size, 0, none⟩)) (by simp [results, Tryz.results28, go_sem]) rfl ⟨⟨_, rfl, Nat.le_refl _, HS.out⟩, hbl⟩
    · have h' : (n : Int) ≤ (k : Int) := by omega
      clear hby
      go_wp2
      exact bodyPost_ret (v := .pointer (some ⟨w.heap.size, 0, none⟩)) (by simp [results, Tryz.results28, go_sem]) rfl ⟨⟨_, rfl, Nat.le_refl _, HS.out⟩, hbl⟩
end Go.Proofs.YtjgndfphbmkhaaaGreatDoor
