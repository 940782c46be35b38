/-
  laws.other: another code. Conditions: the code's bytes lie in the world.
-/
import Derived.Test.YtjgndfphbmkhaaaDoorDraw
import Derived.Deep.Slices
import Derived.Deep.AppendLies
import Derived.Laws.OwnMore
import Derived.Lib.AppendZeros
import Derived.OwnWalk
namespace Go.Proofs.YtjgndfphbmkhaaaDoor
set_option linter.unusedVariables false
open Go.RowKit Go.Deep

theorem infoByteO : (Tryd.prog.info? 5).map (fun i => (i.zero, i.size, i.bytes)) = some (some (.int .u8 0), 1, 1) := by kernel_rfl
/-- a slice's bytes, as values -/
def nwB (w : World) (b off n : Nat) : List Value := (List.range n).map fun i => (w.cell? ⟨b, off + i, none⟩).getD (.int .u8 0)
theorem nwB_len (w : World) (b off n : Nat) : (nwB w b off n).length = n := by simp [nwB]
theorem nwB_get {w : World} {g b off n : Nat} (h : BytesB g w (some ⟨b, off, none⟩) n) {j : Nat} {u : Value} (hu : (nwB w b off n)[j]? = some u) : j < n ∧ w.cell? ⟨b, off + j, none⟩ = some u ∧ ∃ z, u = .int .u8 z ∧ 0 ≤ z ∧ z ≤ 255 := by
  obtain ⟨hj, he⟩ := List.getElem?_eq_some_iff.1 hu
  have hj' : j < n := by rw [nwB_len] at hj; exact hj
  obtain ⟨b', off', z, ha, _, hc, hz⟩ := h j hj'
  simp at ha
  obtain ⟨rfl, rfl⟩ := ha
  simp [nwB, hc] at he
  subst he
  exact ⟨hj', hc, z, rfl, hz⟩
theorem add_noneO (b off k : Nat) : (⟨b, off, none⟩ : Addr).add k = ⟨b, off + k, none⟩ := by
  unfold Addr.add
  split
  · simp_all
  · rfl
theorem run_app_nil (P : Program) (w : World) (base : Nat) (t ty e : TypeId) (i : TypeInfo) (size : Nat) (ht : P.underlying t = some (.slice e)) (hi : P.info? e = some i)
    (v : Value) (n c : Nat) (xs : List Value) (hown : w.ownsRow base e size v n xs) :
    (Builtin.append_ #[t, t] ty #[v, .slice none 0 c]).run P w = .ok v w := by
  rcases hown.2 with ⟨rfl, rfl⟩ | ⟨g, cap, cur, rfl, _, _, hnc, _⟩
  · simp [Builtin.append_, run_underlying ht, sizeOf, typeInfo, hi, Builtin.lenOf, Builtin.firstCells]
  · simp [Builtin.append_, run_underlying ht, sizeOf, typeInfo, hi, Builtin.lenOf, Builtin.firstCells, hnc, storeCells]
theorem run_app_any (P : Program) (w : World) (t ty : TypeId) (base : Nat) (e : TypeId) (i : TypeInfo) (z : Value) (size bytes : Nat) (ht : P.underlying t = some (.slice e)) (hi : P.info? e = some i) (hz : i.zero = some z)
    (hsize : i.size = size) (hby : i.bytes = bytes) (hzs : z.cells.size = size) (hsz : 0 < size) (B n c0 : Nat) (xs : List Value) (hown : w.ownsRow base e size (.slice (some ⟨B, 0, none⟩) n c0) n xs)
    (a9 : Option Addr) (m c : Nat) (news : List Value) (hl : news.length = m * size) (hnews : (a9 = none ∧ m = 0) ∨ ∃ ad, a9 = some ad ∧ ∀ j u, news[j]? = some u → w.cell? (ad.add j) = some u) (h1 : ∀ u ∈ news, u.oneCell' = true) (h63 : n + m ≤ maxLen) (hbytes : (n + m) * bytes ≤ 140737488355328) (hbase : base ≤ w.heap.size) :
    ∃ g cap w', (Builtin.append_ #[t, t] ty #[.slice (some ⟨B, 0, none⟩) n c0, .slice a9 m c]).run P w = .ok (.slice (some ⟨g, 0, none⟩) (n + m) cap) w' ∧ w'.ownsRow base e size (.slice (some ⟨g, 0, none⟩) (n + m) cap) (n + m) (xs ++ news) ∧ w.grownBy w' (some B) ∧ (B = g ∨ g = w.heap.size) ∧ g < w'.heap.size := by
  rcases hnews with ⟨rfl, rfl⟩ | ⟨ad, rfl, hn⟩
  · obtain rfl := List.eq_nil_of_length_eq_zero (l := news) (by omega)
    refine ⟨B, c0, w, run_app_nil P w base t ty e i size ht hi _ n c xs hown, by simpa using hown, ⟨rfl, rfl, rfl, Nat.le_refl _, fun _ _ _ => rfl⟩, .inl rfl, (hown.lt B rfl).2⟩
  · obtain ⟨v', w', hr, h2, h3, _, h5⟩ := run_append_own_at (P := P) w base t ty e i z size bytes ht hi hz hsize hby hzs hsz _ n xs hown ad m c news hl hn h1 h63 hbytes hbase
    rcases h2.2 with ⟨h4, h6⟩ | ⟨g', cap', cur, hv, hb, hh, r⟩
    · subst h4
      simp [Value.ownBlock] at h5
    · subst hv
      refine ⟨g', cap', w', hr, h2, h3, ?_, (Array.getElem?_eq_some_iff.1 hh).1⟩
      simp [Value.ownBlock] at h5
      rcases h5 with h5 | h5
      · exact .inl h5.symm
      · exact .inr h5
theorem ogrown_below {w w' : World} {base : Nat} {row : Option Nat} (h : w.grownBy w' row) (hb : base ≤ w.heap.size) (hr : ∀ k, row = some k → base ≤ k) : Below base w w' :=
  ⟨h.os, h.tape, h.output, h.size, fun k hk => h.block k (by omega) (fun e => by have := hr k e.symm; omega)⟩
theorem bytesB_row {w : World} {base g n cap : Nat} {e : TypeId} {xs : List Value} (h : w.ownsRow base e 1 (.slice (some ⟨g, 0, none⟩) n cap) n xs) (hx : ∀ u ∈ xs, ∃ z, u = .int .u8 z ∧ 0 ≤ z ∧ z ≤ 255) : BytesB w.heap.size w (some ⟨g, 0, none⟩) n := fun i hi => by
  have hl : i < xs.length := by rw [h.1]; omega
  obtain ⟨z, hz, hb⟩ := hx xs[i] (List.getElem_mem hl)
  refine ⟨g, 0, z, rfl, (h.lt g rfl).2, ?_, hb⟩
  rw [Nat.zero_add, h.cellAt i (by omega), List.getElem?_eq_getElem hl, hz]
theorem other_row (w : World) (base : Nat) (k0 k1 k2 : Int) (a : Option Addr) (n cap : Nat) (hn : n ≤ 4096) (hb : base ≤ w.heap.size) (h0 : 0 ≤ k0 ∧ k0 ≤ 255) (h1 : 0 ≤ k1 ∧ k1 ≤ 255) (h2 : 0 ≤ k2 ∧ k2 ≤ 255) (HB : BytesB w.heap.size w a n) :
    ∃ g cp w', (Builtin.append_ #[27, 27] 27 #[.slice (some ⟨w.heap.size, 0, none⟩) 3 3, .slice a n cap]).run Tryd.prog (w.alloc (.cells #[.int .u8 k0, .int .u8 k1, .int .u8 k2] 5)) = .ok (.slice (some ⟨g, 0, none⟩) (3 + n) cp) w' ∧ BytesB w'.heap.size w' (some ⟨g, 0, none⟩) (3 + n) ∧ Below base w w' := by
  obtain ⟨i0, hi, ti0, ti1, ti2⟩ := info_parts infoByteO
  have hown := World.ownsRow_lit (base := base) (e := 5) (size := 1) w #[.int .u8 k0, .int .u8 k1, .int .u8 k2] 3 hb (by unfold maxLen; omega) rfl
  have HBa := HB.below ((Below.refl w.heap.size w).alloc (Nat.le_refl _) (.cells #[.int .u8 k0, .int .u8 k1, .int .u8 k2] 5)) (Nat.le_refl _)
  have key : ∀ news : List Value, news.length = n * 1 → ((a = none ∧ n = 0) ∨ ∃ ad, a = some ad ∧ ∀ j u, news[j]? = some u → (w.alloc (.cells #[.int .u8 k0, .int .u8 k1, .int .u8 k2] 5)).cell? (ad.add j) = some u) → (∀ u ∈ news, ∃ z, u = .int .u8 z ∧ 0 ≤ z ∧ z ≤ 255) → _ := fun news hl hnw hz => run_app_any Tryd.prog (w.alloc (.cells #[.int .u8 k0, .int .u8 k1, .int .u8 k2] 5)) 27 27 base 5 i0 _ 1 1 Tryd.underlying27 hi ti0 ti1 ti2 rfl (by decide) w.heap.size 3 3 _ hown a n cap news hl hnw (fun u hu => by obtain ⟨z, rfl, _⟩ := hz u hu; rfl) (by unfold maxLen; omega) (by omega) (by simp; omega)
  have fin : ∃ news : List Value, news.length = n * 1 ∧ ((a = none ∧ n = 0) ∨ ∃ ad, a = some ad ∧ ∀ j u, news[j]? = some u → (w.alloc (.cells #[.int .u8 k0, .int .u8 k1, .int .u8 k2] 5)).cell? (ad.add j) = some u) ∧ (∀ u ∈ news, ∃ z, u = .int .u8 z ∧ 0 ≤ z ∧ z ≤ 255) := by
    rcases Nat.eq_zero_or_pos n with rfl | hp
    · refine ⟨[], rfl, ?_, fun u hu => (by simp at hu)⟩
      cases a with
      | none => exact .inl ⟨rfl, rfl⟩
      | some ad => exact .inr ⟨ad, rfl, fun j u hu => (by simp at hu)⟩
    · obtain ⟨b, off, z, rfl, _⟩ := HBa 0 hp
      refine ⟨nwB (w.alloc (.cells #[.int .u8 k0, .int .u8 k1, .int .u8 k2] 5)) b off n, by rw [nwB_len, Nat.mul_one], .inr ⟨_, rfl, fun j u hu => (by rw [add_noneO]; exact (nwB_get HBa hu).2.1)⟩, fun u hu => ?_⟩
      obtain ⟨j, hj, rfl⟩ := List.getElem_of_mem hu
      exact (nwB_get HBa (List.getElem?_eq_getElem hj)).2.2
  obtain ⟨news, hl, hnw, hz⟩ := fin
  obtain ⟨g, cp, w', hr, ho, hg, _, _⟩ := key news hl hnw hz
  refine ⟨g, cp, w', hr, bytesB_row ho (fun u hu => ?_), ((Below.refl base w).alloc hb _).trans (ogrown_below hg (by simp; omega) (fun k hk => by simp at hk; omega))⟩
  rcases List.mem_append.1 hu with h | h
  · simp at h
    rcases h with rfl | rfl | rfl
    · exact ⟨_, rfl, h0⟩
    · exact ⟨_, rfl, h1⟩
    · exact ⟨_, rfl, h2⟩
  · exact hz u h
set_option maxRecDepth 100000 in
set_option maxHeartbeats 1000000 in
theorem other_c (k : Int) (a : Option Addr) (n cap : Nat) (w : World) (hn : n ≤ 4096) (k0 : 0 ≤ k) (k1 : k ≤ 80) (HB : BytesB w.heap.size w a n) : Calls Tryd.prog 14 #[.slice a n cap, .int .u8 k] w fun e w' => (∃ b cp, e = .returned (.slice (some b) (n + 3) cp) ∧ BytesB w'.heap.size w' (some b) (n + 3)) ∧ Below w.heap.size w w' := by
  have t1 : IntKind.u8.wrap (k + 7) = k + 7 := by simp [IntKind.wrap, IntKind.bits, IntKind.signed]; omega
  have t2 : IntKind.u8.wrap (3 * k) = 3 * k := by simp [IntKind.wrap, IntKind.bits, IntKind.signed]; omega
  obtain ⟨g, cp, w', hr, hb, hl⟩ := other_row w w.heap.size k (k + 7) (3 * k) a n cap hn (Nat.le_refl _) (by omega) (by omega) (by omega) HB
  have HBB := Lib.hid hb
  have HL := Lib.hid hl
  have HR := Lib.hid hr
  clear hb hl hr HB
  go_enter Tryd.func14, Tryd.ntmps14
  go_wp2_with (at_builtin; refine Lib.wpList_append_run _ rfl _ _ 27 27 rfl (.slice (some ⟨w.heap.size, 0, none⟩) 3 3) (.slice a n cap) rfl rfl _ _ HR.out ?_)
  go_ret
  exact ⟨⟨_, _, by rw [Nat.add_comm n 3]; rfl, by rw [Nat.add_comm n 3]; exact HBB.out⟩, HL.out⟩
end Go.Proofs.YtjgndfphbmkhaaaDoor
