/-
  laws.other: another code. Conditions: the code's bytes lie in the world.
  The equality of courses that the laws use. Conditions: where their marks lie.
  The lift of a tied row, the world's shape kept; an interface variable that is laid. No program is named.
-/
import Derived.Test.YtjgndfphbmkhaaaGreatDoorDraw
import Derived.Deep.Slices
import Derived.Deep.AppendLies
import Derived.Laws.OwnMore
import Derived.Lib.AppendZeros
import Derived.OwnWalk
import Derived.Test.YtjgndfphbmkhaaaGreatDoorCrsZ
import Derived.Test.YtjgndfphbmkhaaaGreatDoorL01
import Derived.LaidLaws
import Derived.Stop.LaidErr
import Derived.Handed
namespace Go.Proofs.YtjgndfphbmkhaaaGreatDoor
section
set_option linter.unusedVariables false
open Go.RowKit Go.Deep

theorem infoByteO : (Tryz.prog.info? 5).map (fun i => (i.zero, i.size, i.bytes)) = some (some (.int .u8 0), 1, 1) := by kernel_rfl
/-- a slice's bytes, as values -/
def nwB (w : World) (b off n : Nat) : List Value := (List.range n).map fun i => (w.cell? ⟨b, off + i, none⟩).getD (.int .u8 0)
theorem nwB_len (w : World) (b off n : Nat) : (nwB w b off n).length = n := by simp [nwB]
theorem nwB_get {w : World} {g b off n : Nat} (h : BytesB g w (some ⟨b, off, none⟩) n) {j : Nat} {u : Value} (hu : (nwB w b off n)[j]? = some u) : j < n ∧ w.cell? ⟨b, off + j, none⟩ = some u ∧ ∃ z, u = .int .u8 z ∧ 0 ≤ z ∧ z ≤ 255 := by
  obtain ⟨hj, he⟩ := List.getElem?_eq_some_iff.1 hu
  have hj' : j < n := by rw [nwB_len] at hj; exact hj
  obtain ⟨b', off', z, ha, _, hc, hz⟩ := h j hj'
  simp at ha
  obtain ⟨rfl, rfl⟩ := ha
  simp [nwB, hc] at he
  subst he
  exact ⟨hj', hc, z, rfl, hz⟩
theorem add_noneO (b off k : Nat) : (⟨b, off, none⟩ : Addr).add k = ⟨b, off + k, none⟩ := by
  unfold Addr.add
  split
  · simp_all
  · rfl
theorem run_app_nil (P : Program) (w : World) (base : Nat) (t ty e : TypeId) (i : TypeInfo) (size : Nat) (ht : P.underlying t = some (.slice e)) (hi : P.info? e = some i)
    (v : Value) (n c : Nat) (xs : List Value) (hown : w.ownsRow base e size v n xs) :
    (Builtin.append_ #[t, t] ty #[v, .slice none 0 c]).run P w = .ok v w := by
  rcases hown.2 with ⟨rfl, rfl⟩ | ⟨g, cap, cur, rfl, _, _, hnc, _⟩
  · simp [Builtin.append_, run_underlying ht, sizeOf, typeInfo, hi, Builtin.lenOf, Builtin.firstCells]
  · simp [Builtin.append_, run_underlying ht, sizeOf, typeInfo, hi, Builtin.lenOf, Builtin.firstCells, hnc, storeCells]
theorem run_app_any (P : Program) (w : World) (t ty : TypeId) (base : Nat) (e : TypeId) (i : TypeInfo) (z : Value) (size bytes : Nat) (ht : P.underlying t = some (.slice e)) (hi : P.info? e = some i) (hz : i.zero = some z)
    (hsize : i.size = size) (hby : i.bytes = bytes) (hzs : z.cells.size = size) (hsz : 0 < size) (B n c0 : Nat) (xs : List Value) (hown : w.ownsRow base e size (.slice (some ⟨B, 0, none⟩) n c0) n xs)
    (a9 : Option Addr) (m c : Nat) (news : List Value) (hl : news.length = m * size) (hnews : (a9 = none ∧ m = 0) ∨ ∃ ad, a9 = some ad ∧ ∀ j u, news[j]? = some u → w.cell? (ad.add j) = some u) (h1 : ∀ u ∈ news, u.oneCell' = true) (h63 : n + m ≤ maxLen) (hbytes : (n + m) * bytes ≤ 140737488355328) (hbase : base ≤ w.heap.size) :
    ∃ g cap w', (Builtin.append_ #[t, t] ty #[.slice (some ⟨B, 0, none⟩) n c0, .slice a9 m c]).run P w = .ok (.slice (some ⟨g, 0, none⟩) (n + m) cap) w' ∧ w'.ownsRow base e size (.slice (some ⟨g, 0, none⟩) (n + m) cap) (n + m) (xs ++ news) ∧ w.grownBy w' (some B) ∧ (B = g ∨ g = w.heap.size) ∧ g < w'.heap.size := by
  rcases hnews with ⟨rfl, rfl⟩ | ⟨ad, rfl, hn⟩
  · obtain rfl := List.eq_nil_of_length_eq_zero (l := news) (by omega)
    refine ⟨B, c0, w, run_app_nil P w base t ty e i size ht hi _ n c xs hown, by simpa using hown, ⟨rfl, rfl, rfl, Nat.le_refl _, fun _ _ _ => rfl⟩, .inl rfl, (hown.lt B rfl).2⟩
  · obtain ⟨v', w', hr, h2, h3, _, h5⟩ := run_append_own_at (P := P) w base t ty e i z size bytes ht hi hz hsize hby hzs hsz _ n xs hown ad m c news hl hn h1 h63 hbytes hbase
    rcases h2.2 with ⟨h4, h6⟩ | ⟨g', cap', cur, hv, hb, hh, r⟩
    · subst h4
      simp [Value.ownBlock] at h5
    · subst hv
      refine ⟨g', cap', w', hr, h2, h3, ?_, (Array.getElem?_eq_some_iff.1 hh).1⟩
      simp [Value.ownBlock] at h5
      rcases h5 with h5 | h5
      · exact .inl h5.symm
      · exact .inr h5
theorem ogrown_below {w w' : World} {base : Nat} {row : Option Nat} (h : w.grownBy w' row) (hb : base ≤ w.heap.size) (hr : ∀ k, row = some k → base ≤ k) : Below base w w' :=
  ⟨h.os, h.tape, h.output, h.size, fun k hk => h.block k (by omega) (fun e => by have := hr k e.symm; omega)⟩
theorem bytesB_row {w : World} {base g n cap : Nat} {e : TypeId} {xs : List Value} (h : w.ownsRow base e 1 (.slice (some ⟨g, 0, none⟩) n cap) n xs) (hx : ∀ u ∈ xs, ∃ z, u = .int .u8 z ∧ 0 ≤ z ∧ z ≤ 255) : BytesB w.heap.size w (some ⟨g, 0, none⟩) n := fun i hi => by
  have hl : i < xs.length := by rw [h.1]; omega
  obtain ⟨z, hz, hb⟩ := hx xs[i] (List.getElem_mem hl)
  refine ⟨g, 0, z, rfl, (h.lt g rfl).2, ?_, hb⟩
  rw [Nat.zero_add, h.cellAt i (by omega), List.getElem?_eq_getElem hl, hz]
theorem other_row (w : World) (base : Nat) (k0 k1 k2 : Int) (a : Option Addr) (n cap : Nat) (hn : n ≤ 4096) (hb : base ≤ w.heap.size) (h0 : 0 ≤ k0 ∧ k0 ≤ 255) (h1 : 0 ≤ k1 ∧ k1 ≤ 255) (h2 : 0 ≤ k2 ∧ k2 ≤ 255) (HB : BytesB w.heap.size w a n) :
    ∃ g cp w', (Builtin.append_ #[34, 34] 34 #[.slice (some ⟨w.heap.size, 0, none⟩) 3 3, .slice a n cap]).run Tryz.prog (w.alloc (.cells #[.int .u8 k0, .int .u8 k1, .int .u8 k2] 5)) = .ok (.slice (some ⟨g, 0, none⟩) (3 + n) cp) w' ∧ BytesB w'.heap.size w' (some ⟨g, 0, none⟩) (3 + n) ∧ Below base w w' := by
  obtain ⟨i0, hi, ti0, ti1, ti2⟩ := info_parts infoByteO
  have hown := World.ownsRow_lit (base := base) (e := 5) (size := 1) w #[.int .u8 k0, .int .u8 k1, .int .u8 k2] 3 hb (by unfold maxLen; omega) rfl
  have HBa := HB.below ((Below.refl w.heap.size w).alloc (Nat.le_refl _) (.cells #[.int .u8 k0, .int .u8 k1, .int .u8 k2] 5)) (Nat.le_refl _)
  have key : ∀ news : List Value, news.length = n * 1 → ((a = none ∧ n = 0) ∨ ∃ ad, a = some ad ∧ ∀ j u, news[j]? = some u → (w.alloc (.cells #[.int .u8 k0, .int .u8 k1, .int .u8 k2] 5)).cell? (ad.add j) = some u) → (∀ u ∈ news, ∃ z, u = .int .u8 z ∧ 0 ≤ z ∧ z ≤ 255) → _ := fun news hl hnw hz => run_app_any Tryz.prog (w.alloc (.cells #[.int .u8 k0, .int .u8 k1, .int .u8 k2] 5)) 34 34 base 5 i0 _ 1 1 Tryz.underlying34 hi ti0 ti1 ti2 rfl (by decide) w.heap.size 3 3 _ hown a n cap news hl hnw (fun u hu => by obtain ⟨z, rfl, _⟩ := hz u hu; rfl) (by unfold maxLen; omega) (by omega) (by simp; omega)
  have fin : ∃ news : List Value, news.length = n * 1 ∧ ((a = none ∧ n = 0) ∨ ∃ ad, a = some ad ∧ ∀ j u, news[j]? = some u → (w.alloc (.cells #[.int .u8 k0, .int .u8 k1, .int .u8 k2] 5)).cell? (ad.add j) = some u) ∧ (∀ u ∈ news, ∃ z, u = .int .u8 z ∧ 0 ≤ z ∧ z ≤ 255) := by
    rcases Nat.eq_zero_or_pos n with rfl | hp
    · refine ⟨[], rfl, ?_, fun u hu => (by simp at hu)⟩
      cases a with
      | none => exact .inl ⟨rfl, rfl⟩
      | some ad => exact .inr ⟨ad, rfl, fun j u hu => (by simp at hu)⟩
    · obtain ⟨b, off, z, rfl, _⟩ := HBa 0 hp
      refine ⟨nwB (w.alloc (.cells #[.int .u8 k0, .int .u8 k1, .int .u8 k2] 5)) b off n, by rw [nwB_len, Nat.mul_one], .inr ⟨_, rfl, fun j u hu => (by rw [add_noneO]; exact (nwB_get HBa hu).2.1)⟩, fun u hu => ?_⟩
      obtain ⟨j, hj, rfl⟩ := List.getElem_of_mem hu
      exact (nwB_get HBa (List.getElem?_eq_getElem hj)).2.2
  obtain ⟨news, hl, hnw, hz⟩ := fin
  obtain ⟨g, cp, w', hr, ho, hg, _, _⟩ := key news hl hnw hz
  refine ⟨g, cp, w', hr, bytesB_row ho (fun u hu => ?_), ((Below.refl base w).alloc hb _).trans (ogrown_below hg (by simp; omega) (fun k hk => by simp at hk; omega))⟩
  rcases List.mem_append.1 hu with h | h
  · simp at h
    rcases h with rfl | rfl | rfl
    · exact ⟨_, rfl, h0⟩
    · exact ⟨_, rfl, h1⟩
    · exact ⟨_, rfl, h2⟩
  · exact hz u h
set_option maxRecDepth 100000 in
set_option maxHeartbeats 1000000 in
theorem other_c (k : Int) (a : Option Addr) (n cap : Nat) (w : World) (hn : n ≤ 4096) (k0 : 0 ≤ k) (k1 : k ≤ 80) (HB : BytesB w.heap.size w a n) : Calls Tryz.prog 17 #[.slice a n cap, .int .u8 k] w fun e w' => (∃ b cp, e = .returned (.slice (some b) (n + 3) cp) ∧ BytesB w'.heap.size w' (some b) (n + 3)) ∧ Below w.heap.size w w' := by
  have t1 : IntKind.u8.wrap (k + 7) = k + 7 := by simp [IntKind.wrap, IntKind.bits, IntKind.signed]; omega
  have t2 : IntKind.u8.wrap (3 * k) = 3 * k := by simp [IntKind.wrap, IntKind.bits, IntKind.signed]; omega
  obtain ⟨g, cp, w', hr, hb, hl⟩ := other_row w w.heap.size k (k + 7) (3 * k) a n cap hn (Nat.le_refl _) (by omega) (by omega) (by omega) HB
  have HBB := Lib.hid hb
  have HL := Lib.hid hl
  have HR := Lib.hid hr
  clear hb hl hr HB
  go_enter Tryz.func17, Tryz.ntmps17
  go_wp2_with (at_builtin; refine Lib.wpList_append_run _ rfl _ _ 34 34 rfl (.slice (some ⟨w.heap.size, 0, none⟩) 3 3) (.slice a n cap) rfl rfl _ _ HR.out ?_)
  go_ret
  exact ⟨⟨_, _, by rw [Nat.add_comm n 3]; rfl, by rw [Nat.add_comm n 3]; exact HBB.out⟩, HL.out⟩
end

section
set_option linter.unusedVariables false
open Go.RowKit Go.Deep

set_option maxRecDepth 100000 in
set_option maxHeartbeats 4000000 in
theorem w9Courses_c (x0 x1 x2 x3 x4 x5 x6 x7 : Int) (a a' : Option Addr) (cap cap' : Nat) (l : List Mk) (w : World) (hl : l.length ≤ 9223372036854775807) (h : RowAt w a (mflat l)) (h' : RowAt w a' (mflat l)) : Calls Tryz.prog 15 #[.agg #[.int .i64 x0, .int .i64 x1, .int .i64 x2, .int .i64 x3, .int .i64 x4, .int .i64 x5, .int .i64 x6, .int .i64 x7, .slice a l.length cap], .agg #[.int .i64 x0, .int .i64 x1, .int .i64 x2, .int .i64 x3, .int .i64 x4, .int .i64 x5, .int .i64 x6, .int .i64 x7, .slice a' l.length cap']] w fun e w' => e = .returned (.bool true) ∧ Below w.heap.size w w' := by
  have H0 := Lib.hid h
  have H1 := Lib.hid h'
  clear h h'
  go_enter Tryz.func15, Tryz.ntmps15
  go_wp2_with fail
  obtain ⟨W, hW⟩ : ∃ W, W = ((w.alloc (.cells #[.int .i64 x0, .int .i64 x1, .int .i64 x2, .int .i64 x3, .int .i64 x4, .int .i64 x5, .int .i64 x6, .int .i64 x7, .slice a l.length cap] 28)).alloc (.cells #[.int .i64 x0, .int .i64 x1, .int .i64 x2, .int .i64 x3, .int .i64 x4, .int .i64 x5, .int .i64 x6, .int .i64 x7, .slice a' l.length cap'] 28)) := ⟨_, rfl⟩
  have HD : Below w.heap.size w W := by subst hW; exact (by repeat (first | with_reducible exact Below.refl _ _ | with_reducible assumption | with_reducible refine Below.drew ?_ | with_reducible refine Below.alloc ?_ (by first | exact Nat.le_refl _ | (simp; done) | (simp; omega) | omega) _ | with_reducible refine Below.setCell ?_ (by first | exact Nat.le_refl _ | (simp; done) | (simp; omega) | omega) _ | with_reducible refine Below.trans ?_ (Below.mono (by with_reducible assumption) (by first | exact Nat.le_refl _ | (simp; done) | (simp; omega) | omega))))
  have b00 : W.cell? ⟨w.heap.size, 0, none⟩ = some (.int .i64 x0) := by subst hW; simp [go_sem]
  have b01 : W.cell? ⟨w.heap.size, 1, none⟩ = some (.int .i64 x1) := by subst hW; simp [go_sem]
  have b02 : W.cell? ⟨w.heap.size, 2, none⟩ = some (.int .i64 x2) := by subst hW; simp [go_sem]
  have b03 : W.cell? ⟨w.heap.size, 3, none⟩ = some (.int .i64 x3) := by subst hW; simp [go_sem]
  have b04 : W.cell? ⟨w.heap.size, 4, none⟩ = some (.int .i64 x4) := by subst hW; simp [go_sem]
  have b05 : W.cell? ⟨w.heap.size, 5, none⟩ = some (.int .i64 x5) := by subst hW; simp [go_sem]
  have b06 : W.cell? ⟨w.heap.size, 6, none⟩ = some (.int .i64 x6) := by subst hW; simp [go_sem]
  have b07 : W.cell? ⟨w.heap.size, 7, none⟩ = some (.int .i64 x7) := by subst hW; simp [go_sem]
  have b08 : W.cell? ⟨w.heap.size, 8, none⟩ = some (.slice a l.length cap) := by subst hW; simp [go_sem]
  have L0 : w.heap.size < W.heap.size := by subst hW; first | (simp; done) | (simp; omega)
  have b10 : W.cell? ⟨w.heap.size + 1, 0, none⟩ = some (.int .i64 x0) := by subst hW; simp [go_sem]
  have b11 : W.cell? ⟨w.heap.size + 1, 1, none⟩ = some (.int .i64 x1) := by subst hW; simp [go_sem]
  have b12 : W.cell? ⟨w.heap.size + 1, 2, none⟩ = some (.int .i64 x2) := by subst hW; simp [go_sem]
  have b13 : W.cell? ⟨w.heap.size + 1, 3, none⟩ = some (.int .i64 x3) := by subst hW; simp [go_sem]
  have b14 : W.cell? ⟨w.heap.size + 1, 4, none⟩ = some (.int .i64 x4) := by subst hW; simp [go_sem]
  have b15 : W.cell? ⟨w.heap.size + 1, 5, none⟩ = some (.int .i64 x5) := by subst hW; simp [go_sem]
  have b16 : W.cell? ⟨w.heap.size + 1, 6, none⟩ = some (.int .i64 x6) := by subst hW; simp [go_sem]
  have b17 : W.cell? ⟨w.heap.size + 1, 7, none⟩ = some (.int .i64 x7) := by subst hW; simp [go_sem]
  have b18 : W.cell? ⟨w.heap.size + 1, 8, none⟩ = some (.slice a' l.length cap') := by subst hW; simp [go_sem]
  have L1 : w.heap.size + 1 < W.heap.size := by subst hW; first | (simp; done) | (simp; omega)
  rw [← hW]
  clear hW
  generalize w.heap.size + 1 = B1 at *
  obtain ⟨B0, hB0⟩ : ∃ B, B = w.heap.size := ⟨_, rfl⟩
  rw [← hB0] at b00 b01 b02 b03 b04 b05 b06 b07 b08 L0
  try rw [← hB0]
  replace hB0 := Lib.hid hB0
  have F0 := Lib.hid (H0.out.below HD)
  have F1 := Lib.hid (H1.out.below HD)
  clear H0 H1
  go_wp2_with fail
  clear b00 b01 b02 b03 b04 b05 b06 b07 b10 b11 b12 b13 b14 b15 b16 b17
  go_loopw [5] (fun v wr => ∃ k : Nat, v = .int .i64 k ∧ k ≤ l.length ∧ wr.cell? ⟨B0, 8, none⟩ = some (.slice a l.length cap) ∧ wr.cell? ⟨B1, 8, none⟩ = some (.slice a' l.length cap') ∧ B0 < wr.heap.size ∧ B1 < wr.heap.size ∧ Hid (RowAt wr a (mflat l)) ∧ Hid (RowAt wr a' (mflat l)) ∧ Below w.heap.size w wr) (fun v _ => l.length - (intOf v).toNat)
  case atStart => exact ⟨0, rfl, Nat.zero_le _, b08, b18, L0, L1, F0, F1, HD⟩
  case round =>
    clear b08 b18 L0 L1 F0 F1 HD
    obtain ⟨k, rfl, hle, b08, b18, L0, L1, F0, F1, HD⟩ := hrel
    by_cases h : k < l.length
    · obtain ⟨b, off, rfl, hb, c0, c1, c2, c3, c4⟩ := mark_cell F0.out h
      obtain ⟨b', off', rfl, hb', d0, d1, d2, d3, d4⟩ := mark_cell F1.out h
      have hh : (k : Int) < (l.length : Int) := by omega
      have hh0 : (0 : Int) ≤ (k : Int) := by omega
      generalize hm : mk l k = m at *
      clear hm
      obtain ⟨n0, u0, u1, u2, u3⟩ := m
      dsimp only at c0 c1 c2 c3 c4 d0 d1 d2 d3 d4
      go_wp2_with fail
      refine wp_region_later (by kernel_rfl) (by kernel_rfl) ?_
      repeat (first | go_big_quiet_step (fail) | quiet_step (fail))
      refine wpQuiet_nil ?_
      intro _ hw'
      obtain ⟨s9, hw''⟩ := hw'
      subst hw''
      have hb := s9.below
      generalize s9.w = V2 at hb ⊢
      clear s9
      replace HD := HD.trans (hb.mono HD.size)
      obtain ⟨hc, hf⟩ := bcell hb
      have hz := hb.size
      replace b08 := (hc _ 8 L0).trans b08
      replace b18 := (hc _ 8 L1).trans b18
      replace F0 := Lib.hid (RowAt.below F0.out hb)
      replace F1 := Lib.hid (RowAt.below F1.out hb)
      replace L0 := Nat.lt_of_lt_of_le L0 hz
      replace L1 := Nat.lt_of_lt_of_le L1 hz
      clear hc hf hz hb
      clear c0 c1 c2 c3 c4 d0 d1 d2 d3 d4 hb'
      go_wp2_with fail
      exact ⟨⟨k + 1, by simp, by omega, b08, b18, L0, L1, F0, F1, HD⟩, by simp [intOf]; omega⟩
    · have hh : ¬ (k : Int) < (l.length : Int) := by omega
      go_wp2_with fail
      go_ret
      exact ⟨rfl, HD⟩
end

section
set_option linter.unusedVariables false
open Go.RowKit Go.Deep Go.ChangeShapes Go.WideShapes Go.ChangeAt

theorem returnsIn_and_shaped {H : Type} {enc : TypeId × Value → H} {a : Assume} {C : Checked} {os : Os} {f : FuncId} {fn : Func} {s : ChangeSpec} {conds : List PathCond} {apart fresh handsOn again : Bool} {X : World → Array Value → Prop}
    (hX : ∀ (w w' : World) (args : Array Value), w.heap = w'.heap → X w args → X w' args)
    (own : ownKnob C.prog.godebug = none) (started : os.Started) (noInit : C.prog.inits.idxOf? f = none) (hfn : C.prog.funcs[f]? = some fn)
    (witness : ∃ (w : World) (tape : Tape) (i : Input), w.os = os ∧ (w.forCall tape i).Shaped C.prog ∧ i.vars = [] ∧ Input.okWide C.prog (w.forCall tape i) .any w.heap.size f i ∧
      ((s.pre enc C.prog fn conds apart (w.forCall tape i).memory i.args ∧ X (w.forCall tape i).memory i.args) ∧ sizedMet enc C.prog fn (OpenSpec.ofChange s) apart (w.forCall tape i).memory i.args) ∧ a.holds C.prog (lone (Frame.enter C.prog f i.args .normal) [] (w.forCall tape i)))
    (contract : ∀ (W : World) (base : Nat) (args : Array Value) (ds gs : List (DataW H)) (before : List MemPlace),
      (∀ (j : Nat) t v, fn.params[j]? = some t → args[j]? = some v → Value.okWide C.prog W .any base t v) →
      DataW.Whole enc C.prog fn.params.toList s.vars apart W args.toList ds gs before →
      conds.all (PathCond.test C.prog ⟨fn.params.toList, ds, s.plain.varTypes C.prog, gs⟩) = true →
      (DataW.weightsEach C.prog (fn.params.toList ++ s.plain.varTypes C.prog) (ds ++ gs)).all (· ≤ reachBytes) = true → X W args → W.ShapedOpen C.prog →
      a.holds C.prog (lone (Frame.enter C.prog f args .normal) [] W) →
      Calls C.prog f args W fun e W' => ∃ v, e = .returned v ∧ s.post enc C.prog fn apart fresh handsOn again W args v W') :
    ReturnsInHanded a C os f .any (fun w args => (s.pre enc C.prog fn conds apart w args ∧ X w args) ∧ sizedMet enc C.prog fn (OpenSpec.ofChange s) apart w args) (s.post enc C.prog fn apart fresh handsOn again) := by
  refine returnsInHanded_of_calls own started noInit witness ?_
  intro w tape i _ hsh _ hok hpre hholds
  obtain ⟨_, _, _, fn', hfn', _, _, _, _, hval⟩ := hok
  have e : fn' = fn := Option.some.inj (hfn'.symm.trans hfn)
  subst e
  obtain ⟨⟨⟨ds, gs, before, hw, hc⟩, hx⟩, hz⟩ := hpre
  refine (contract (w.forCall tape i) w.heap.size i.args ds gs before hval (DataW.Whole.of_heap (w' := w.forCall tape i) (by rfl) hw) hc (hz.weights hw) (hX _ _ _ (by rfl) hx) hsh hholds).mono fun e W' ⟨v, he, hp⟩ => ?_
  subst he
  exact ChangeSpec.post_blind hp
theorem iface_laid {P : Program} {n nm : String} {d : DataW Unit} {r : List (String × DataW Unit)} {W : World} {g : Nat} {ti : TypeId} {ms : Array (String × TypeId)}
    (h : laidMet P ((n, .iface nm d) :: r) W) (hg : P.globalNamed n = some g) (ht : (P.globals[g]?).map (·.type) = some ti) (hi : P.underlying ti = some (.interface ms)) :
    ∃ tp p, W.cell? ⟨g, 0, none⟩ = some (.iface tp p) := by
  obtain ⟨ps, ⟨g0, t0, cs0, f0, p0, q0, hg0, ht0, hv0, hd0, _, e0⟩, _, hrows⟩ := h
  obtain rfl := Option.some.inj (hg.symm.trans hg0)
  obtain rfl := Option.some.inj (ht.symm.trans ht0)
  obtain ⟨l0⟩ := cs0
  obtain ⟨f1, u, v, rfl, _, _⟩ := iface_of_trod hi hd0
  exact ⟨u, v, by simpa using World.var?_cell hg0 hv0 0⟩
end
end Go.Proofs.YtjgndfphbmkhaaaGreatDoor
