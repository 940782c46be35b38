/-
  The stations of a course are points; its legs. No condition.
-/
import Derived.Test.YtbeigoejdckpiaaDoorCrsL
import Derived.Test.YtbeigoejdckpiaaDoorL02e
namespace Go.Proofs.YtbeigoejdckpiaaDoor
set_option linter.unusedVariables false
open Go.RowKit Go.Deep

theorem mid_pt {a b c d : Int} (h : isPt a b = true) (h' : isPt c d = true) : isPt (midZ a c) (midZ b d) = true := by
  obtain ⟨a1, a2, a3, a4⟩ := isPt_true h
  obtain ⟨b1, b2, b3, b4⟩ := isPt_true h'
  unfold midZ
  exact isPt_mk (by omega) (by omega) (by omega) (by omega)
theorem markOK_true {m : Mk} (h : markOK m = true) : isPt m.x m.y = true ∧ (m.s = 1 ∨ m.s = 2) ∧ 1 ≤ m.z ∧ m.z ≤ 5000 := by
  unfold markOK at h
  simp only [Bool.and_eq_true] at h
  obtain ⟨⟨⟨_, h1⟩, h2⟩, h3⟩ := h
  obtain ⟨s1, s2⟩ := inR_true h2
  obtain ⟨z1, z2⟩ := inR_true h3
  exact ⟨h1, by omega, z1, z2⟩
theorem pt_cons (p : Int × Int) (L : List (Int × Int)) (k : Nat) : pt (p :: L) (k + 1) = pt L k := rfl
theorem pt_mark  (l : List Mk) (q : Int × Int) {k : Nat} (hk : k < l.length) : pt (ptsOf l ++ [q]) k = ((mk l k).x, (mk l k).y) := by
  unfold pt ptsOf mk
  rw [List.getD_eq_getElem?_getD, List.getD_eq_getElem?_getD, List.getElem?_append_left (by simpa using hk), List.getElem?_map, List.getElem?_eq_getElem hk]
  rfl
theorem stn_mark (x0 x1 x2 x3 x4 x5 x6 x7 : Int) (l : List Mk) {k : Nat} (hk : k < l.length) : pt (stn x0 x1 x2 x3 x4 x5 x6 x7 l) (k + 1) = ((mk l k).x, (mk l k).y) := by
  unfold stn
  rw [pt_cons, pt_mark l _ hk]
theorem stn_pt {x0 x1 x2 x3 x4 x5 x6 x7 : Int} {l : List Mk} (hc : CourseP x0 x1 x2 x3 x4 x5 x6 x7 l) {k : Nat} (hk : k < l.length + 1) : isPt (pt (stn x0 x1 x2 x3 x4 x5 x6 x7 l) k).1 (pt (stn x0 x1 x2 x3 x4 x5 x6 x7 l) k).2 = true := by
  obtain ⟨h1, h2, _, _, h3, _⟩ := hc
  obtain ⟨a1, a2, _⟩ := isSeg_true h1
  cases k with
  | zero => exact mid_pt a1 a2
  | succ k =>
    rw [stn_mark _ _ _ _ _ _ _ _ l (by omega)]
    exact (markOK_true (h3 k (by omega)).1).1
theorem stn_last (x0 x1 x2 x3 x4 x5 x6 x7 : Int) (l : List Mk) : pt (stn x0 x1 x2 x3 x4 x5 x6 x7 l) (l.length + 1) = (midZ x4 x6, midZ x5 x7) := by
  unfold stn
  rw [pt_cons]
  unfold pt
  rw [List.getD_eq_getElem?_getD, List.getElem?_append_right (by simp [ptsOf])]
  simp [ptsOf]
theorem stn_ptL {x0 x1 x2 x3 x4 x5 x6 x7 : Int} {l : List Mk} (hc : CourseP x0 x1 x2 x3 x4 x5 x6 x7 l) {k : Nat} (hk : k < l.length + 2) : isPt (pt (stn x0 x1 x2 x3 x4 x5 x6 x7 l) k).1 (pt (stn x0 x1 x2 x3 x4 x5 x6 x7 l) k).2 = true := by
  by_cases h : k < l.length + 1
  · exact stn_pt hc h
  · rw [show k = l.length + 1 by omega, stn_last]
    obtain ⟨_, h2, _⟩ := hc
    obtain ⟨a1, a2, _⟩ := isSeg_true h2
    exact mid_pt a1 a2

/-- the length of a leg -/
def legZ (L : List (Int × Int)) (i : Nat) : Int := rootZ (sqZ (pt L i).1 (pt L i).2 (pt L (i + 1)).1 (pt L (i + 1)).2)
def lens (L : List (Int × Int)) (n : Nat) : List Int := (List.range n).map (legZ L)
def nflat (l : List Int) : List Value := l.map (fun x => Value.int .i64 x)
theorem nflat_length (l : List Int) : (nflat l).length = l.length * 1 := by simp [nflat]
theorem lens_len (L : List (Int × Int)) (n : Nat) : (lens L n).length = n := by simp [lens]
theorem lens_succ (L : List (Int × Int)) (n : Nat) : nflat (lens L n) ++ [Value.int .i64 (legZ L n)] = nflat (lens L (n + 1)) := by
  simp [lens, nflat, List.range_succ]
noncomputable def llR (x0 x1 x2 x3 x4 x5 x6 x7 : Int) (l : List Mk) : List Int × Int := if courseOK x0 x1 x2 x3 x4 x5 x6 x7 l = true then (lens (stn x0 x1 x2 x3 x4 x5 x6 x7 l) (l.length + 1), 0) else ([], 1)
theorem llR_len (x0 x1 x2 x3 x4 x5 x6 x7 : Int) (l : List Mk) : (llR x0 x1 x2 x3 x4 x5 x6 x7 l).1.length ≤ 10 := by
  unfold llR
  split
  · rename_i h
    have := (courseOK_true h).2.2.2.1
    rw [lens_len]
    omega
  · exact Nat.zero_le _
theorem kept_grown {g : Nat} {w w' : World} (h : w.grownBy w' (some g)) : Kept g w w' := ⟨h.os, h.tape, h.output, h.size, fun k hk hn => h.block k hk (fun e => hn (Option.some.inj e))⟩
theorem kg {g : Nat} {w w' : World} (h : Kept g w w') : w.grownBy w' (some g) := ⟨h.os, h.tape, h.output, h.size, fun k hk hn => h.block k hk (fun e => hn (by rw [e]))⟩
theorem sK {g : Nat} {W wx : World} (h : Kept g W wx) : Kept g W wx ∧ ∀ b o, b < W.heap.size → b ≠ g → wx.cell? ⟨b, o, none⟩ = W.cell? ⟨b, o, none⟩ := ⟨h, (kcell h).1⟩
theorem heap_newP {w : World} {o : Obj} {n : Nat} (h : w.heap.size = n) : (w.alloc o).heap[n]? = some o := h ▸ heap_alloc_new w o
theorem one1 (a : Int) : ∀ u ∈ [Value.int .i64 a], u.oneCell' = true := by
  intro u hu
  simp at hu
  subst hu
  rfl
theorem infoI : (Tryd.prog.info? 2).map (fun i => (i.zero, i.size, i.bytes)) = some (some (.int .i64 0), 1, 8) := by kernel_rfl
theorem eqPoint_xx : True := trivial
theorem num_cell {w : World} {a : Option Addr} {k : Nat} {L : List Int} (h : RowAt w a (nflat L)) (hk : k < L.length) : ∃ b off, a = some ⟨b, off, none⟩ ∧ b < w.heap.size ∧ w.cell? ⟨b, off + k, none⟩ = some (.int .i64 (L.getD k 0)) := by
  have hv : (nflat L)[k]? = some (.int .i64 (L.getD k 0)) := by simp [nflat, hk]
  obtain ⟨b, off, ha, hlt, hc⟩ := h k _ hv
  exact ⟨b, off, ha, hlt, hc⟩
set_option maxHeartbeats 2000000 in
theorem eqInt64S_c (a a' : Option Addr) (cap cap' : Nat) (L : List Int) (w : World) (hl : L.length ≤ 4611686018427387904) (hf : RowAt w a (nflat L)) (hf' : RowAt w a' (nflat L)) : Calls Tryd.prog 42 #[.slice a L.length cap, .slice a' L.length cap'] w fun e w' => e = .returned (.bool true) ∧ Below w.heap.size w w' := by
  have H0 := Lib.hid hf
  have H1 := Lib.hid hf'
  clear hf hf'
  go_enter Tryd.func42, Tryd.ntmps42
  go_wp2
  go_loopw [5] (fun x wr => ∃ k : Nat, x = .int .i64 k ∧ k ≤ L.length ∧ Below w.heap.size w wr) (fun x _ => L.length - (intOf x).toNat)
  case atStart => exact ⟨0, rfl, Nat.zero_le _, Below.refl _ _⟩
  case round =>
    obtain ⟨k, rfl, hk, hbl⟩ := hrel
    by_cases h : k < L.length
    · obtain ⟨b, off, rfl, hlt, c0⟩ := num_cell (H0.out.below hbl) h
      obtain ⟨b', off', rfl, hlt', d0⟩ := num_cell (H1.out.below hbl) h
      have h' : (k : Int) < (L.length : Int) := by omega
      generalize L.getD k 0 = x at *
      go_wp2
      refine wp_region_later (by kernel_rfl) (by kernel_rfl) ?_
      repeat (first | go_big_quiet_step (fail) | quiet_step (fail))
      refine wpQuiet_nil ?_
      intro _ hw'
      obtain ⟨sk6, hw''⟩ := hw'
      subst hw''
      have hbk6 := sk6.below
      generalize sk6.w = wk6 at hbk6 ⊢
      clear sk6
      try replace hbk6 := below_trans (by with_reducible assumption) hbk6
      obtain ⟨hck6, hfk6⟩ := bcell hbk6
      have hzk6 := hbk6.size
      try simp at hzk6
      try have hzk60 : w.heap.size ≤ wk6.heap.size := by omega
      try have hzk61 : w.heap.size < wk6.heap.size := by omega
      try have hzk62 : w.heap.size + 1 < wk6.heap.size := by omega
      try have hzk63 : w.heap.size + 1 + 1 < wk6.heap.size := by omega
      try have hzk64 : w.heap.size + 1 + 1 + 1 < wk6.heap.size := by omega
      go_wp2
      exact ⟨⟨k + 1, by simp, by omega, by first | exact hbk6 | exact hbl.trans (hbk6.mono hbl.size)⟩, by simp [intOf]; omega⟩
    · have h' : (L.length : Int) ≤ (k : Int) := by omega
      go_wp2
      go_ret
      exact ⟨rfl, hbl⟩
end Go.Proofs.YtbeigoejdckpiaaDoor
