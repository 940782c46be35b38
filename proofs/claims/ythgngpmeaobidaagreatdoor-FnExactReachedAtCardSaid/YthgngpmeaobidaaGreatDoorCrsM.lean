/-
  The stations of a course, both sides. Conditions: where its marks lie.
  The stations of a course are points; its legs. No condition.
-/
import Derived.Test.YthgngpmeaobidaaGreatDoorCrsK
import Derived.Test.YthgngpmeaobidaaGreatDoorL02e
namespace Go.Proofs.YthgngpmeaobidaaGreatDoor
section
set_option linter.unusedVariables false
open Go.RowKit Go.Deep

noncomputable def stnR (x0 x1 x2 x3 x4 x5 x6 x7 : Int) (l : List Mk) : List (Int × Int) × Int := if courseOK x0 x1 x2 x3 x4 x5 x6 x7 l = true then (stn x0 x1 x2 x3 x4 x5 x6 x7 l, 0) else ([], 1)
theorem stnR_len (x0 x1 x2 x3 x4 x5 x6 x7 : Int) (l : List Mk) : (stnR x0 x1 x2 x3 x4 x5 x6 x7 l).1.length ≤ 10 := by
  unfold stnR
  split
  · rename_i h
    have := (courseOK_true h).2.2.2.1
    rw [stn_len]
    omega
  · exact Nat.zero_le _
theorem row_ownP {w : World} {a : Option Addr} {base n cap size : Nat} {e : TypeId} {xs : List Value} (h : w.ownsRow base e size (.slice a n cap) n xs) (hs : xs.length = n * size) : RowAt w a xs := fun i v hv => by
  have hi : i < n * size := by rw [← hs]; exact (List.getElem?_eq_some_iff.1 hv).1
  have hn : 0 < n := by rcases Nat.eq_zero_or_pos n with h' | h'; subst h'; omega; exact h'
  obtain ⟨g, rfl, h1, h2⟩ := own_some h hn
  exact ⟨g, 0, rfl, h2, by rw [Nat.zero_add]; exact (h.cellAt i hi).trans hv⟩
theorem own_keptP {w w' : World} {base size n : Nat} {e : TypeId} {v : Value} {xs : List Value} {row : Option Nat} (h : w.ownsRow base e size v n xs) (hg : w.grownBy w' row) (hne : ∀ k, v.ownBlock = some k → row ≠ some k) : w'.ownsRow base e size v n xs := by
  refine h.kept hg ?_
  cases hv : v.ownBlock with
  | none => exact .inl rfl
  | some k => exact .inr fun e => hne k hv e.symm
end

section
set_option linter.unusedVariables false
open Go.RowKit Go.Deep

theorem mid_pt {a b c d : Int} (h : isPt a b = true) (h' : isPt c d = true) : isPt (midZ a c) (midZ b d) = true := by
  obtain ⟨a1, a2, a3, a4⟩ := isPt_true h
  obtain ⟨b1, b2, b3, b4⟩ := isPt_true h'
  unfold midZ
  exact isPt_mk (by omega) (by omega) (by omega) (by omega)
theorem markOK_true {m : Mk} (h : markOK m = true) : isPt m.x m.y = true ∧ (m.s = 1 ∨ m.s = 2) ∧ 1 ≤ m.z ∧ m.z ≤ 5000 := by
  unfold markOK at h
  simp only [Bool.and_eq_true] at h
  obtain ⟨⟨⟨_, h1⟩, h2⟩, h3⟩ := h
  obtain ⟨s1, s2⟩ := inR_true h2
  obtain ⟨z1, z2⟩ := inR_true h3
  exact ⟨h1, by omega, z1, z2⟩
theorem pt_cons (p : Int × Int) (L : List (Int × Int)) (k : Nat) : pt (p :: L) (k + 1) = pt L k := rfl
theorem pt_mark  (l : List Mk) (q : Int × Int) {k : Nat} (hk : k < l.length) : pt (ptsOf l ++ [q]) k = ((mk l k).x, (mk l k).y) := by
  unfold pt ptsOf mk
  rw [List.getD_eq_getElem?_getD, List.getD_eq_getElem?_getD, List.getElem?_append_left (by simpa using hk), List.getElem?_map, List.getElem?_eq_getElem hk]
  rfl
theorem stn_mark (x0 x1 x2 x3 x4 x5 x6 x7 : Int) (l : List Mk) {k : Nat} (hk : k < l.length) : pt (stn x0 x1 x2 x3 x4 x5 x6 x7 l) (k + 1) = ((mk l k).x, (mk l k).y) := by
  unfold stn
  rw [pt_cons, pt_mark l _ hk]
theorem stn_pt {x0 x1 x2 x3 x4 x5 x6 x7 : Int} {l : List Mk} (hc : CourseP x0 x1 x2 x3 x4 x5 x6 x7 l) {k : Nat} (hk : k < l.length + 1) : isPt (pt (stn x0 x1 x2 x3 x4 x5 x6 x7 l) k).1 (pt (stn x0 x1 x2 x3 x4 x5 x6 x7 l) k).2 = true := by
  obtain ⟨h1, h2, _, _, h3, _⟩ := hc
  obtain ⟨a1, a2, _⟩ := isSeg_true h1
  cases k with
  | zero => exact mid_pt a1 a2
  | succ k =>
    rw [stn_mark _ _ _ _ _ _ _ _ l (by omega)]
    exact (markOK_true (h3 k (by omega)).1).1
theorem stn_last (x0 x1 x2 x3 x4 x5 x6 x7 : Int) (l : List Mk) : pt (stn x0 x1 x2 x3 x4 x5 x6 x7 l) (l.length + 1) = (midZ x4 x6, midZ x5 x7) := by
  unfold stn
  rw [pt_cons]
  unfold pt
  rw [List.getD_eq_getElem?_getD, List.getElem?_append_right (by simp [ptsOf])]
  simp [ptsOf]
theorem stn_ptL {x0 x1 x2 x3 x4 x5 x6 x7 : Int} {l : List Mk} (hc : CourseP x0 x1 x2 x3 x4 x5 x6 x7 l) {k : Nat} (hk : k < l.length + 2) : isPt (pt (stn x0 x1 x2 x3 x4 x5 x6 x7 l) k).1 (pt (stn x0 x1 x2 x3 x4 x5 x6 x7 l) k).2 = true := by
  by_cases h : k < l.length + 1
  · exact stn_pt hc h
  · rw [show k = l.length + 1 by omega, stn_last]
    obtain ⟨_, h2, _⟩ := hc
    obtain ⟨a1, a2, _⟩ := isSeg_true h2
    exact mid_pt a1 a2

/-- the length of a leg -/
def legZ (L : List (Int × Int)) (i : Nat) : Int := rootZ (sqZ (pt L i).1 (pt L i).2 (pt L (i + 1)).1 (pt L (i + 1)).2)
def lens (L : List (Int × Int)) (n : Nat) : List Int := (List.range n).map (legZ L)
def nflat (l : List Int) : List Value := l.map (fun x => Value.int .i64 x)
theorem nflat_length (l : List Int) : (nflat l).length = l.length * 1 := by simp [nflat]
theorem lens_len (L : List (Int × Int)) (n : Nat) : (lens L n).length = n := by simp [lens]
theorem lens_succ (L : List (Int × Int)) (n : Nat) : nflat (lens L n) ++ [Value.int .i64 (legZ L n)] = nflat (lens L (n + 1)) := by
  simp [lens, nflat, List.range_succ]
noncomputable def llR (x0 x1 x2 x3 x4 x5 x6 x7 : Int) (l : List Mk) : List Int × Int := if courseOK x0 x1 x2 x3 x4 x5 x6 x7 l = true then (lens (stn x0 x1 x2 x3 x4 x5 x6 x7 l) (l.length + 1), 0) else ([], 1)
theorem llR_len (x0 x1 x2 x3 x4 x5 x6 x7 : Int) (l : List Mk) : (llR x0 x1 x2 x3 x4 x5 x6 x7 l).1.length ≤ 10 := by
  unfold llR
  split
  · rename_i h
    have := (courseOK_true h).2.2.2.1
    rw [lens_len]
    omega
  · exact Nat.zero_le _
theorem kept_grown {g : Nat} {w w' : World} (h : w.grownBy w' (some g)) : Kept g w w' := ⟨h.os, h.tape, h.output, h.size, fun k hk hn => h.block k hk (fun e => hn (Option.some.inj e))⟩
theorem kg {g : Nat} {w w' : World} (h : Kept g w w') : w.grownBy w' (some g) := ⟨h.os, h.tape, h.output, h.size, fun k hk hn => h.block k hk (fun e => hn (by rw [e]))⟩
theorem sK {g : Nat} {W wx : World} (h : Kept g W wx) : Kept g W wx ∧ ∀ b o, b < W.heap.size → b ≠ g → wx.cell? ⟨b, o, none⟩ = W.cell? ⟨b, o, none⟩ := ⟨h, (kcell h).1⟩
theorem heap_newP {w : World} {o : Obj} {n : Nat} (h : w.heap.size = n) : (w.alloc o).heap[n]? = some o := h ▸ heap_alloc_new w o
theorem one1 (a : Int) : ∀ u ∈ [Value.int .i64 a], u.oneCell' = true := by
  intro u hu
  simp at hu
  subst hu
  rfl
theorem infoI : (Tryz.prog.info? 2).map (fun i => (i.zero, i.size, i.bytes)) = some (some (.int .i64 0), 1, 8) := by kernel_rfl
theorem eqPoint_xx : True := trivial
end
end Go.Proofs.YthgngpmeaobidaaGreatDoor
