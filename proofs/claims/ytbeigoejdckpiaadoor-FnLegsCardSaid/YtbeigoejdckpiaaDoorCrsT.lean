/-
  A course made shorter, both sides. Conditions: where its marks lie.
-/
import Derived.Test.YtbeigoejdckpiaaDoorCrsO
import Derived.Test.YtbeigoejdckpiaaDoorCrsG
import Derived.Maps.AppendAt
import Derived.Lib.LazyBuf
import Derived.Deep.AppendLies
namespace Go.Proofs.YtbeigoejdckpiaaDoor
set_option linter.unusedVariables false
open Go.RowKit Go.Deep

theorem row_news {w : World} {b off : Nat} {xs : List Value} (h : RowAt w (some ⟨b, off, none⟩) xs) : ∀ j u, xs[j]? = some u → w.cell? ((⟨b, off, none⟩ : Addr).add j) = some u := fun j u hu => by
  obtain ⟨b', off', ha, _, hc⟩ := h j u hu
  simp at ha
  obtain ⟨rfl, rfl⟩ := ha
  rw [add_noneC]
  exact hc
theorem mflat_one : ∀ l : List Mk, ∀ u ∈ mflat l, u.oneCell' = true
  | [], u, h => by simp [mflat] at h
  | m :: l, u, h => by
    simp only [mflat, List.mem_cons] at h
    rcases h with rfl | rfl | rfl | rfl | rfl | h
    · rfl
    · rfl
    · rfl
    · rfl
    · rfl
    · exact mflat_one l u h
/-- the answer -/
structure Sh where
  z0 : Int
  z1 : Int
  z2 : Int
  z3 : Int
  z4 : Int
  z5 : Int
  z6 : Int
  z7 : Int
  m : List Mk
  c : Int
noncomputable def shR (x0 x1 x2 x3 x4 x5 x6 x7 : Int) (l : List Mk) (k y0 y1 y2 y3 : Int) : Sh := if courseOK x0 x1 x2 x3 x4 x5 x6 x7 l = true then (if inR k 1 (l.length : Int) = true then (if courseOK x0 x1 x2 x3 y0 y1 y2 y3 (l.take k.toNat) = true then ⟨x0, x1, x2, x3, y0, y1, y2, y3, l.take k.toNat, 0⟩ else ⟨0, 0, 0, 0, 0, 0, 0, 0, [], 5⟩) else ⟨0, 0, 0, 0, 0, 0, 0, 0, [], 2⟩) else ⟨0, 0, 0, 0, 0, 0, 0, 0, [], 1⟩
theorem shR_len (x0 x1 x2 x3 x4 x5 x6 x7 : Int) (l : List Mk) (k y0 y1 y2 y3 : Int) : (shR x0 x1 x2 x3 x4 x5 x6 x7 l k y0 y1 y2 y3).m.length ≤ 8 := by
  unfold shR
  split
  · rename_i h
    have := (courseOK_true h).2.2.2.1
    split
    · split
      · simp only [List.length_take]; omega
      · exact Nat.zero_le _
    · exact Nat.zero_le _
  · exact Nat.zero_le _
theorem own_capG {w : World} {base r n cap size : Nat} {e : TypeId} {xs : List Value} (h : w.ownsRow base e size (.slice (some ⟨r, 0, none⟩) n cap) n xs) : n ≤ cap := by
  obtain ⟨h1, h2⟩ := h
  rcases h2 with ⟨h2, _⟩ | ⟨g', cap', cur, hv', hg, hh, hc, _⟩
  · simp at h2
  · simp at hv'
    obtain ⟨rfl, rfl⟩ := hv'
    omega
theorem own_lit5 (w : World) (o : Obj) (e : TypeId) {base : Nat} (hb : base ≤ w.heap.size) : ((w.alloc o).alloc (.cells #[] e)).ownsRow base e 5 (.slice (some ⟨w.heap.size + 1, 0, none⟩) 0 0) 0 [] := by
  have h := World.ownsRow_lit (base := base) (e := e) (size := 5) (w.alloc o) #[] 0 (by simp; omega) (by unfold maxLen; omega) rfl
  rw [show (w.alloc o).heap.size = w.heap.size + 1 by simp] at h
  exact h
set_option maxRecDepth 100000 in
set_option maxHeartbeats 1000000 in
theorem cloneMk_c (b off cap : Nat) (l : List Mk) (w : World) (h1 : 1 ≤ l.length) (hl : l.length ≤ 1000) (h : RowAt w (some ⟨b, off, none⟩) (mflat l)) :
    Calls Tryd.prog 61 #[.slice (some ⟨b, off, none⟩) l.length cap] w fun e w' => (∃ g cp : Nat, e = .returned (.slice (some ⟨g, 0, none⟩) l.length cp) ∧ w'.ownsRow w.heap.size 64 5 (.slice (some ⟨g, 0, none⟩) l.length cp) l.length (mflat l)) ∧ Below w.heap.size w w' := by
  obtain ⟨i0, hi, ti0, ti1, ti2⟩ := info_parts infoMk
  have H := Lib.hid h
  clear h
  have hq : (binOp .eql 34 (.slice (some ⟨b, off, none⟩) l.length cap) (.slice none 0 0)).run Tryd.prog w = .ok (.bool false) w := Lib.run_eql_slice_nil (P := Tryd.prog) w 34 64 (some ⟨b, off, none⟩) l.length cap 0 0 Tryd.underlying34
  go_enter Tryd.func61, Tryd.ntmps61
  go_wp2_with (at_builtin; refine wpList_append_lies _ rfl _ _ 34 rfl w.heap.size 64 i0 _ 5 48 Tryd.underlying34 hi ti0 ti1 ti2 rfl (by decide) (.slice (some ⟨w.heap.size, 0, none⟩) 0 0) 0 [] rfl (World.ownsRow_lit w #[] 0 (Nat.le_refl _) (by unfold maxLen; omega) rfl) ⟨b, off, none⟩ l.length cap (mflat l) rfl (mflat_length l) (row_news (H.out.below ((Below.refl _ _).alloc (Nat.le_refl _) _))) (mflat_one l) (by omega) (by unfold maxLen; omega) (by omega) (by simp) (w.heap.size + 1) (by simp) ?_; intro g cp w1 hown1 hgrow1 hat1 hlt1)
  have hG := pgrown_below (base := w.heap.size) hgrow1 (by simp) (by intro j e; simp [Value.ownBlock] at e; omega)
  rw [Nat.zero_add, List.nil_append] at hown1
  go_wp2
  exact bodyPost_ret (v := .slice (some ⟨g, 0, none⟩) (0 + l.length) cp) (by simp [results, Tryd.results61, go_sem]) rfl ⟨⟨g, cp, by rw [Nat.zero_add], hown1⟩, ((Below.refl w.heap.size w).alloc (Nat.le_refl _) _).trans hG⟩
theorem held_set9 {W w0 : World} {B : Nat} (h : Below W.heap.size W w0 ∧ ∀ b o, b < W.heap.size → (w0).cell? ⟨b, o, none⟩ = W.cell? ⟨b, o, none⟩) (hB : W.heap.size ≤ B) (v0 v1 v2 v3 v4 v5 v6 v7 v8 : Value) : Below W.heap.size W (((((((((w0.setCell ⟨B, 0, none⟩ v0).setCell ⟨B, 1, none⟩ v1).setCell ⟨B, 2, none⟩ v2).setCell ⟨B, 3, none⟩ v3).setCell ⟨B, 4, none⟩ v4).setCell ⟨B, 5, none⟩ v5).setCell ⟨B, 6, none⟩ v6).setCell ⟨B, 7, none⟩ v7).setCell ⟨B, 8, none⟩ v8) ∧ ∀ b o, b < W.heap.size → ((((((((((w0.setCell ⟨B, 0, none⟩ v0).setCell ⟨B, 1, none⟩ v1).setCell ⟨B, 2, none⟩ v2).setCell ⟨B, 3, none⟩ v3).setCell ⟨B, 4, none⟩ v4).setCell ⟨B, 5, none⟩ v5).setCell ⟨B, 6, none⟩ v6).setCell ⟨B, 7, none⟩ v7).setCell ⟨B, 8, none⟩ v8)).cell? ⟨b, o, none⟩ = W.cell? ⟨b, o, none⟩ := (held_set (held_set (held_set (held_set (held_set (held_set (held_set (held_set (held_set h (p := ⟨B, 0, none⟩) hB v0) (p := ⟨B, 1, none⟩) hB v1) (p := ⟨B, 2, none⟩) hB v2) (p := ⟨B, 3, none⟩) hB v3) (p := ⟨B, 4, none⟩) hB v4) (p := ⟨B, 5, none⟩) hB v5) (p := ⟨B, 6, none⟩) hB v6) (p := ⟨B, 7, none⟩) hB v7) (p := ⟨B, 8, none⟩) hB v8)
set_option maxRecDepth 100000 in
set_option maxHeartbeats 4000000 in
theorem ShortenCourse_c (x0 x1 x2 x3 x4 x5 x6 x7 : Int) (a : Option Addr) (cap : Nat) (l : List Mk) (k y0 y1 y2 y3 : Int) (w : World) (hl : l.length ≤ 4611686018427387904) (h : RowAt w a (mflat l)) (hs : ∀ i, i < l.length → (mk l i).name.size ≤ maxLen) (hcap : l.length ≤ cap) :
    Calls Tryd.prog 21 #[.agg #[.int .i64 x0, .int .i64 x1, .int .i64 x2, .int .i64 x3, .int .i64 x4, .int .i64 x5, .int .i64 x6, .int .i64 x7, .slice a l.length cap], .int .i64 k, .agg #[.int .i64 y0, .int .i64 y1, .int .i64 y2, .int .i64 y3]] w fun e w' => (∃ (a' : Option Addr) (cap' : Nat), e = .returned (.tuple #[.agg #[.int .i64 (shR x0 x1 x2 x3 x4 x5 x6 x7 l k y0 y1 y2 y3).z0, .int .i64 (shR x0 x1 x2 x3 x4 x5 x6 x7 l k y0 y1 y2 y3).z1, .int .i64 (shR x0 x1 x2 x3 x4 x5 x6 x7 l k y0 y1 y2 y3).z2, .int .i64 (shR x0 x1 x2 x3 x4 x5 x6 x7 l k y0 y1 y2 y3).z3, .int .i64 (shR x0 x1 x2 x3 x4 x5 x6 x7 l k y0 y1 y2 y3).z4, .int .i64 (shR x0 x1 x2 x3 x4 x5 x6 x7 l k y0 y1 y2 y3).z5, .int .i64 (shR x0 x1 x2 x3 x4 x5 x6 x7 l k y0 y1 y2 y3).z6, .int .i64 (shR x0 x1 x2 x3 x4 x5 x6 x7 l k y0 y1 y2 y3).z7, .slice a' (shR x0 x1 x2 x3 x4 x5 x6 x7 l k y0 y1 y2 y3).m.length cap'], .int .i64 (shR x0 x1 x2 x3 x4 x5 x6 x7 l k y0 y1 y2 y3).c]) ∧ w'.ownsRow w.heap.size 64 5 (.slice a' (shR x0 x1 x2 x3 x4 x5 x6 x7 l k y0 y1 y2 y3).m.length cap') (shR x0 x1 x2 x3 x4 x5 x6 x7 l k y0 y1 y2 y3).m.length (mflat (shR x0 x1 x2 x3 x4 x5 x6 x7 l k y0 y1 y2 y3).m)) ∧ Below w.heap.size w w' := by
  have H0 := Lib.hid h
  have HS := Lib.hid hs
  clear h hs
  go_enter Tryd.func21, Tryd.ntmps21
  go_wp2_with fail
  obtain ⟨W, hW⟩ : ∃ W, W = (((w.alloc (.cells #[.int .i64 x0, .int .i64 x1, .int .i64 x2, .int .i64 x3, .int .i64 x4, .int .i64 x5, .int .i64 x6, .int .i64 x7, .slice a l.length cap] 36)).alloc (.cells #[.int .i64 y0, .int .i64 y1, .int .i64 y2, .int .i64 y3] 33)).alloc (.cells #[.int .i64 0, .int .i64 0, .int .i64 0, .int .i64 0, .int .i64 0, .int .i64 0, .int .i64 0, .int .i64 0, .slice none 0 0] 36)) := ⟨_, rfl⟩
  have HD : Below w.heap.size w W := by subst hW; exact (by repeat (first | with_reducible exact Below.refl _ _ | with_reducible assumption | with_reducible refine Below.drew ?_ | with_reducible refine Below.alloc ?_ (by first | exact Nat.le_refl _ | (simp; done) | (simp; omega) | omega) _ | with_reducible refine Below.setCell ?_ (by first | exact Nat.le_refl _ | (simp; done) | (simp; omega) | omega) _ | with_reducible refine Below.trans ?_ (Below.mono (by with_reducible assumption) (by first | exact Nat.le_refl _ | (simp; done) | (simp; omega) | omega))))
  have b00 : W.cell? ⟨w.heap.size, 0, none⟩ = some (.int .i64 x0) := by subst hW; simp [go_sem]
  have b01 : W.cell? ⟨w.heap.size, 1, none⟩ = some (.int .i64 x1) := by subst hW; simp [go_sem]
  have b02 : W.cell? ⟨w.heap.size, 2, none⟩ = some (.int .i64 x2) := by subst hW; simp [go_sem]
  have b03 : W.cell? ⟨w.heap.size, 3, none⟩ = some (.int .i64 x3) := by subst hW; simp [go_sem]
  have b04 : W.cell? ⟨w.heap.size, 4, none⟩ = some (.int .i64 x4) := by subst hW; simp [go_sem]
  have b05 : W.cell? ⟨w.heap.size, 5, none⟩ = some (.int .i64 x5) := by subst hW; simp [go_sem]
  have b06 : W.cell? ⟨w.heap.size, 6, none⟩ = some (.int .i64 x6) := by subst hW; simp [go_sem]
  have b07 : W.cell? ⟨w.heap.size, 7, none⟩ = some (.int .i64 x7) := by subst hW; simp [go_sem]
  have b08 : W.cell? ⟨w.heap.size, 8, none⟩ = some (.slice a l.length cap) := by subst hW; simp [go_sem]
  have L0 : w.heap.size < W.heap.size := by subst hW; first | (simp; done) | (simp; omega)
  have b10 : W.cell? ⟨w.heap.size + 1, 0, none⟩ = some (.int .i64 y0) := by subst hW; simp [go_sem]
  have b11 : W.cell? ⟨w.heap.size + 1, 1, none⟩ = some (.int .i64 y1) := by subst hW; simp [go_sem]
  have b12 : W.cell? ⟨w.heap.size + 1, 2, none⟩ = some (.int .i64 y2) := by subst hW; simp [go_sem]
  have b13 : W.cell? ⟨w.heap.size + 1, 3, none⟩ = some (.int .i64 y3) := by subst hW; simp [go_sem]
  have L1 : w.heap.size + 1 < W.heap.size := by subst hW; first | (simp; done) | (simp; omega)
  have b20 : W.cell? ⟨w.heap.size + 1 + 1, 0, none⟩ = some (.int .i64 0) := by subst hW; simp [go_sem]
  have b21 : W.cell? ⟨w.heap.size + 1 + 1, 1, none⟩ = some (.int .i64 0) := by subst hW; simp [go_sem]
  have b22 : W.cell? ⟨w.heap.size + 1 + 1, 2, none⟩ = some (.int .i64 0) := by subst hW; simp [go_sem]
  have b23 : W.cell? ⟨w.heap.size + 1 + 1, 3, none⟩ = some (.int .i64 0) := by subst hW; simp [go_sem]
  have b24 : W.cell? ⟨w.heap.size + 1 + 1, 4, none⟩ = some (.int .i64 0) := by subst hW; simp [go_sem]
  have b25 : W.cell? ⟨w.heap.size + 1 + 1, 5, none⟩ = some (.int .i64 0) := by subst hW; simp [go_sem]
  have b26 : W.cell? ⟨w.heap.size + 1 + 1, 6, none⟩ = some (.int .i64 0) := by subst hW; simp [go_sem]
  have b27 : W.cell? ⟨w.heap.size + 1 + 1, 7, none⟩ = some (.int .i64 0) := by subst hW; simp [go_sem]
  have b28 : W.cell? ⟨w.heap.size + 1 + 1, 8, none⟩ = some (.slice none 0 0) := by subst hW; simp [go_sem]
  have L2 : w.heap.size + 1 + 1 < W.heap.size := by subst hW; first | (simp; done) | (simp; omega)
  have n12 : w.heap.size + 1 ≠ w.heap.size + 1 + 1 := by omega
  have n02 : w.heap.size ≠ w.heap.size + 1 + 1 := by omega
  have n01 : w.heap.size ≠ w.heap.size + 1 := by omega
  have R2 : w.heap.size ≤ w.heap.size + 1 + 1 := by omega
  have fz2 : ∀ o, W.frozen? ⟨w.heap.size + 1 + 1, o, none⟩ = false := by subst hW; intro o; simp [go_sem]
  rw [← hW]
  clear hW
  generalize w.heap.size + 1 + 1 = B2 at *
  generalize w.heap.size + 1 = B1 at *
  obtain ⟨B0, hB0⟩ : ∃ B, B = w.heap.size := ⟨_, rfl⟩
  rw [← hB0] at b00 b01 b02 b03 b04 b05 b06 b07 b08 L0
  try rw [← hB0]
  replace hB0 := Lib.hid hB0
  try rw [← hB0.out] at n01 n02
  have FV := Lib.hid (H0.out.below HD)
  clear H0
  cases e : courseOK x0 x1 x2 x3 x4 x5 x6 x7 l
  case false =>
    have HF := Lib.hid (show shR x0 x1 x2 x3 x4 x5 x6 x7 l k y0 y1 y2 y3 = ⟨0, 0, 0, 0, 0, 0, 0, 0, [], 1⟩ by unfold shR; rw [if_neg (by rw [e]; decide)])
    have cc := IsCourse_c x0 x1 x2 x3 x4 x5 x6 x7 a cap l W hl FV.out HS.out hcap
    rw [e] at cc
    clear e
    refine (cc).mono ?_
    rintro e V1 ⟨rfl, hb⟩
    clear cc
    replace HD := HD.trans (hb.mono HD.size)
    obtain ⟨hc, hf⟩ := bcell hb
    have hz := hb.size
    replace b00 := (hc _ 0 L0).trans b00
    replace b01 := (hc _ 1 L0).trans b01
    replace b02 := (hc _ 2 L0).trans b02
    replace b03 := (hc _ 3 L0).trans b03
    replace b04 := (hc _ 4 L0).trans b04
    replace b05 := (hc _ 5 L0).trans b05
    replace b06 := (hc _ 6 L0).trans b06
    replace b07 := (hc _ 7 L0).trans b07
    replace b08 := (hc _ 8 L0).trans b08
    replace b10 := (hc _ 0 L1).trans b10
    replace b11 := (hc _ 1 L1).trans b11
    replace b12 := (hc _ 2 L1).trans b12
    replace b13 := (hc _ 3 L1).trans b13
    replace b20 := (hc _ 0 L2).trans b20
    replace b21 := (hc _ 1 L2).trans b21
    replace b22 := (hc _ 2 L2).trans b22
    replace b23 := (hc _ 3 L2).trans b23
    replace b24 := (hc _ 4 L2).trans b24
    replace b25 := (hc _ 5 L2).trans b25
    replace b26 := (hc _ 6 L2).trans b26
    replace b27 := (hc _ 7 L2).trans b27
    replace b28 := (hc _ 8 L2).trans b28
    replace fz2 := fun o => (hf _ o L2).trans (fz2 o)
    replace FV := Lib.hid (RowAt.below FV.out hb)
    replace L0 := Nat.lt_of_lt_of_le L0 hz
    replace L1 := Nat.lt_of_lt_of_le L1 hz
    replace L2 := Nat.lt_of_lt_of_le L2 hz
    clear hc hf hz hb
    go_wp2_with fail
    exact bodyPost_ret (v := .tuple #[.agg #[.int .i64 0, .int .i64 0, .int .i64 0, .int .i64 0, .int .i64 0, .int .i64 0, .int .i64 0, .int .i64 0, .slice none 0 0], .int .i64 1]) (by simp [results, Tryd.results21, go_sem, *]) rfl ⟨⟨none, 0, by rw [HF.out]; rfl, by rw [HF.out]; exact World.ownsRow_nil _ _ _ _⟩, (by repeat (first | with_reducible exact Below.refl _ _ | with_reducible assumption | with_reducible refine Below.drew ?_ | with_reducible refine Below.alloc ?_ (by first | exact Nat.le_refl _ | (simp; done) | (simp; omega) | omega) _ | with_reducible refine Below.setCell ?_ (by first | exact Nat.le_refl _ | (simp; done) | (simp; omega) | omega) _ | with_reducible refine Below.trans ?_ (Below.mono (by with_reducible assumption) (by first | exact Nat.le_refl _ | (simp; done) | (simp; omega) | omega))))⟩
  case true =>
    have hcp := courseOK_true e
    have hl8 := hcp.2.2.2.1
    have hl1 := hcp.2.2.1
    have cc := IsCourse_c x0 x1 x2 x3 x4 x5 x6 x7 a cap l W hl FV.out HS.out hcap
    rw [e] at cc
    refine (cc).mono ?_
    rintro e V1 ⟨rfl, hb⟩
    clear cc
    clear hcp
    replace HD := HD.trans (hb.mono HD.size)
    obtain ⟨hc, hf⟩ := bcell hb
    have hz := hb.size
    replace b00 := (hc _ 0 L0).trans b00
    replace b01 := (hc _ 1 L0).trans b01
    replace b02 := (hc _ 2 L0).trans b02
    replace b03 := (hc _ 3 L0).trans b03
    replace b04 := (hc _ 4 L0).trans b04
    replace b05 := (hc _ 5 L0).trans b05
    replace b06 := (hc _ 6 L0).trans b06
    replace b07 := (hc _ 7 L0).trans b07
    replace b08 := (hc _ 8 L0).trans b08
    replace b10 := (hc _ 0 L1).trans b10
    replace b11 := (hc _ 1 L1).trans b11
    replace b12 := (hc _ 2 L1).trans b12
    replace b13 := (hc _ 3 L1).trans b13
    replace b20 := (hc _ 0 L2).trans b20
    replace b21 := (hc _ 1 L2).trans b21
    replace b22 := (hc _ 2 L2).trans b22
    replace b23 := (hc _ 3 L2).trans b23
    replace b24 := (hc _ 4 L2).trans b24
    replace b25 := (hc _ 5 L2).trans b25
    replace b26 := (hc _ 6 L2).trans b26
    replace b27 := (hc _ 7 L2).trans b27
    replace b28 := (hc _ 8 L2).trans b28
    replace fz2 := fun o => (hf _ o L2).trans (fz2 o)
    replace FV := Lib.hid (RowAt.below FV.out hb)
    replace L0 := Nat.lt_of_lt_of_le L0 hz
    replace L1 := Nat.lt_of_lt_of_le L1 hz
    replace L2 := Nat.lt_of_lt_of_le L2 hz
    clear hc hf hz hb
    cases e3 : inR k 1 (l.length : Int)
    case false =>
      have HF := Lib.hid (show shR x0 x1 x2 x3 x4 x5 x6 x7 l k y0 y1 y2 y3 = ⟨0, 0, 0, 0, 0, 0, 0, 0, [], 2⟩ by unfold shR; rw [if_pos e, if_neg (by rw [e3]; decide)])
      go_wp2_with fail
      refine (within_c _ _ _ _).mono ?_
      rintro e w' ⟨rfl, rfl⟩
      rw [e3]
      clear e e3
      go_wp2_with fail
      exact bodyPost_ret (v := .tuple #[.agg #[.int .i64 0, .int .i64 0, .int .i64 0, .int .i64 0, .int .i64 0, .int .i64 0, .int .i64 0, .int .i64 0, .slice none 0 0], .int .i64 2]) (by simp [results, Tryd.results21, go_sem, *]) rfl ⟨⟨none, 0, by rw [HF.out]; rfl, by rw [HF.out]; exact World.ownsRow_nil _ _ _ _⟩, (by repeat (first | with_reducible exact Below.refl _ _ | with_reducible assumption | with_reducible refine Below.drew ?_ | with_reducible refine Below.alloc ?_ (by first | exact Nat.le_refl _ | (simp; done) | (simp; omega) | omega) _ | with_reducible refine Below.setCell ?_ (by first | exact Nat.le_refl _ | (simp; done) | (simp; omega) | omega) _ | with_reducible refine Below.trans ?_ (Below.mono (by with_reducible assumption) (by first | exact Nat.le_refl _ | (simp; done) | (simp; omega) | omega))))⟩
    case true =>
      have HG := Lib.hid (show shR x0 x1 x2 x3 x4 x5 x6 x7 l k y0 y1 y2 y3 = (if courseOK x0 x1 x2 x3 y0 y1 y2 y3 (l.take k.toNat) = true then ⟨x0, x1, x2, x3, y0, y1, y2, y3, l.take k.toNat, 0⟩ else ⟨0, 0, 0, 0, 0, 0, 0, 0, [], 5⟩) by unfold shR; rw [if_pos e, if_pos e3])
      go_wp2_with fail
      refine (within_c _ _ _ _).mono ?_
      rintro e9 w' ⟨rfl, rfl⟩
      rw [e3]
      obtain ⟨j0, j1⟩ := inR_true e3
      clear e e3
      obtain ⟨i, hik⟩ := Int.eq_ofNat_of_zero_le (show 0 ≤ k by omega)
      subst hik
      rw [show Int.toNat ((i : Nat) : Int) = i from rfl] at HG
      have hi1 : 1 ≤ i := by omega
      have hi2 : i ≤ l.length := by omega
      clear j0 j1
      obtain ⟨b, off, rfl, hlt, _⟩ := mark_cell FV.out (show 0 < l.length by omega)
      have hTl : (l.take i).length = i := by rw [List.length_take]; omega
      have FT := Lib.hid (row_take FV.out i)
      have hsT := Lib.hid (fun q (hq : q < (l.take i).length) => by rw [mk_take (by omega) hi2]; exact HS.out q (by omega) : ∀ q, q < (l.take i).length → (mk (l.take i) q).name.size ≤ maxLen)
      generalize l.take i = T at *
      have j0 : (0 : Int) ≤ (i : Int) := by omega
      have j1 : (i : Int) ≤ (cap : Int) := by omega
      have j2 : (i : Int) ≤ (l.length : Int) := by omega
      have j3 : i ≤ cap := by omega
      clear FV HS
      have CL := Lib.hid (fun w h => cloneMk_c b off cap T w (by omega) (by omega) h)
      rw [hTl] at CL
      go_wp2_with fail
      go_cut [8] (fun s8 wx => ∃ C g cp : Nat, s8 = .pointer (some ⟨C, 0, none⟩) ∧ wx.cell? ⟨C, 0, none⟩ = some (.int .i64 x0) ∧ wx.cell? ⟨C, 1, none⟩ = some (.int .i64 x1) ∧ wx.cell? ⟨C, 2, none⟩ = some (.int .i64 x2) ∧ wx.cell? ⟨C, 3, none⟩ = some (.int .i64 x3) ∧ wx.cell? ⟨C, 4, none⟩ = some (.int .i64 y0) ∧ wx.cell? ⟨C, 5, none⟩ = some (.int .i64 y1) ∧ wx.cell? ⟨C, 6, none⟩ = some (.int .i64 y2) ∧ wx.cell? ⟨C, 7, none⟩ = some (.int .i64 y3) ∧ wx.cell? ⟨C, 8, none⟩ = some (.slice (some ⟨g, 0, none⟩) i cp) ∧ wx.ownsRow V1.heap.size 64 5 (.slice (some ⟨g, 0, none⟩) i cp) i (mflat T) ∧ V1.heap.size ≤ C ∧ C < wx.heap.size ∧ C ≠ g ∧ i ≤ cp ∧ Below V1.heap.size V1 wx)
      case first =>
        go_region_held3 (fun wx => Below V1.heap.size V1 wx ∧ ∀ b o, b < V1.heap.size → wx.cell? ⟨b, o, none⟩ = V1.cell? ⟨b, o, none⟩)
          (repeat (first | with_reducible exact held_of hBA | with_reducible assumption | with_reducible refine held_set9 ?_ (by first | with_reducible exact Nat.le_refl _ | with_reducible exact Nat.le_add_right _ _ | with_reducible assumption | omega | (simp; omega)) _ _ _ _ _ _ _ _ _ | with_reducible refine held_set5 ?_ (by first | with_reducible exact Nat.le_refl _ | with_reducible exact Nat.le_add_right _ _ | with_reducible assumption | omega | (simp; omega)) _ _ _ _ _ | with_reducible exact held_back (by with_reducible assumption) (by first | with_reducible exact Nat.le_refl _ | with_reducible exact Nat.le_add_right _ _ | with_reducible assumption | omega | (simp; omega)) | with_reducible exact held_back (held_back (by with_reducible assumption) (by first | with_reducible exact Nat.le_refl _ | with_reducible exact Nat.le_add_right _ _ | with_reducible assumption | omega | (simp; omega))) (by first | with_reducible exact Nat.le_refl _ | with_reducible exact Nat.le_add_right _ _ | with_reducible assumption | omega | (simp; omega)) | with_reducible refine held_set4 ?_ (by first | with_reducible exact Nat.le_refl _ | with_reducible exact Nat.le_add_right _ _ | with_reducible assumption | omega | (simp; omega)) _ _ _ _ | with_reducible refine held_set2 ?_ (by first | with_reducible exact Nat.le_refl _ | with_reducible exact Nat.le_add_right _ _ | with_reducible assumption | omega | (simp; omega)) _ _ | with_reducible refine held_alloc ?_ _ | with_reducible exact held_step (by assumption) hb | with_reducible refine held_drew ?_ | with_reducible exact held_refl _ | with_reducible exact held_start _ _ | with_reducible exact held_begin _))
          (first | (go_at_call 61; refine (CL.out _ (FT.out.below (And.left (by with_reducible assumption)))).mono ?_; rintro e w1 ⟨⟨g, cp, rfl, ho⟩, hb⟩; have hz := held_size (by with_reducible assumption) hb; (try simp at hz); have hs := hb.size; (try simp at hs); have hog := (ho.lt g rfl).1; (try simp at hog); have hog2 := (ho.lt g rfl).2; have hoc := own_capG ho; have ho2 := pown_mono (base' := V1.heap.size) ho (by first | exact Nat.le_refl _ | (simp; done) | (simp; omega) | omega); obtain ⟨hc, hf⟩ := bcell hb; (try have hm0 := fun o => hc V1.heap.size o (by first | omega | (simp; done) | (simp; omega))); (try have hp0 := fun o => hf V1.heap.size o (by first | omega | (simp; done) | (simp; omega))); clear hc hf; (try (have e00 := hm0 0; (try simp [go_sem] at e00))); (try (have p00x := hp0 0; (try simp [go_sem] at p00x))); (try (have e01 := hm0 1; (try simp [go_sem] at e01))); (try (have p01x := hp0 1; (try simp [go_sem] at p01x))); (try (have e02 := hm0 2; (try simp [go_sem] at e02))); (try (have p02x := hp0 2; (try simp [go_sem] at p02x))); (try (have e03 := hm0 3; (try simp [go_sem] at e03))); (try (have p03x := hp0 3; (try simp [go_sem] at p03x))); (try (have e04 := hm0 4; (try simp [go_sem] at e04))); (try (have p04x := hp0 4; (try simp [go_sem] at p04x))); (try (have e05 := hm0 5; (try simp [go_sem] at e05))); (try (have p05x := hp0 5; (try simp [go_sem] at p05x))); (try (have e06 := hm0 6; (try simp [go_sem] at e06))); (try (have p06x := hp0 6; (try simp [go_sem] at p06x))); (try (have e07 := hm0 7; (try simp [go_sem] at e07))); (try (have p07x := hp0 7; (try simp [go_sem] at p07x))); (try (have e08 := hm0 8; (try simp [go_sem] at e08))); (try (have p08x := hp0 8; (try simp [go_sem] at p08x))); (try clear hm0 hp0)))
        all_goals (go_wp2_with fail; go_meet; exact ⟨_, g, cp, rfl, (by go_light; go_simp), (by go_light; go_simp), (by go_light; go_simp), (by go_light; go_simp), (by go_light; go_simp), (by go_light; go_simp), (by go_light; go_simp), (by go_light; go_simp), (by go_light; go_simp), (by repeat (first | with_reducible exact ho2 | with_reducible refine ownsRow_setCell_other ?_ (by simp [Value.ownBlock]; omega) _ | with_reducible refine World.ownsRow.alloc ?_ _ | with_reducible refine World.ownsRow.drew ?_)), (by go_light; first | exact Nat.le_refl _ | (simp; done) | (simp; omega) | omega), (by go_light; first | (simp; done) | (simp; omega) | omega), (by go_light; first | (simp; done) | (simp; omega) | omega), hoc, (held_of (by with_reducible exact And.left (by with_reducible assumption))).1⟩)
      case rest =>
        obtain ⟨C3, g, cp, rfl, k30, k31, k32, k33, k34, k35, k36, k37, k38, ho, WC, K3, hCg, hoc, hb⟩ := hcut
        obtain ⟨V2, rfl⟩ : ∃ x : World, x = wc := ⟨_, rfl⟩
        have hgB : B2 ≠ g := by have := (ho.lt g rfl).1; omega
        have hO := Lib.hid (pown_mono ho HD.size)
        clear ho
        replace HD := HD.trans (hb.mono HD.size)
        obtain ⟨hc, hf⟩ := bcell hb
        have hz := hb.size
        replace b00 := (hc _ 0 L0).trans b00
        replace b01 := (hc _ 1 L0).trans b01
        replace b02 := (hc _ 2 L0).trans b02
        replace b03 := (hc _ 3 L0).trans b03
        replace b04 := (hc _ 4 L0).trans b04
        replace b05 := (hc _ 5 L0).trans b05
        replace b06 := (hc _ 6 L0).trans b06
        replace b07 := (hc _ 7 L0).trans b07
        replace b08 := (hc _ 8 L0).trans b08
        replace b10 := (hc _ 0 L1).trans b10
        replace b11 := (hc _ 1 L1).trans b11
        replace b12 := (hc _ 2 L1).trans b12
        replace b13 := (hc _ 3 L1).trans b13
        replace b20 := (hc _ 0 L2).trans b20
        replace b21 := (hc _ 1 L2).trans b21
        replace b22 := (hc _ 2 L2).trans b22
        replace b23 := (hc _ 3 L2).trans b23
        replace b24 := (hc _ 4 L2).trans b24
        replace b25 := (hc _ 5 L2).trans b25
        replace b26 := (hc _ 6 L2).trans b26
        replace b27 := (hc _ 7 L2).trans b27
        replace b28 := (hc _ 8 L2).trans b28
        replace fz2 := fun o => (hf _ o L2).trans (fz2 o)
        replace FT := Lib.hid (RowAt.below FT.out hb)
        replace L0 := Nat.lt_of_lt_of_le L0 hz
        replace L1 := Nat.lt_of_lt_of_le L1 hz
        replace L2 := Nat.lt_of_lt_of_le L2 hz
        clear hc hf hz hb
        cases e5 : courseOK x0 x1 x2 x3 y0 y1 y2 y3 T
        case false =>
          have HF := Lib.hid (HG.out.trans (if_neg (by rw [e5]; decide)))
          have cc := IsCourse_c x0 x1 x2 x3 y0 y1 y2 y3 (some ⟨g, 0, none⟩) cp T V2 (by omega) (rowAt_own hO.out) hsT.out (by omega)
          rw [e5, hTl] at cc
          clear e5
          go_wp2_with fail
          refine (cc).mono ?_
          rintro e V3 ⟨rfl, hb⟩
          clear cc
          replace HD := HD.trans (hb.mono HD.size)
          obtain ⟨hc, hf⟩ := bcell hb
          have hz := hb.size
          replace b00 := (hc _ 0 L0).trans b00
          replace b01 := (hc _ 1 L0).trans b01
          replace b02 := (hc _ 2 L0).trans b02
          replace b03 := (hc _ 3 L0).trans b03
          replace b04 := (hc _ 4 L0).trans b04
          replace b05 := (hc _ 5 L0).trans b05
          replace b06 := (hc _ 6 L0).trans b06
          replace b07 := (hc _ 7 L0).trans b07
          replace b08 := (hc _ 8 L0).trans b08
          replace b10 := (hc _ 0 L1).trans b10
          replace b11 := (hc _ 1 L1).trans b11
          replace b12 := (hc _ 2 L1).trans b12
          replace b13 := (hc _ 3 L1).trans b13
          replace b20 := (hc _ 0 L2).trans b20
          replace b21 := (hc _ 1 L2).trans b21
          replace b22 := (hc _ 2 L2).trans b22
          replace b23 := (hc _ 3 L2).trans b23
          replace b24 := (hc _ 4 L2).trans b24
          replace b25 := (hc _ 5 L2).trans b25
          replace b26 := (hc _ 6 L2).trans b26
          replace b27 := (hc _ 7 L2).trans b27
          replace b28 := (hc _ 8 L2).trans b28
          replace k30 := (hc _ 0 K3).trans k30
          replace k31 := (hc _ 1 K3).trans k31
          replace k32 := (hc _ 2 K3).trans k32
          replace k33 := (hc _ 3 K3).trans k33
          replace k34 := (hc _ 4 K3).trans k34
          replace k35 := (hc _ 5 K3).trans k35
          replace k36 := (hc _ 6 K3).trans k36
          replace k37 := (hc _ 7 K3).trans k37
          replace k38 := (hc _ 8 K3).trans k38
          replace fz2 := fun o => (hf _ o L2).trans (fz2 o)
          replace FT := Lib.hid (RowAt.below FT.out hb)
          replace hO := Lib.hid (pown_below hO.out hb)
          replace L0 := Nat.lt_of_lt_of_le L0 hz
          replace L1 := Nat.lt_of_lt_of_le L1 hz
          replace L2 := Nat.lt_of_lt_of_le L2 hz
          replace K3 := Nat.lt_of_lt_of_le K3 hz
          clear hc hf hz hb
          go_wp2_with fail
          exact bodyPost_ret (v := .tuple #[.agg #[.int .i64 0, .int .i64 0, .int .i64 0, .int .i64 0, .int .i64 0, .int .i64 0, .int .i64 0, .int .i64 0, .slice none 0 0], .int .i64 5]) (by simp [results, Tryd.results21, go_sem, *]) rfl ⟨⟨none, 0, by rw [HF.out]; rfl, by rw [HF.out]; exact World.ownsRow_nil _ _ _ _⟩, (by repeat (first | with_reducible exact Below.refl _ _ | with_reducible assumption | with_reducible refine Below.drew ?_ | with_reducible refine Below.alloc ?_ (by first | exact Nat.le_refl _ | (simp; done) | (simp; omega) | omega) _ | with_reducible refine Below.setCell ?_ (by first | exact Nat.le_refl _ | (simp; done) | (simp; omega) | omega) _ | with_reducible refine Below.trans ?_ (Below.mono (by with_reducible assumption) (by first | exact Nat.le_refl _ | (simp; done) | (simp; omega) | omega))))⟩
        case true =>
          have HF := Lib.hid (HG.out.trans (if_pos e5))
          have cc := IsCourse_c x0 x1 x2 x3 y0 y1 y2 y3 (some ⟨g, 0, none⟩) cp T V2 (by omega) (rowAt_own hO.out) hsT.out (by omega)
          rw [e5, hTl] at cc
          clear e5
          go_wp2_with fail
          refine (cc).mono ?_
          rintro e V3 ⟨rfl, hb⟩
          clear cc
          replace HD := HD.trans (hb.mono HD.size)
          obtain ⟨hc, hf⟩ := bcell hb
          have hz := hb.size
          replace b00 := (hc _ 0 L0).trans b00
          replace b01 := (hc _ 1 L0).trans b01
          replace b02 := (hc _ 2 L0).trans b02
          replace b03 := (hc _ 3 L0).trans b03
          replace b04 := (hc _ 4 L0).trans b04
          replace b05 := (hc _ 5 L0).trans b05
          replace b06 := (hc _ 6 L0).trans b06
          replace b07 := (hc _ 7 L0).trans b07
          replace b08 := (hc _ 8 L0).trans b08
          replace b10 := (hc _ 0 L1).trans b10
          replace b11 := (hc _ 1 L1).trans b11
          replace b12 := (hc _ 2 L1).trans b12
          replace b13 := (hc _ 3 L1).trans b13
          replace b20 := (hc _ 0 L2).trans b20
          replace b21 := (hc _ 1 L2).trans b21
          replace b22 := (hc _ 2 L2).trans b22
          replace b23 := (hc _ 3 L2).trans b23
          replace b24 := (hc _ 4 L2).trans b24
          replace b25 := (hc _ 5 L2).trans b25
          replace b26 := (hc _ 6 L2).trans b26
          replace b27 := (hc _ 7 L2).trans b27
          replace b28 := (hc _ 8 L2).trans b28
          replace k30 := (hc _ 0 K3).trans k30
          replace k31 := (hc _ 1 K3).trans k31
          replace k32 := (hc _ 2 K3).trans k32
          replace k33 := (hc _ 3 K3).trans k33
          replace k34 := (hc _ 4 K3).trans k34
          replace k35 := (hc _ 5 K3).trans k35
          replace k36 := (hc _ 6 K3).trans k36
          replace k37 := (hc _ 7 K3).trans k37
          replace k38 := (hc _ 8 K3).trans k38
          replace fz2 := fun o => (hf _ o L2).trans (fz2 o)
          replace FT := Lib.hid (RowAt.below FT.out hb)
          replace hO := Lib.hid (pown_below hO.out hb)
          replace L0 := Nat.lt_of_lt_of_le L0 hz
          replace L1 := Nat.lt_of_lt_of_le L1 hz
          replace L2 := Nat.lt_of_lt_of_le L2 hz
          replace K3 := Nat.lt_of_lt_of_le K3 hz
          clear hc hf hz hb
          go_wp2_with fail
          skip
          exact bodyPost_ret (v := .tuple #[.agg #[.int .i64 x0, .int .i64 x1, .int .i64 x2, .int .i64 x3, .int .i64 y0, .int .i64 y1, .int .i64 y2, .int .i64 y3, .slice (some ⟨g, 0, none⟩) i cp], .int .i64 0]) (by simp [results, Tryd.results21, go_sem, *]) rfl ⟨⟨some ⟨g, 0, none⟩, cp, by rw [HF.out, hTl], by rw [HF.out]; simp only [hTl]; exact (by repeat (first | with_reducible exact hO.out | with_reducible refine ownsRow_setCell_other ?_ (by simp [Value.ownBlock]; omega) _))⟩, (by repeat (first | with_reducible exact Below.refl _ _ | with_reducible assumption | with_reducible refine Below.drew ?_ | with_reducible refine Below.alloc ?_ (by first | exact Nat.le_refl _ | (simp; done) | (simp; omega) | omega) _ | with_reducible refine Below.setCell ?_ (by first | exact Nat.le_refl _ | (simp; done) | (simp; omega) | omega) _ | with_reducible refine Below.trans ?_ (Below.mono (by with_reducible assumption) (by first | exact Nat.le_refl _ | (simp; done) | (simp; omega) | omega))))⟩
set_option maxRecDepth 100000 in
set_option maxHeartbeats 4000000 in
theorem ShortenCourseS_c (x0 x1 x2 x3 x4 x5 x6 x7 : Int) (a : Option Addr) (cap : Nat) (l : List Mk) (k y0 y1 y2 y3 : Int) (w : World) (hl : l.length ≤ 4611686018427387904) (h : RowAt w a (mflat l)) (hs : ∀ i, i < l.length → (mk l i).name.size ≤ maxLen) (hcap : l.length ≤ cap) :
    Calls Tryd.prog 22 #[.agg #[.int .i64 x0, .int .i64 x1, .int .i64 x2, .int .i64 x3, .int .i64 x4, .int .i64 x5, .int .i64 x6, .int .i64 x7, .slice a l.length cap], .int .i64 k, .agg #[.int .i64 y0, .int .i64 y1, .int .i64 y2, .int .i64 y3]] w fun e w' => (∃ (a' : Option Addr) (cap' : Nat), e = .returned (.tuple #[.agg #[.int .i64 (shR x0 x1 x2 x3 x4 x5 x6 x7 l k y0 y1 y2 y3).z0, .int .i64 (shR x0 x1 x2 x3 x4 x5 x6 x7 l k y0 y1 y2 y3).z1, .int .i64 (shR x0 x1 x2 x3 x4 x5 x6 x7 l k y0 y1 y2 y3).z2, .int .i64 (shR x0 x1 x2 x3 x4 x5 x6 x7 l k y0 y1 y2 y3).z3, .int .i64 (shR x0 x1 x2 x3 x4 x5 x6 x7 l k y0 y1 y2 y3).z4, .int .i64 (shR x0 x1 x2 x3 x4 x5 x6 x7 l k y0 y1 y2 y3).z5, .int .i64 (shR x0 x1 x2 x3 x4 x5 x6 x7 l k y0 y1 y2 y3).z6, .int .i64 (shR x0 x1 x2 x3 x4 x5 x6 x7 l k y0 y1 y2 y3).z7, .slice a' (shR x0 x1 x2 x3 x4 x5 x6 x7 l k y0 y1 y2 y3).m.length cap'], .int .i64 (shR x0 x1 x2 x3 x4 x5 x6 x7 l k y0 y1 y2 y3).c]) ∧ w'.ownsRow w.heap.size 64 5 (.slice a' (shR x0 x1 x2 x3 x4 x5 x6 x7 l k y0 y1 y2 y3).m.length cap') (shR x0 x1 x2 x3 x4 x5 x6 x7 l k y0 y1 y2 y3).m.length (mflat (shR x0 x1 x2 x3 x4 x5 x6 x7 l k y0 y1 y2 y3).m)) ∧ Below w.heap.size w w' := by
  obtain ⟨i0, hi, ti0, ti1, ti2⟩ := info_parts infoMk
  have H0 := Lib.hid h
  have HS := Lib.hid hs
  clear h hs
  go_enter Tryd.func22, Tryd.ntmps22
  go_wp2_with fail
  obtain ⟨W, hW⟩ : ∃ W, W = (((w.alloc (.cells #[.int .i64 x0, .int .i64 x1, .int .i64 x2, .int .i64 x3, .int .i64 x4, .int .i64 x5, .int .i64 x6, .int .i64 x7, .slice a l.length cap] 36)).alloc (.cells #[.int .i64 y0, .int .i64 y1, .int .i64 y2, .int .i64 y3] 33)).alloc (.cells #[.int .i64 0, .int .i64 0, .int .i64 0, .int .i64 0, .int .i64 0, .int .i64 0, .int .i64 0, .int .i64 0, .slice none 0 0] 36)) := ⟨_, rfl⟩
  have HD : Below w.heap.size w W := by subst hW; exact (by repeat (first | with_reducible exact Below.refl _ _ | with_reducible assumption | with_reducible refine Below.drew ?_ | with_reducible refine Below.alloc ?_ (by first | exact Nat.le_refl _ | (simp; done) | (simp; omega) | omega) _ | with_reducible refine Below.setCell ?_ (by first | exact Nat.le_refl _ | (simp; done) | (simp; omega) | omega) _ | with_reducible refine Below.trans ?_ (Below.mono (by with_reducible assumption) (by first | exact Nat.le_refl _ | (simp; done) | (simp; omega) | omega))))
  have b00 : W.cell? ⟨w.heap.size, 0, none⟩ = some (.int .i64 x0) := by subst hW; simp [go_sem]
  have b01 : W.cell? ⟨w.heap.size, 1, none⟩ = some (.int .i64 x1) := by subst hW; simp [go_sem]
  have b02 : W.cell? ⟨w.heap.size, 2, none⟩ = some (.int .i64 x2) := by subst hW; simp [go_sem]
  have b03 : W.cell? ⟨w.heap.size, 3, none⟩ = some (.int .i64 x3) := by subst hW; simp [go_sem]
  have b04 : W.cell? ⟨w.heap.size, 4, none⟩ = some (.int .i64 x4) := by subst hW; simp [go_sem]
  have b05 : W.cell? ⟨w.heap.size, 5, none⟩ = some (.int .i64 x5) := by subst hW; simp [go_sem]
  have b06 : W.cell? ⟨w.heap.size, 6, none⟩ = some (.int .i64 x6) := by subst hW; simp [go_sem]
  have b07 : W.cell? ⟨w.heap.size, 7, none⟩ = some (.int .i64 x7) := by subst hW; simp [go_sem]
  have b08 : W.cell? ⟨w.heap.size, 8, none⟩ = some (.slice a l.length cap) := by subst hW; simp [go_sem]
  have L0 : w.heap.size < W.heap.size := by subst hW; first | (simp; done) | (simp; omega)
  have b10 : W.cell? ⟨w.heap.size + 1, 0, none⟩ = some (.int .i64 y0) := by subst hW; simp [go_sem]
  have b11 : W.cell? ⟨w.heap.size + 1, 1, none⟩ = some (.int .i64 y1) := by subst hW; simp [go_sem]
  have b12 : W.cell? ⟨w.heap.size + 1, 2, none⟩ = some (.int .i64 y2) := by subst hW; simp [go_sem]
  have b13 : W.cell? ⟨w.heap.size + 1, 3, none⟩ = some (.int .i64 y3) := by subst hW; simp [go_sem]
  have L1 : w.heap.size + 1 < W.heap.size := by subst hW; first | (simp; done) | (simp; omega)
  have b20 : W.cell? ⟨w.heap.size + 1 + 1, 0, none⟩ = some (.int .i64 0) := by subst hW; simp [go_sem]
  have b21 : W.cell? ⟨w.heap.size + 1 + 1, 1, none⟩ = some (.int .i64 0) := by subst hW; simp [go_sem]
  have b22 : W.cell? ⟨w.heap.size + 1 + 1, 2, none⟩ = some (.int .i64 0) := by subst hW; simp [go_sem]
  have b23 : W.cell? ⟨w.heap.size + 1 + 1, 3, none⟩ = some (.int .i64 0) := by subst hW; simp [go_sem]
  have b24 : W.cell? ⟨w.heap.size + 1 + 1, 4, none⟩ = some (.int .i64 0) := by subst hW; simp [go_sem]
  have b25 : W.cell? ⟨w.heap.size + 1 + 1, 5, none⟩ = some (.int .i64 0) := by subst hW; simp [go_sem]
  have b26 : W.cell? ⟨w.heap.size + 1 + 1, 6, none⟩ = some (.int .i64 0) := by subst hW; simp [go_sem]
  have b27 : W.cell? ⟨w.heap.size + 1 + 1, 7, none⟩ = some (.int .i64 0) := by subst hW; simp [go_sem]
  have b28 : W.cell? ⟨w.heap.size + 1 + 1, 8, none⟩ = some (.slice none 0 0) := by subst hW; simp [go_sem]
  have L2 : w.heap.size + 1 + 1 < W.heap.size := by subst hW; first | (simp; done) | (simp; omega)
  have n12 : w.heap.size + 1 ≠ w.heap.size + 1 + 1 := by omega
  have n02 : w.heap.size ≠ w.heap.size + 1 + 1 := by omega
  have n01 : w.heap.size ≠ w.heap.size + 1 := by omega
  have R2 : w.heap.size ≤ w.heap.size + 1 + 1 := by omega
  have fz2 : ∀ o, W.frozen? ⟨w.heap.size + 1 + 1, o, none⟩ = false := by subst hW; intro o; simp [go_sem]
  rw [← hW]
  clear hW
  generalize w.heap.size + 1 + 1 = B2 at *
  generalize w.heap.size + 1 = B1 at *
  obtain ⟨B0, hB0⟩ : ∃ B, B = w.heap.size := ⟨_, rfl⟩
  rw [← hB0] at b00 b01 b02 b03 b04 b05 b06 b07 b08 L0
  try rw [← hB0]
  replace hB0 := Lib.hid hB0
  try rw [← hB0.out] at n01 n02
  have FV := Lib.hid (H0.out.below HD)
  clear H0
  cases e : courseOK x0 x1 x2 x3 x4 x5 x6 x7 l
  case false =>
    have HF := Lib.hid (show shR x0 x1 x2 x3 x4 x5 x6 x7 l k y0 y1 y2 y3 = ⟨0, 0, 0, 0, 0, 0, 0, 0, [], 1⟩ by unfold shR; rw [if_neg (by rw [e]; decide)])
    have cc := IsCourseS_c x0 x1 x2 x3 x4 x5 x6 x7 a cap l W hl FV.out HS.out
    rw [e] at cc
    clear e
    refine (cc).mono ?_
    rintro e V1 ⟨rfl, hb⟩
    clear cc
    replace HD := HD.trans (hb.mono HD.size)
    obtain ⟨hc, hf⟩ := bcell hb
    have hz := hb.size
    replace b00 := (hc _ 0 L0).trans b00
    replace b01 := (hc _ 1 L0).trans b01
    replace b02 := (hc _ 2 L0).trans b02
    replace b03 := (hc _ 3 L0).trans b03
    replace b04 := (hc _ 4 L0).trans b04
    replace b05 := (hc _ 5 L0).trans b05
    replace b06 := (hc _ 6 L0).trans b06
    replace b07 := (hc _ 7 L0).trans b07
    replace b08 := (hc _ 8 L0).trans b08
    replace b10 := (hc _ 0 L1).trans b10
    replace b11 := (hc _ 1 L1).trans b11
    replace b12 := (hc _ 2 L1).trans b12
    replace b13 := (hc _ 3 L1).trans b13
    replace b20 := (hc _ 0 L2).trans b20
    replace b21 := (hc _ 1 L2).trans b21
    replace b22 := (hc _ 2 L2).trans b22
    replace b23 := (hc _ 3 L2).trans b23
    replace b24 := (hc _ 4 L2).trans b24
    replace b25 := (hc _ 5 L2).trans b25
    replace b26 := (hc _ 6 L2).trans b26
    replace b27 := (hc _ 7 L2).trans b27
    replace b28 := (hc _ 8 L2).trans b28
    replace fz2 := fun o => (hf _ o L2).trans (fz2 o)
    replace FV := Lib.hid (RowAt.below FV.out hb)
    replace L0 := Nat.lt_of_lt_of_le L0 hz
    replace L1 := Nat.lt_of_lt_of_le L1 hz
    replace L2 := Nat.lt_of_lt_of_le L2 hz
    clear hc hf hz hb
    go_wp2_with fail
    exact bodyPost_ret (v := .tuple #[.agg #[.int .i64 0, .int .i64 0, .int .i64 0, .int .i64 0, .int .i64 0, .int .i64 0, .int .i64 0, .int .i64 0, .slice none 0 0], .int .i64 1]) (by simp [results, Tryd.results22, go_sem, *]) rfl ⟨⟨none, 0, by rw [HF.out]; rfl, by rw [HF.out]; exact World.ownsRow_nil _ _ _ _⟩, (by repeat (first | with_reducible exact Below.refl _ _ | with_reducible assumption | with_reducible refine Below.drew ?_ | with_reducible refine Below.alloc ?_ (by first | exact Nat.le_refl _ | (simp; done) | (simp; omega) | omega) _ | with_reducible refine Below.setCell ?_ (by first | exact Nat.le_refl _ | (simp; done) | (simp; omega) | omega) _ | with_reducible refine Below.trans ?_ (Below.mono (by with_reducible assumption) (by first | exact Nat.le_refl _ | (simp; done) | (simp; omega) | omega))))⟩
  case true =>
    have hcp := courseOK_true e
    have hl8 := hcp.2.2.2.1
    have hl1 := hcp.2.2.1
    have cc := IsCourseS_c x0 x1 x2 x3 x4 x5 x6 x7 a cap l W hl FV.out HS.out
    rw [e] at cc
    refine (cc).mono ?_
    rintro e V1 ⟨rfl, hb⟩
    clear cc
    clear hcp
    replace HD := HD.trans (hb.mono HD.size)
    obtain ⟨hc, hf⟩ := bcell hb
    have hz := hb.size
    replace b00 := (hc _ 0 L0).trans b00
    replace b01 := (hc _ 1 L0).trans b01
    replace b02 := (hc _ 2 L0).trans b02
    replace b03 := (hc _ 3 L0).trans b03
    replace b04 := (hc _ 4 L0).trans b04
    replace b05 := (hc _ 5 L0).trans b05
    replace b06 := (hc _ 6 L0).trans b06
    replace b07 := (hc _ 7 L0).trans b07
    replace b08 := (hc _ 8 L0).trans b08
    replace b10 := (hc _ 0 L1).trans b10
    replace b11 := (hc _ 1 L1).trans b11
    replace b12 := (hc _ 2 L1).trans b12
    replace b13 := (hc _ 3 L1).trans b13
    replace b20 := (hc _ 0 L2).trans b20
    replace b21 := (hc _ 1 L2).trans b21
    replace b22 := (hc _ 2 L2).trans b22
    replace b23 := (hc _ 3 L2).trans b23
    replace b24 := (hc _ 4 L2).trans b24
    replace b25 := (hc _ 5 L2).trans b25
    replace b26 := (hc _ 6 L2).trans b26
    replace b27 := (hc _ 7 L2).trans b27
    replace b28 := (hc _ 8 L2).trans b28
    replace fz2 := fun o => (hf _ o L2).trans (fz2 o)
    replace FV := Lib.hid (RowAt.below FV.out hb)
    replace L0 := Nat.lt_of_lt_of_le L0 hz
    replace L1 := Nat.lt_of_lt_of_le L1 hz
    replace L2 := Nat.lt_of_lt_of_le L2 hz
    clear hc hf hz hb
    cases e3 : inR k 1 (l.length : Int)
    case false =>
      have HF := Lib.hid (show shR x0 x1 x2 x3 x4 x5 x6 x7 l k y0 y1 y2 y3 = ⟨0, 0, 0, 0, 0, 0, 0, 0, [], 2⟩ by unfold shR; rw [if_pos e, if_neg (by rw [e3]; decide)])
      go_wp2_with fail
      refine (l01In_c _ _ _ _).mono ?_
      rintro e w' ⟨rfl, rfl⟩
      rw [e3]
      clear e e3
      go_wp2_with fail
      exact bodyPost_ret (v := .tuple #[.agg #[.int .i64 0, .int .i64 0, .int .i64 0, .int .i64 0, .int .i64 0, .int .i64 0, .int .i64 0, .int .i64 0, .slice none 0 0], .int .i64 2]) (by simp [results, Tryd.results22, go_sem, *]) rfl ⟨⟨none, 0, by rw [HF.out]; rfl, by rw [HF.out]; exact World.ownsRow_nil _ _ _ _⟩, (by repeat (first | with_reducible exact Below.refl _ _ | with_reducible assumption | with_reducible refine Below.drew ?_ | with_reducible refine Below.alloc ?_ (by first | exact Nat.le_refl _ | (simp; done) | (simp; omega) | omega) _ | with_reducible refine Below.setCell ?_ (by first | exact Nat.le_refl _ | (simp; done) | (simp; omega) | omega) _ | with_reducible refine Below.trans ?_ (Below.mono (by with_reducible assumption) (by first | exact Nat.le_refl _ | (simp; done) | (simp; omega) | omega))))⟩
    case true =>
      have HG := Lib.hid (show shR x0 x1 x2 x3 x4 x5 x6 x7 l k y0 y1 y2 y3 = (if courseOK x0 x1 x2 x3 y0 y1 y2 y3 (l.take k.toNat) = true then ⟨x0, x1, x2, x3, y0, y1, y2, y3, l.take k.toNat, 0⟩ else ⟨0, 0, 0, 0, 0, 0, 0, 0, [], 5⟩) by unfold shR; rw [if_pos e, if_pos e3])
      go_wp2_with fail
      refine (l01In_c _ _ _ _).mono ?_
      rintro e9 w' ⟨rfl, rfl⟩
      rw [e3]
      obtain ⟨j0, j1⟩ := inR_true e3
      clear e e3
      obtain ⟨i, hik⟩ := Int.eq_ofNat_of_zero_le (show 0 ≤ k by omega)
      subst hik
      rw [show Int.toNat ((i : Nat) : Int) = i from rfl] at HG
      have hi1 : 1 ≤ i := by omega
      have hi2 : i ≤ l.length := by omega
      clear j0 j1
      obtain ⟨b, off, rfl, hlt, _⟩ := mark_cell FV.out (show 0 < l.length by omega)
      have hTl : (l.take i).length = i := by rw [List.length_take]; omega
      have FT := Lib.hid (row_take FV.out i)
      have hsT := Lib.hid (fun q (hq : q < (l.take i).length) => by rw [mk_take (by omega) hi2]; exact HS.out q (by omega) : ∀ q, q < (l.take i).length → (mk (l.take i) q).name.size ≤ maxLen)
      generalize l.take i = T at *
      have j0 : (0 : Int) ≤ (i : Int) := by omega
      have j1 : (i : Int) ≤ (cap : Int) := by omega
      have j2 : (i : Int) ≤ (l.length : Int) := by omega
      have j3 : i ≤ cap := by omega
      clear FV HS
      have hTL : (mflat T).length = i * 5 := by rw [mflat_length, hTl]
      have hL1 : (V1.alloc (.cells #[] 64)).ownsRow V1.heap.size 64 5 (.slice (some ⟨V1.heap.size, 0, none⟩) 0 0) 0 [] := World.ownsRow_lit V1 #[] 0 (Nat.le_refl _) (by unfold maxLen; omega) rfl
      have hL2 : ∀ o : Obj, ((V1.alloc o).alloc (.cells #[] 64)).ownsRow V1.heap.size 64 5 (.slice (some ⟨V1.heap.size + 1, 0, none⟩) 0 0) 0 [] := fun o => own_lit5 V1 o _ (Nat.le_refl _)
      go_wp2_with fail
      go_cut [8] (fun s8 wx => ∃ C g cp : Nat, s8 = .pointer (some ⟨C, 0, none⟩) ∧ wx.cell? ⟨C, 0, none⟩ = some (.int .i64 x0) ∧ wx.cell? ⟨C, 1, none⟩ = some (.int .i64 x1) ∧ wx.cell? ⟨C, 2, none⟩ = some (.int .i64 x2) ∧ wx.cell? ⟨C, 3, none⟩ = some (.int .i64 x3) ∧ wx.cell? ⟨C, 4, none⟩ = some (.int .i64 y0) ∧ wx.cell? ⟨C, 5, none⟩ = some (.int .i64 y1) ∧ wx.cell? ⟨C, 6, none⟩ = some (.int .i64 y2) ∧ wx.cell? ⟨C, 7, none⟩ = some (.int .i64 y3) ∧ wx.cell? ⟨C, 8, none⟩ = some (.slice (some ⟨g, 0, none⟩) i cp) ∧ wx.ownsRow V1.heap.size 64 5 (.slice (some ⟨g, 0, none⟩) i cp) i (mflat T) ∧ V1.heap.size ≤ C ∧ C < wx.heap.size ∧ C ≠ g ∧ i ≤ cp ∧ Below V1.heap.size V1 wx)
      case first =>
        go_region_held3 (fun wx => Below V1.heap.size V1 wx ∧ ∀ b o, b < V1.heap.size → wx.cell? ⟨b, o, none⟩ = V1.cell? ⟨b, o, none⟩)
          (repeat (first | with_reducible exact held_of hBA | with_reducible assumption | with_reducible refine held_set9 ?_ (by first | with_reducible exact Nat.le_refl _ | with_reducible exact Nat.le_add_right _ _ | with_reducible assumption | omega | (simp; omega)) _ _ _ _ _ _ _ _ _ | with_reducible refine held_set5 ?_ (by first | with_reducible exact Nat.le_refl _ | with_reducible exact Nat.le_add_right _ _ | with_reducible assumption | omega | (simp; omega)) _ _ _ _ _ | with_reducible exact held_back (by with_reducible assumption) (by first | with_reducible exact Nat.le_refl _ | with_reducible exact Nat.le_add_right _ _ | with_reducible assumption | omega | (simp; omega)) | with_reducible exact held_back (held_back (by with_reducible assumption) (by first | with_reducible exact Nat.le_refl _ | with_reducible exact Nat.le_add_right _ _ | with_reducible assumption | omega | (simp; omega))) (by first | with_reducible exact Nat.le_refl _ | with_reducible exact Nat.le_add_right _ _ | with_reducible assumption | omega | (simp; omega)) | with_reducible refine held_set4 ?_ (by first | with_reducible exact Nat.le_refl _ | with_reducible exact Nat.le_add_right _ _ | with_reducible assumption | omega | (simp; omega)) _ _ _ _ | with_reducible refine held_set2 ?_ (by first | with_reducible exact Nat.le_refl _ | with_reducible exact Nat.le_add_right _ _ | with_reducible assumption | omega | (simp; omega)) _ _ | with_reducible refine held_alloc ?_ _ | with_reducible exact held_step (by assumption) hb | with_reducible refine held_drew ?_ | with_reducible exact held_refl _ | with_reducible exact held_start _ _ | with_reducible exact held_begin _))
          (first | (refine step_append_lies _ (by rfl) (.tmp 23) (.tmp 27) 34 (by rfl) V1.heap.size 64 i0 _ 5 48 Tryd.underlying34 hi ti0 ti1 ti2 rfl (by decide) (.slice (some ⟨V1.heap.size, 0, none⟩) 0 0) 0 [] (by rfl) (by repeat (first | with_reducible exact hL1 | with_reducible refine World.ownsRow.drew ?_ | with_reducible refine World.ownsRow.alloc ?_ _)) ⟨b, off, none⟩ i cap (mflat T) (by rfl) hTL (row_news (FT.out.below (And.left (by with_reducible assumption)))) (mflat_one T) (by omega) (by unfold maxLen; omega) (by omega) (by first | exact (And.left (by with_reducible assumption) : Below V1.heap.size V1 _).size | (simp; done) | (simp; omega)) _ rfl ?_; intro g cp w1 hown1 hgrow1 hat1 hlt1; rw [Nat.zero_add, List.nil_append] at hown1; have hBA := Below.trans (And.left (by with_reducible assumption)) (pgrown_below (base := V1.heap.size) hgrow1 (by first | (simp; done) | (simp; omega)) (by intro j e; simp [Value.ownBlock] at e; omega)); have hs := hBA.size; have hs2 := hgrow1.size; (try simp at hs2); have hat2 := hat1; (try simp [Value.ownBlock] at hat2); have hog := (hown1.lt g rfl).1; have hog2 := (hown1.lt g rfl).2; have hoc := own_capG hown1; have ho2 := hown1; (try (have e00 : w1.cell? ⟨(V1.heap.size + 1), 0, none⟩ = some (.int .i64 0) := hgrow1.cell (by first | (simp [go_sem]; done) | fail) (by first | (simp [Value.ownBlock]; done) | (simp [Value.ownBlock]; omega)))); (try (have p00x : w1.frozen? ⟨(V1.heap.size + 1), 0, none⟩ = false := (hgrow1.frozen_far ⟨(V1.heap.size + 1), 0, none⟩ (by first | (simp; done) | (simp; omega) | omega) (by first | (simp [Value.ownBlock]; done) | (simp [Value.ownBlock]; omega))).trans (by first | (simp [go_sem]; done) | fail))); (try (have e01 : w1.cell? ⟨(V1.heap.size + 1), 1, none⟩ = some (.int .i64 0) := hgrow1.cell (by first | (simp [go_sem]; done) | fail) (by first | (simp [Value.ownBlock]; done) | (simp [Value.ownBlock]; omega)))); (try (have p01x : w1.frozen? ⟨(V1.heap.size + 1), 1, none⟩ = false := (hgrow1.frozen_far ⟨(V1.heap.size + 1), 1, none⟩ (by first | (simp; done) | (simp; omega) | omega) (by first | (simp [Value.ownBlock]; done) | (simp [Value.ownBlock]; omega))).trans (by first | (simp [go_sem]; done) | fail))); (try (have e02 : w1.cell? ⟨(V1.heap.size + 1), 2, none⟩ = some (.int .i64 0) := hgrow1.cell (by first | (simp [go_sem]; done) | fail) (by first | (simp [Value.ownBlock]; done) | (simp [Value.ownBlock]; omega)))); (try (have p02x : w1.frozen? ⟨(V1.heap.size + 1), 2, none⟩ = false := (hgrow1.frozen_far ⟨(V1.heap.size + 1), 2, none⟩ (by first | (simp; done) | (simp; omega) | omega) (by first | (simp [Value.ownBlock]; done) | (simp [Value.ownBlock]; omega))).trans (by first | (simp [go_sem]; done) | fail))); (try (have e03 : w1.cell? ⟨(V1.heap.size + 1), 3, none⟩ = some (.int .i64 0) := hgrow1.cell (by first | (simp [go_sem]; done) | fail) (by first | (simp [Value.ownBlock]; done) | (simp [Value.ownBlock]; omega)))); (try (have p03x : w1.frozen? ⟨(V1.heap.size + 1), 3, none⟩ = false := (hgrow1.frozen_far ⟨(V1.heap.size + 1), 3, none⟩ (by first | (simp; done) | (simp; omega) | omega) (by first | (simp [Value.ownBlock]; done) | (simp [Value.ownBlock]; omega))).trans (by first | (simp [go_sem]; done) | fail))); (try (have e04 : w1.cell? ⟨(V1.heap.size + 1), 4, none⟩ = some (.int .i64 0) := hgrow1.cell (by first | (simp [go_sem]; done) | fail) (by first | (simp [Value.ownBlock]; done) | (simp [Value.ownBlock]; omega)))); (try (have p04x : w1.frozen? ⟨(V1.heap.size + 1), 4, none⟩ = false := (hgrow1.frozen_far ⟨(V1.heap.size + 1), 4, none⟩ (by first | (simp; done) | (simp; omega) | omega) (by first | (simp [Value.ownBlock]; done) | (simp [Value.ownBlock]; omega))).trans (by first | (simp [go_sem]; done) | fail))); (try (have e05 : w1.cell? ⟨(V1.heap.size + 1), 5, none⟩ = some (.int .i64 0) := hgrow1.cell (by first | (simp [go_sem]; done) | fail) (by first | (simp [Value.ownBlock]; done) | (simp [Value.ownBlock]; omega)))); (try (have p05x : w1.frozen? ⟨(V1.heap.size + 1), 5, none⟩ = false := (hgrow1.frozen_far ⟨(V1.heap.size + 1), 5, none⟩ (by first | (simp; done) | (simp; omega) | omega) (by first | (simp [Value.ownBlock]; done) | (simp [Value.ownBlock]; omega))).trans (by first | (simp [go_sem]; done) | fail))); (try (have e06 : w1.cell? ⟨(V1.heap.size + 1), 6, none⟩ = some (.int .i64 0) := hgrow1.cell (by first | (simp [go_sem]; done) | fail) (by first | (simp [Value.ownBlock]; done) | (simp [Value.ownBlock]; omega)))); (try (have p06x : w1.frozen? ⟨(V1.heap.size + 1), 6, none⟩ = false := (hgrow1.frozen_far ⟨(V1.heap.size + 1), 6, none⟩ (by first | (simp; done) | (simp; omega) | omega) (by first | (simp [Value.ownBlock]; done) | (simp [Value.ownBlock]; omega))).trans (by first | (simp [go_sem]; done) | fail))); (try (have e07 : w1.cell? ⟨(V1.heap.size + 1), 7, none⟩ = some (.int .i64 0) := hgrow1.cell (by first | (simp [go_sem]; done) | fail) (by first | (simp [Value.ownBlock]; done) | (simp [Value.ownBlock]; omega)))); (try (have p07x : w1.frozen? ⟨(V1.heap.size + 1), 7, none⟩ = false := (hgrow1.frozen_far ⟨(V1.heap.size + 1), 7, none⟩ (by first | (simp; done) | (simp; omega) | omega) (by first | (simp [Value.ownBlock]; done) | (simp [Value.ownBlock]; omega))).trans (by first | (simp [go_sem]; done) | fail))); (try (have e08 : w1.cell? ⟨(V1.heap.size + 1), 8, none⟩ = some (.slice none 0 0) := hgrow1.cell (by first | (simp [go_sem]; done) | fail) (by first | (simp [Value.ownBlock]; done) | (simp [Value.ownBlock]; omega)))); (try (have p08x : w1.frozen? ⟨(V1.heap.size + 1), 8, none⟩ = false := (hgrow1.frozen_far ⟨(V1.heap.size + 1), 8, none⟩ (by first | (simp; done) | (simp; omega) | omega) (by first | (simp [Value.ownBlock]; done) | (simp [Value.ownBlock]; omega))).trans (by first | (simp [go_sem]; done) | fail)))) | (refine step_append_lies _ (by rfl) (.tmp 23) (.tmp 27) 34 (by rfl) V1.heap.size 64 i0 _ 5 48 Tryd.underlying34 hi ti0 ti1 ti2 rfl (by decide) (.slice (some ⟨V1.heap.size + 1, 0, none⟩) 0 0) 0 [] (by rfl) (by repeat (first | with_reducible exact (hL2 _) | with_reducible refine World.ownsRow.drew ?_ | with_reducible refine World.ownsRow.alloc ?_ _)) ⟨b, off, none⟩ i cap (mflat T) (by rfl) hTL (row_news (FT.out.below (And.left (by with_reducible assumption)))) (mflat_one T) (by omega) (by unfold maxLen; omega) (by omega) (by first | exact (And.left (by with_reducible assumption) : Below V1.heap.size V1 _).size | (simp; done) | (simp; omega)) _ rfl ?_; intro g cp w1 hown1 hgrow1 hat1 hlt1; rw [Nat.zero_add, List.nil_append] at hown1; have hBA := Below.trans (And.left (by with_reducible assumption)) (pgrown_below (base := V1.heap.size) hgrow1 (by first | (simp; done) | (simp; omega)) (by intro j e; simp [Value.ownBlock] at e; omega)); have hs := hBA.size; have hs2 := hgrow1.size; (try simp at hs2); have hat2 := hat1; (try simp [Value.ownBlock] at hat2); have hog := (hown1.lt g rfl).1; have hog2 := (hown1.lt g rfl).2; have hoc := own_capG hown1; have ho2 := hown1; (try (have e00 : w1.cell? ⟨V1.heap.size, 0, none⟩ = some (.int .i64 0) := hgrow1.cell (by first | (simp [go_sem]; done) | fail) (by first | (simp [Value.ownBlock]; done) | (simp [Value.ownBlock]; omega)))); (try (have p00x : w1.frozen? ⟨V1.heap.size, 0, none⟩ = false := (hgrow1.frozen_far ⟨V1.heap.size, 0, none⟩ (by first | (simp; done) | (simp; omega) | omega) (by first | (simp [Value.ownBlock]; done) | (simp [Value.ownBlock]; omega))).trans (by first | (simp [go_sem]; done) | fail))); (try (have e01 : w1.cell? ⟨V1.heap.size, 1, none⟩ = some (.int .i64 0) := hgrow1.cell (by first | (simp [go_sem]; done) | fail) (by first | (simp [Value.ownBlock]; done) | (simp [Value.ownBlock]; omega)))); (try (have p01x : w1.frozen? ⟨V1.heap.size, 1, none⟩ = false := (hgrow1.frozen_far ⟨V1.heap.size, 1, none⟩ (by first | (simp; done) | (simp; omega) | omega) (by first | (simp [Value.ownBlock]; done) | (simp [Value.ownBlock]; omega))).trans (by first | (simp [go_sem]; done) | fail))); (try (have e02 : w1.cell? ⟨V1.heap.size, 2, none⟩ = some (.int .i64 0) := hgrow1.cell (by first | (simp [go_sem]; done) | fail) (by first | (simp [Value.ownBlock]; done) | (simp [Value.ownBlock]; omega)))); (try (have p02x : w1.frozen? ⟨V1.heap.size, 2, none⟩ = false := (hgrow1.frozen_far ⟨V1.heap.size, 2, none⟩ (by first | (simp; done) | (simp; omega) | omega) (by first | (simp [Value.ownBlock]; done) | (simp [Value.ownBlock]; omega))).trans (by first | (simp [go_sem]; done) | fail))); (try (have e03 : w1.cell? ⟨V1.heap.size, 3, none⟩ = some (.int .i64 0) := hgrow1.cell (by first | (simp [go_sem]; done) | fail) (by first | (simp [Value.ownBlock]; done) | (simp [Value.ownBlock]; omega)))); (try (have p03x : w1.frozen? ⟨V1.heap.size, 3, none⟩ = false := (hgrow1.frozen_far ⟨V1.heap.size, 3, none⟩ (by first | (simp; done) | (simp; omega) | omega) (by first | (simp [Value.ownBlock]; done) | (simp [Value.ownBlock]; omega))).trans (by first | (simp [go_sem]; done) | fail))); (try (have e04 : w1.cell? ⟨V1.heap.size, 4, none⟩ = some (.int .i64 0) := hgrow1.cell (by first | (simp [go_sem]; done) | fail) (by first | (simp [Value.ownBlock]; done) | (simp [Value.ownBlock]; omega)))); (try (have p04x : w1.frozen? ⟨V1.heap.size, 4, none⟩ = false := (hgrow1.frozen_far ⟨V1.heap.size, 4, none⟩ (by first | (simp; done) | (simp; omega) | omega) (by first | (simp [Value.ownBlock]; done) | (simp [Value.ownBlock]; omega))).trans (by first | (simp [go_sem]; done) | fail))); (try (have e05 : w1.cell? ⟨V1.heap.size, 5, none⟩ = some (.int .i64 0) := hgrow1.cell (by first | (simp [go_sem]; done) | fail) (by first | (simp [Value.ownBlock]; done) | (simp [Value.ownBlock]; omega)))); (try (have p05x : w1.frozen? ⟨V1.heap.size, 5, none⟩ = false := (hgrow1.frozen_far ⟨V1.heap.size, 5, none⟩ (by first | (simp; done) | (simp; omega) | omega) (by first | (simp [Value.ownBlock]; done) | (simp [Value.ownBlock]; omega))).trans (by first | (simp [go_sem]; done) | fail))); (try (have e06 : w1.cell? ⟨V1.heap.size, 6, none⟩ = some (.int .i64 0) := hgrow1.cell (by first | (simp [go_sem]; done) | fail) (by first | (simp [Value.ownBlock]; done) | (simp [Value.ownBlock]; omega)))); (try (have p06x : w1.frozen? ⟨V1.heap.size, 6, none⟩ = false := (hgrow1.frozen_far ⟨V1.heap.size, 6, none⟩ (by first | (simp; done) | (simp; omega) | omega) (by first | (simp [Value.ownBlock]; done) | (simp [Value.ownBlock]; omega))).trans (by first | (simp [go_sem]; done) | fail))); (try (have e07 : w1.cell? ⟨V1.heap.size, 7, none⟩ = some (.int .i64 0) := hgrow1.cell (by first | (simp [go_sem]; done) | fail) (by first | (simp [Value.ownBlock]; done) | (simp [Value.ownBlock]; omega)))); (try (have p07x : w1.frozen? ⟨V1.heap.size, 7, none⟩ = false := (hgrow1.frozen_far ⟨V1.heap.size, 7, none⟩ (by first | (simp; done) | (simp; omega) | omega) (by first | (simp [Value.ownBlock]; done) | (simp [Value.ownBlock]; omega))).trans (by first | (simp [go_sem]; done) | fail))); (try (have e08 : w1.cell? ⟨V1.heap.size, 8, none⟩ = some (.slice none 0 0) := hgrow1.cell (by first | (simp [go_sem]; done) | fail) (by first | (simp [Value.ownBlock]; done) | (simp [Value.ownBlock]; omega)))); (try (have p08x : w1.frozen? ⟨V1.heap.size, 8, none⟩ = false := (hgrow1.frozen_far ⟨V1.heap.size, 8, none⟩ (by first | (simp; done) | (simp; omega) | omega) (by first | (simp [Value.ownBlock]; done) | (simp [Value.ownBlock]; omega))).trans (by first | (simp [go_sem]; done) | fail)))))
        all_goals (go_wp2_with fail; go_meet; exact ⟨_, g, cp, rfl, (by go_light; go_simp), (by go_light; go_simp), (by go_light; go_simp), (by go_light; go_simp), (by go_light; go_simp), (by go_light; go_simp), (by go_light; go_simp), (by go_light; go_simp), (by go_light; go_simp), (by repeat (first | with_reducible exact ho2 | with_reducible refine ownsRow_setCell_other ?_ (by simp [Value.ownBlock]; omega) _ | with_reducible refine World.ownsRow.alloc ?_ _ | with_reducible refine World.ownsRow.drew ?_)), (by go_light; first | exact Nat.le_refl _ | (simp; done) | (simp; omega) | omega), (by go_light; first | (simp; done) | (simp; omega) | omega), (by go_light; first | (simp; done) | (simp; omega) | omega), hoc, (held_of (by with_reducible exact And.left (by with_reducible assumption))).1⟩)
      case rest =>
        obtain ⟨C3, g, cp, rfl, k30, k31, k32, k33, k34, k35, k36, k37, k38, ho, WC, K3, hCg, hoc, hb⟩ := hcut
        obtain ⟨V2, rfl⟩ : ∃ x : World, x = wc := ⟨_, rfl⟩
        have hgB : B2 ≠ g := by have := (ho.lt g rfl).1; omega
        have hO := Lib.hid (pown_mono ho HD.size)
        clear ho
        replace HD := HD.trans (hb.mono HD.size)
        obtain ⟨hc, hf⟩ := bcell hb
        have hz := hb.size
        replace b00 := (hc _ 0 L0).trans b00
        replace b01 := (hc _ 1 L0).trans b01
        replace b02 := (hc _ 2 L0).trans b02
        replace b03 := (hc _ 3 L0).trans b03
        replace b04 := (hc _ 4 L0).trans b04
        replace b05 := (hc _ 5 L0).trans b05
        replace b06 := (hc _ 6 L0).trans b06
        replace b07 := (hc _ 7 L0).trans b07
        replace b08 := (hc _ 8 L0).trans b08
        replace b10 := (hc _ 0 L1).trans b10
        replace b11 := (hc _ 1 L1).trans b11
        replace b12 := (hc _ 2 L1).trans b12
        replace b13 := (hc _ 3 L1).trans b13
        replace b20 := (hc _ 0 L2).trans b20
        replace b21 := (hc _ 1 L2).trans b21
        replace b22 := (hc _ 2 L2).trans b22
        replace b23 := (hc _ 3 L2).trans b23
        replace b24 := (hc _ 4 L2).trans b24
        replace b25 := (hc _ 5 L2).trans b25
        replace b26 := (hc _ 6 L2).trans b26
        replace b27 := (hc _ 7 L2).trans b27
        replace b28 := (hc _ 8 L2).trans b28
        replace fz2 := fun o => (hf _ o L2).trans (fz2 o)
        replace FT := Lib.hid (RowAt.below FT.out hb)
        replace L0 := Nat.lt_of_lt_of_le L0 hz
        replace L1 := Nat.lt_of_lt_of_le L1 hz
        replace L2 := Nat.lt_of_lt_of_le L2 hz
        clear hc hf hz hb
        cases e5 : courseOK x0 x1 x2 x3 y0 y1 y2 y3 T
        case false =>
          have HF := Lib.hid (HG.out.trans (if_neg (by rw [e5]; decide)))
          have cc := IsCourseS_c x0 x1 x2 x3 y0 y1 y2 y3 (some ⟨g, 0, none⟩) cp T V2 (by omega) (rowAt_own hO.out) hsT.out
          rw [e5, hTl] at cc
          clear e5
          go_wp2_with fail
          refine (cc).mono ?_
          rintro e V3 ⟨rfl, hb⟩
          clear cc
          replace HD := HD.trans (hb.mono HD.size)
          obtain ⟨hc, hf⟩ := bcell hb
          have hz := hb.size
          replace b00 := (hc _ 0 L0).trans b00
          replace b01 := (hc _ 1 L0).trans b01
          replace b02 := (hc _ 2 L0).trans b02
          replace b03 := (hc _ 3 L0).trans b03
          replace b04 := (hc _ 4 L0).trans b04
          replace b05 := (hc _ 5 L0).trans b05
          replace b06 := (hc _ 6 L0).trans b06
          replace b07 := (hc _ 7 L0).trans b07
          replace b08 := (hc _ 8 L0).trans b08
          replace b10 := (hc _ 0 L1).trans b10
          replace b11 := (hc _ 1 L1).trans b11
          replace b12 := (hc _ 2 L1).trans b12
          replace b13 := (hc _ 3 L1).trans b13
          replace b20 := (hc _ 0 L2).trans b20
          replace b21 := (hc _ 1 L2).trans b21
          replace b22 := (hc _ 2 L2).trans b22
          replace b23 := (hc _ 3 L2).trans b23
          replace b24 := (hc _ 4 L2).trans b24
          replace b25 := (hc _ 5 L2).trans b25
          replace b26 := (hc _ 6 L2).trans b26
          replace b27 := (hc _ 7 L2).trans b27
          replace b28 := (hc _ 8 L2).trans b28
          replace k30 := (hc _ 0 K3).trans k30
          replace k31 := (hc _ 1 K3).trans k31
          replace k32 := (hc _ 2 K3).trans k32
          replace k33 := (hc _ 3 K3).trans k33
          replace k34 := (hc _ 4 K3).trans k34
          replace k35 := (hc _ 5 K3).trans k35
          replace k36 := (hc _ 6 K3).trans k36
          replace k37 := (hc _ 7 K3).trans k37
          replace k38 := (hc _ 8 K3).trans k38
          replace fz2 := fun o => (hf _ o L2).trans (fz2 o)
          replace FT := Lib.hid (RowAt.below FT.out hb)
          replace hO := Lib.hid (pown_below hO.out hb)
          replace L0 := Nat.lt_of_lt_of_le L0 hz
          replace L1 := Nat.lt_of_lt_of_le L1 hz
          replace L2 := Nat.lt_of_lt_of_le L2 hz
          replace K3 := Nat.lt_of_lt_of_le K3 hz
          clear hc hf hz hb
          go_wp2_with fail
          exact bodyPost_ret (v := .tuple #[.agg #[.int .i64 0, .int .i64 0, .int .i64 0, .int .i64 0, .int .i64 0, .int .i64 0, .int .i64 0, .int .i64 0, .slice none 0 0], .int .i64 5]) (by simp [results, Tryd.results22, go_sem, *]) rfl ⟨⟨none, 0, by rw [HF.out]; rfl, by rw [HF.out]; exact World.ownsRow_nil _ _ _ _⟩, (by repeat (first | with_reducible exact Below.refl _ _ | with_reducible assumption | with_reducible refine Below.drew ?_ | with_reducible refine Below.alloc ?_ (by first | exact Nat.le_refl _ | (simp; done) | (simp; omega) | omega) _ | with_reducible refine Below.setCell ?_ (by first | exact Nat.le_refl _ | (simp; done) | (simp; omega) | omega) _ | with_reducible refine Below.trans ?_ (Below.mono (by with_reducible assumption) (by first | exact Nat.le_refl _ | (simp; done) | (simp; omega) | omega))))⟩
        case true =>
          have HF := Lib.hid (HG.out.trans (if_pos e5))
          have cc := IsCourseS_c x0 x1 x2 x3 y0 y1 y2 y3 (some ⟨g, 0, none⟩) cp T V2 (by omega) (rowAt_own hO.out) hsT.out
          rw [e5, hTl] at cc
          clear e5
          go_wp2_with fail
          refine (cc).mono ?_
          rintro e V3 ⟨rfl, hb⟩
          clear cc
          replace HD := HD.trans (hb.mono HD.size)
          obtain ⟨hc, hf⟩ := bcell hb
          have hz := hb.size
          replace b00 := (hc _ 0 L0).trans b00
          replace b01 := (hc _ 1 L0).trans b01
          replace b02 := (hc _ 2 L0).trans b02
          replace b03 := (hc _ 3 L0).trans b03
          replace b04 := (hc _ 4 L0).trans b04
          replace b05 := (hc _ 5 L0).trans b05
          replace b06 := (hc _ 6 L0).trans b06
          replace b07 := (hc _ 7 L0).trans b07
          replace b08 := (hc _ 8 L0).trans b08
          replace b10 := (hc _ 0 L1).trans b10
          replace b11 := (hc _ 1 L1).trans b11
          replace b12 := (hc _ 2 L1).trans b12
          replace b13 := (hc _ 3 L1).trans b13
          replace b20 := (hc _ 0 L2).trans b20
          replace b21 := (hc _ 1 L2).trans b21
          replace b22 := (hc _ 2 L2).trans b22
          replace b23 := (hc _ 3 L2).trans b23
          replace b24 := (hc _ 4 L2).trans b24
          replace b25 := (hc _ 5 L2).trans b25
          replace b26 := (hc _ 6 L2).trans b26
          replace b27 := (hc _ 7 L2).trans b27
          replace b28 := (hc _ 8 L2).trans b28
          replace k30 := (hc _ 0 K3).trans k30
          replace k31 := (hc _ 1 K3).trans k31
          replace k32 := (hc _ 2 K3).trans k32
          replace k33 := (hc _ 3 K3).trans k33
          replace k34 := (hc _ 4 K3).trans k34
          replace k35 := (hc _ 5 K3).trans k35
          replace k36 := (hc _ 6 K3).trans k36
          replace k37 := (hc _ 7 K3).trans k37
          replace k38 := (hc _ 8 K3).trans k38
          replace fz2 := fun o => (hf _ o L2).trans (fz2 o)
          replace FT := Lib.hid (RowAt.below FT.out hb)
          replace hO := Lib.hid (pown_below hO.out hb)
          replace L0 := Nat.lt_of_lt_of_le L0 hz
          replace L1 := Nat.lt_of_lt_of_le L1 hz
          replace L2 := Nat.lt_of_lt_of_le L2 hz
          replace K3 := Nat.lt_of_lt_of_le K3 hz
          clear hc hf hz hb
          go_wp2_with fail
          skip
          exact bodyPost_ret (v := .tuple #[.agg #[.int .i64 x0, .int .i64 x1, .int .i64 x2, .int .i64 x3, .int .i64 y0, .int .i64 y1, .int .i64 y2, .int .i64 y3, .slice (some ⟨g, 0, none⟩) i cp], .int .i64 0]) (by simp [results, Tryd.results22, go_sem, *]) rfl ⟨⟨some ⟨g, 0, none⟩, cp, by rw [HF.out, hTl], by rw [HF.out]; simp only [hTl]; exact (by repeat (first | with_reducible exact hO.out | with_reducible refine ownsRow_setCell_other ?_ (by simp [Value.ownBlock]; omega) _))⟩, (by repeat (first | with_reducible exact Below.refl _ _ | with_reducible assumption | with_reducible refine Below.drew ?_ | with_reducible refine Below.alloc ?_ (by first | exact Nat.le_refl _ | (simp; done) | (simp; omega) | omega) _ | with_reducible refine Below.setCell ?_ (by first | exact Nat.le_refl _ | (simp; done) | (simp; omega) | omega) _ | with_reducible refine Below.trans ?_ (Below.mono (by with_reducible assumption) (by first | exact Nat.le_refl _ | (simp; done) | (simp; omega) | omega))))⟩
end Go.Proofs.YtbeigoejdckpiaaDoor
