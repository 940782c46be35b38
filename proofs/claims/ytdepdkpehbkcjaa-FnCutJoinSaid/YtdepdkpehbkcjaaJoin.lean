/-
  JoinTracks, the program's and the reference's. Conditions: the cells lie in the world; no slice is longer than its capacity.
-/
import Derived.Test.YtdepdkpehbkcjaaConcat
import Derived.Test.YtdepdkpehbkcjaaL03t
namespace Go.Proofs.Ytdepdkpehbkcjaa
set_option linter.unusedVariables false
open Go.RowKit Go.Deep

def lastFx (l : List Fx) : Fx := fx l (l.length - 1)
def joinR (l m : List Fx) : List Fx × Int :=
  if isTrk l = true ∧ isTrk m = true then
    (if (lastFx l).t = (fx m 0).t ∧ (lastFx l).x = (fx m 0).x ∧ (lastFx l).y = (fx m 0).y then (if 40 < l.length + (m.length - 1) then ([], 3) else (l ++ m.tail, 0))
    else if (fx m 0).t ≤ (lastFx l).t then ([], 5) else if 40 < l.length + m.length then ([], 3) else (l ++ m, 0))
  else ([], 1)
theorem fix_tail {w : World} {b off : Nat} {f : Fx} {m : List Fx} (h : FixAt w (some ⟨b, off, none⟩) (f :: m)) : FixAt w (some ⟨b, off + 3, none⟩) m := fun i g hg => by
  obtain ⟨b', off', ha, hlt, c0, c1, c2⟩ := h (i + 1) g (by simpa using hg)
  simp at ha
  obtain ⟨rfl, rfl⟩ := ha
  have e : off + (i + 1) * 3 = off + 3 + i * 3 := by omega
  rw [e] at c0 c1 c2
  exact ⟨b, off + 3, rfl, hlt, c0, c1, c2⟩
theorem fix_lt {w : World} {b off : Nat} {l : List Fx} (h : FixAt w (some ⟨b, off, none⟩) l) (hl : 0 < l.length) : b < w.heap.size := by
  obtain ⟨b', off', ha, hlt, _⟩ := h.head hl
  simp at ha
  rw [ha.1]; exact hlt
set_option maxRecDepth 100000 in
set_option maxHeartbeats 1000000 in
theorem JoinTracks_c (a0 a1 : Option Addr) (cap0 cap1 : Nat) (l m : List Fx) (w : World) (hl : l.length ≤ 4611686018427387904) (hm : m.length ≤ 4611686018427387904) (hcap : m.length ≤ cap1) (hf : FixAt w a0 l) (hg : FixAt w a1 m) : Calls Try.prog 25 #[.agg #[.slice a0 l.length cap0], .agg #[.slice a1 m.length cap1]] w fun e w' => (∃ (a' : Option Addr) (cap' : Nat), e = .returned (.tuple #[.agg #[.slice a' (joinR l m).1.length cap'], .int .i64 (joinR l m).2]) ∧ w'.ownsRow w.heap.size 32 3 (.slice a' (joinR l m).1.length cap') (joinR l m).1.length (flat (joinR l m).1)) ∧ Below w.heap.size w w' := by
  have hF0 := Lib.hid hf
  have hG0 := Lib.hid hg
  clear hf hg
  go_enter Try.func25, Try.ntmps25
  go_wp2_with fail
  obtain ⟨W, hW⟩ : ∃ W, W = (((w.alloc (.cells #[.slice a0 l.length cap0] 26)).alloc (.cells #[.slice a1 m.length cap1] 26)).alloc (.cells #[.slice none 0 0] 26)) := ⟨_, rfl⟩
  have HD : Below w.heap.size w W := by subst hW; exact (by repeat (first | with_reducible exact Below.refl _ _ | with_reducible assumption | with_reducible refine Below.drew ?_ | with_reducible refine Below.alloc ?_ (by first | exact Nat.le_refl _ | (simp; done) | (simp; omega) | omega) _ | with_reducible refine Below.setCell ?_ (by first | exact Nat.le_refl _ | (simp; done) | (simp; omega) | omega) _ | with_reducible refine Below.trans ?_ (Below.mono (by with_reducible assumption) (by first | exact Nat.le_refl _ | (simp; done) | (simp; omega) | omega))))
  have b00 : W.cell? ⟨w.heap.size, 0, none⟩ = some (.slice a0 l.length cap0) := by subst hW; simp [go_sem]
  have L0 : w.heap.size < W.heap.size := by subst hW; first | (simp; done) | (simp; omega)
  have b10 : W.cell? ⟨w.heap.size + 1, 0, none⟩ = some (.slice a1 m.length cap1) := by subst hW; simp [go_sem]
  have L1 : w.heap.size + 1 < W.heap.size := by subst hW; first | (simp; done) | (simp; omega)
  have b20 : W.cell? ⟨w.heap.size + 1 + 1, 0, none⟩ = some (.slice none 0 0) := by subst hW; simp [go_sem]
  have L2 : w.heap.size + 1 + 1 < W.heap.size := by subst hW; first | (simp; done) | (simp; omega)
  have hRB : w.heap.size ≤ w.heap.size + 1 + 1 ∧ w.heap.size ≠ w.heap.size + 1 + 1 ∧ w.heap.size + 1 ≠ w.heap.size + 1 + 1 := by omega
  have fz : ∀ o, W.frozen? ⟨w.heap.size + 1 + 1, o, none⟩ = false := by subst hW; intro o; simp [go_sem]
  rw [← hW]
  clear hW
  generalize w.heap.size + 1 + 1 = B2 at *
  generalize w.heap.size + 1 = B1 at *
  obtain ⟨B0, hB0⟩ : ∃ B, B = w.heap.size := ⟨_, rfl⟩
  rw [← hB0] at b00 L0
  try rw [← hB0]
  replace hB0 := Lib.hid hB0
  obtain ⟨hRB, nB02, nB12⟩ := hRB
  rw [← hB0.out] at nB02
  have FV := Lib.hid (FixAt.below hF0.out HD)
  have GV := Lib.hid (FixAt.below hG0.out HD)
  have cc := IsTrack_c a0 cap0 l W hl FV.out
  cases e1 : isTrk l
  case false =>
    have HF := Lib.hid (show joinR l m = ([], 1) by simp [joinR, e1])
    rw [e1] at cc
    refine (cc).mono ?_
    rintro e VX ⟨rfl, hb⟩
    clear cc
    replace HD := HD.trans (hb.mono HD.size)
    obtain ⟨hc, hf⟩ := bcell hb
    have hz := hb.size
    replace b00 := (hc _ 0 L0).trans b00
    replace b10 := (hc _ 0 L1).trans b10
    replace b20 := (hc _ 0 L2).trans b20
    replace fz := fun o => (hf _ o L2).trans (fz o)
    replace FV := Lib.hid (FixAt.below FV.out hb)
    replace GV := Lib.hid (FixAt.below GV.out hb)
    replace L0 := Nat.lt_of_lt_of_le L0 hz
    replace L1 := Nat.lt_of_lt_of_le L1 hz
    replace L2 := Nat.lt_of_lt_of_le L2 hz
    clear hc hf hz hb
    go_wp2_with fail
    exact bodyPost_ret (v := .tuple #[.agg #[.slice none 0 0], .int .i64 1]) (by simp [results, Try.results25, go_sem, *]) rfl ⟨⟨none, 0, by rw [HF.out]; rfl, by rw [HF.out]; exact World.ownsRow_nil _ _ _ _⟩, (by repeat (first | with_reducible exact Below.refl _ _ | with_reducible assumption | with_reducible refine Below.drew ?_ | with_reducible refine Below.alloc ?_ (by first | exact Nat.le_refl _ | (simp; done) | (simp; omega) | omega) _ | with_reducible refine Below.setCell ?_ (by first | exact Nat.le_refl _ | (simp; done) | (simp; omega) | omega) _ | with_reducible refine Below.trans ?_ (Below.mono (by with_reducible assumption) (by first | exact Nat.le_refl _ | (simp; done) | (simp; omega) | omega))))⟩
  rw [e1] at cc
  refine (cc).mono ?_
  rintro e V0 ⟨rfl, hb⟩
  clear cc
  replace HD := HD.trans (hb.mono HD.size)
  obtain ⟨hc, hf⟩ := bcell hb
  have hz := hb.size
  replace b00 := (hc _ 0 L0).trans b00
  replace b10 := (hc _ 0 L1).trans b10
  replace b20 := (hc _ 0 L2).trans b20
  replace fz := fun o => (hf _ o L2).trans (fz o)
  replace FV := Lib.hid (FixAt.below FV.out hb)
  replace GV := Lib.hid (FixAt.below GV.out hb)
  replace L0 := Nat.lt_of_lt_of_le L0 hz
  replace L1 := Nat.lt_of_lt_of_le L1 hz
  replace L2 := Nat.lt_of_lt_of_le L2 hz
  clear hc hf hz hb
  go_wp2_with fail
  have cc := IsTrack_c a1 cap1 m V0 hm GV.out
  cases e2 : isTrk m
  case false =>
    have HF := Lib.hid (show joinR l m = ([], 1) by simp [joinR, e2])
    rw [e2] at cc
    refine (cc).mono ?_
    rintro e VX ⟨rfl, hb⟩
    clear cc
    replace HD := HD.trans (hb.mono HD.size)
    obtain ⟨hc, hf⟩ := bcell hb
    have hz := hb.size
    replace b00 := (hc _ 0 L0).trans b00
    replace b10 := (hc _ 0 L1).trans b10
    replace b20 := (hc _ 0 L2).trans b20
    replace fz := fun o => (hf _ o L2).trans (fz o)
    replace FV := Lib.hid (FixAt.below FV.out hb)
    replace GV := Lib.hid (FixAt.below GV.out hb)
    replace L0 := Nat.lt_of_lt_of_le L0 hz
    replace L1 := Nat.lt_of_lt_of_le L1 hz
    replace L2 := Nat.lt_of_lt_of_le L2 hz
    clear hc hf hz hb
    go_wp2_with fail
    exact bodyPost_ret (v := .tuple #[.agg #[.slice none 0 0], .int .i64 1]) (by simp [results, Try.results25, go_sem, *]) rfl ⟨⟨none, 0, by rw [HF.out]; rfl, by rw [HF.out]; exact World.ownsRow_nil _ _ _ _⟩, (by repeat (first | with_reducible exact Below.refl _ _ | with_reducible assumption | with_reducible refine Below.drew ?_ | with_reducible refine Below.alloc ?_ (by first | exact Nat.le_refl _ | (simp; done) | (simp; omega) | omega) _ | with_reducible refine Below.setCell ?_ (by first | exact Nat.le_refl _ | (simp; done) | (simp; omega) | omega) _ | with_reducible refine Below.trans ?_ (Below.mono (by with_reducible assumption) (by first | exact Nat.le_refl _ | (simp; done) | (simp; omega) | omega))))⟩
  rw [e2] at cc
  refine (cc).mono ?_
  rintro e V1 ⟨rfl, hb⟩
  clear cc
  replace HD := HD.trans (hb.mono HD.size)
  obtain ⟨hc, hf⟩ := bcell hb
  have hz := hb.size
  replace b00 := (hc _ 0 L0).trans b00
  replace b10 := (hc _ 0 L1).trans b10
  replace b20 := (hc _ 0 L2).trans b20
  replace fz := fun o => (hf _ o L2).trans (fz o)
  replace FV := Lib.hid (FixAt.below FV.out hb)
  replace GV := Lib.hid (FixAt.below GV.out hb)
  replace L0 := Nat.lt_of_lt_of_le L0 hz
  replace L1 := Nat.lt_of_lt_of_le L1 hz
  replace L2 := Nat.lt_of_lt_of_le L2 hz
  clear hc hf hz hb
  go_wp2_with fail
  have h20 := (isTrk_true e1).1
  have h40 := (isTrk_true e1).2.1
  have h21 := (isTrk_true e2).1
  have h41 := (isTrk_true e2).2.1
  have HJ := Lib.hid (show joinR l m = _ from if_pos (And.intro e1 e2))
  obtain ⟨b, off, rfl, hlt, hcs⟩ := FV.out.head (by omega)
  obtain ⟨q, hq⟩ : ∃ q, l.length = q + 1 := ⟨l.length - 1, by omega⟩
  obtain ⟨c0, c1, c2⟩ := hcs q (by omega)
  rw [show lastFx l = fx l q by unfold lastFx; rw [hq]; rfl] at HJ
  have gq : (l.length : Int) - 1 = (q : Int) := by omega
  have gq1 : (q : Int) < (l.length : Int) := by omega
  have gq2 : IntKind.i64.wrap (q : Int) = (q : Int) := by rw [IntKind.wrap_i64]; omega
  have hQ := Lib.hid hq
  clear hcs hq e1
  obtain ⟨f, m', rfl⟩ : ∃ f m', m = f :: m' := by cases m with | nil => simp at h21 | cons f m' => exact ⟨f, m', rfl⟩
  have hOk := Lib.hid (isTrk_true e2).2.2
  rw [show fx (f :: m') 0 = f from rfl] at HJ
  obtain ⟨b1, o1, rfl, hlt1, hcs⟩ := GV.out.head (by simp)
  obtain ⟨d0, d1, d2⟩ := hcs 0 (by simp)
  simp only [show fx (f :: m') 0 = f from rfl, show o1 + 0 * 3 = o1 by omega] at d0 d1 d2
  have hT := Lib.hid (fun (h : 0 < m'.length) => (okAt_true (okUpto_lt hOk.out 1 (by simp; omega))).2.2.2)
  clear hcs e2
  simp only [List.length_cons] at h21 h41 hcap hm
  generalize fx l q = la at *
  go_cut [6, 7] (fun s6 s7 wx => ∃ B : Nat, s6 = .pointer (some ⟨B, 0, none⟩) ∧ s7 = .slice (some ⟨b1, o1, none⟩) (m'.length + 1) cap1 ∧ wx.cell? ⟨B, 0, none⟩ = some (.int .i64 la.t) ∧ wx.cell? ⟨B, 1, none⟩ = some (.int .i64 la.x) ∧ wx.cell? ⟨B, 2, none⟩ = some (.int .i64 la.y) ∧ V1.heap.size ≤ B ∧ B < wx.heap.size ∧ Below V1.heap.size V1 wx)
  case first =>
    go_region
    all_goals (go_wp2_with fail)
    all_goals (go_meet; exact ⟨_, rfl, rfl, by simp [go_sem, *], by simp [go_sem, *], by simp [go_sem, *], by first | exact Nat.le_refl _ | (simp; done) | (simp; omega), by first | (simp; done) | (simp; omega), (by repeat (first | with_reducible exact Below.refl _ _ | with_reducible assumption | with_reducible refine Below.drew ?_ | with_reducible refine Below.alloc ?_ (by first | exact Nat.le_refl _ | (simp; done) | (simp; omega) | omega) _ | with_reducible refine Below.setCell ?_ (by first | exact Nat.le_refl _ | (simp; done) | (simp; omega) | omega) _ | with_reducible refine Below.trans ?_ (Below.mono (by with_reducible assumption) (by first | exact Nat.le_refl _ | (simp; done) | (simp; omega) | omega))))⟩)
  case rest =>
    obtain ⟨B, rfl, rfl, p0, p1, p2, hVB, lB, hb⟩ := hcut
    obtain ⟨V2, rfl⟩ : ∃ x : World, x = wc := ⟨_, rfl⟩
    have nB : B ≠ B2 := by omega
    replace HD := HD.trans (hb.mono HD.size)
    obtain ⟨hc, hf⟩ := bcell hb
    have hz := hb.size
    replace b00 := (hc _ 0 L0).trans b00
    replace b10 := (hc _ 0 L1).trans b10
    replace b20 := (hc _ 0 L2).trans b20
    replace c0 := (hc _ (off + q * 3) hlt).trans c0
    replace c1 := (hc _ (off + q * 3 + 1) hlt).trans c1
    replace c2 := (hc _ (off + q * 3 + 2) hlt).trans c2
    replace d0 := (hc _ o1 hlt1).trans d0
    replace d1 := (hc _ (o1 + 1) hlt1).trans d1
    replace d2 := (hc _ (o1 + 2) hlt1).trans d2
    replace fz := fun o => (hf _ o L2).trans (fz o)
    replace FV := Lib.hid (FixAt.below FV.out hb)
    replace GV := Lib.hid (FixAt.below GV.out hb)
    replace L0 := Nat.lt_of_lt_of_le L0 hz
    replace L1 := Nat.lt_of_lt_of_le L1 hz
    replace L2 := Nat.lt_of_lt_of_le L2 hz
    replace hlt := Nat.lt_of_lt_of_le hlt hz
    replace hlt1 := Nat.lt_of_lt_of_le hlt1 hz
    clear hc hf hz hb
    by_cases hs : la.t = f.t ∧ la.x = f.x ∧ la.y = f.y
    case pos =>
      have HS := Lib.hid hs
      obtain ⟨ht, hx, hy⟩ := hs
      replace HD := Lib.hid HD
      go_upto_region 4 with fail
      refine wp_region_later (by kernel_rfl) (by kernel_rfl) ?_
      repeat (first | go_big_quiet_step (fail) | quiet_step (fail))
      refine wpQuiet_nil ?_
      intro _ hw'
      obtain ⟨s4, hw''⟩ := hw'
      subst hw''
      have hb4 := s4.below
      generalize s4.w = w4 at hb4 ⊢
      clear s4
      try replace hb4 := below_trans (by with_reducible assumption) hb4
      obtain ⟨hc4, hf4⟩ := bcell hb4
      have hz4 := hb4.size
      try simp at hz4
      try have hz40 : w.heap.size ≤ w4.heap.size := by omega
      try have hz41 : w.heap.size < w4.heap.size := by omega
      try have hz42 : w.heap.size + 1 < w4.heap.size := by omega
      try have hz43 : w.heap.size + 1 + 1 < w4.heap.size := by omega
      try have hz44 : w.heap.size + 1 + 1 + 1 < w4.heap.size := by omega
      replace HD := HD.out
      obtain ⟨V3, rfl⟩ : ∃ x : World, x = w4 := ⟨_, rfl⟩
      have hb := hb4
      clear hb4 hc4 hf4
      (try clear hz4)
      replace HD := HD.trans (hb.mono HD.size)
      obtain ⟨hc, hf⟩ := bcell hb
      have hz := hb.size
      replace b00 := (hc _ 0 L0).trans b00
      replace b10 := (hc _ 0 L1).trans b10
      replace b20 := (hc _ 0 L2).trans b20
      replace c0 := (hc _ (off + q * 3) hlt).trans c0
      replace c1 := (hc _ (off + q * 3 + 1) hlt).trans c1
      replace c2 := (hc _ (off + q * 3 + 2) hlt).trans c2
      replace d0 := (hc _ o1 hlt1).trans d0
      replace d1 := (hc _ (o1 + 1) hlt1).trans d1
      replace d2 := (hc _ (o1 + 2) hlt1).trans d2
      replace p0 := (hc _ 0 lB).trans p0
      replace p1 := (hc _ 1 lB).trans p1
      replace p2 := (hc _ 2 lB).trans p2
      replace fz := fun o => (hf _ o L2).trans (fz o)
      replace FV := Lib.hid (FixAt.below FV.out hb)
      replace GV := Lib.hid (FixAt.below GV.out hb)
      replace L0 := Nat.lt_of_lt_of_le L0 hz
      replace L1 := Nat.lt_of_lt_of_le L1 hz
      replace L2 := Nat.lt_of_lt_of_le L2 hz
      replace hlt := Nat.lt_of_lt_of_le hlt hz
      replace hlt1 := Nat.lt_of_lt_of_le hlt1 hz
      replace lB := Nat.lt_of_lt_of_le lB hz
      clear hc hf hz hb
      have hm1 : 0 < m'.length := by omega
      have hgt := hT.out hm1
      have hlt3 : f.t < (fx m' 0).t := by rcases hgt with e | e; omega; exact e
      obtain ⟨e0, _, _⟩ := (fix_tail GV.out).head hm1 |>.elim (fun b' h => h.elim fun o' h => (by obtain ⟨ha, _, hc⟩ := h; simp at ha; obtain ⟨rfl, rfl⟩ := ha; exact hc 0 hm1))
      rw [Nat.zero_mul, Nat.add_zero] at e0
      clear hgt hT
      replace HD := Lib.hid HD
      go_upto_region 6 with fail
      refine wp_region_later (by kernel_rfl) (by kernel_rfl) ?_
      repeat (first | go_big_quiet_step (fail) | quiet_step (fail))
      refine wpQuiet_nil ?_
      intro _ hw'
      obtain ⟨s6, hw''⟩ := hw'
      subst hw''
      have hb6 := s6.below
      generalize s6.w = w6 at hb6 ⊢
      clear s6
      try replace hb6 := below_trans (by with_reducible assumption) hb6
      obtain ⟨hc6, hf6⟩ := bcell hb6
      have hz6 := hb6.size
      try simp at hz6
      try have hz60 : w.heap.size ≤ w6.heap.size := by omega
      try have hz61 : w.heap.size < w6.heap.size := by omega
      try have hz62 : w.heap.size + 1 < w6.heap.size := by omega
      try have hz63 : w.heap.size + 1 + 1 < w6.heap.size := by omega
      try have hz64 : w.heap.size + 1 + 1 + 1 < w6.heap.size := by omega
      replace HD := HD.out
      obtain ⟨V4, rfl⟩ : ∃ x : World, x = w6 := ⟨_, rfl⟩
      have hb := hb6
      clear hb6 hc6 hf6
      (try clear hz6)
      replace HD := HD.trans (hb.mono HD.size)
      obtain ⟨hc, hf⟩ := bcell hb
      have hz := hb.size
      replace b00 := (hc _ 0 L0).trans b00
      replace b10 := (hc _ 0 L1).trans b10
      replace b20 := (hc _ 0 L2).trans b20
      replace c0 := (hc _ (off + q * 3) hlt).trans c0
      replace c1 := (hc _ (off + q * 3 + 1) hlt).trans c1
      replace c2 := (hc _ (off + q * 3 + 2) hlt).trans c2
      replace d0 := (hc _ o1 hlt1).trans d0
      replace d1 := (hc _ (o1 + 1) hlt1).trans d1
      replace d2 := (hc _ (o1 + 2) hlt1).trans d2
      replace p0 := (hc _ 0 lB).trans p0
      replace p1 := (hc _ 1 lB).trans p1
      replace p2 := (hc _ 2 lB).trans p2
      replace e0 := (hc _ (o1 + 3) hlt1).trans e0
      replace fz := fun o => (hf _ o L2).trans (fz o)
      replace FV := Lib.hid (FixAt.below FV.out hb)
      replace GV := Lib.hid (FixAt.below GV.out hb)
      replace L0 := Nat.lt_of_lt_of_le L0 hz
      replace L1 := Nat.lt_of_lt_of_le L1 hz
      replace L2 := Nat.lt_of_lt_of_le L2 hz
      replace hlt := Nat.lt_of_lt_of_le hlt hz
      replace hlt1 := Nat.lt_of_lt_of_le hlt1 hz
      replace lB := Nat.lt_of_lt_of_le lB hz
      clear hc hf hz hb
      by_cases h8 : 40 < l.length + (m'.length)
      case pos =>
        have h8i : (40 : Int) < (l.length : Int) + ((m'.length : Nat) : Int) := by omega
        have HF := Lib.hid (show joinR l (f :: m') = ([], 3) by rw [HJ.out]; rw [if_pos HS.out]; simp only [List.length_cons, Nat.add_sub_cancel]; rw [if_pos h8])
        go_wp2_with fail
        exact bodyPost_ret (v := .tuple #[.agg #[.slice none 0 0], .int .i64 3]) (by simp [results, Try.results25, go_sem, *]) rfl ⟨⟨none, 0, by rw [HF.out]; rfl, by rw [HF.out]; exact World.ownsRow_nil _ _ _ _⟩, (by repeat (first | with_reducible exact Below.refl _ _ | with_reducible assumption | with_reducible refine Below.drew ?_ | with_reducible refine Below.alloc ?_ (by first | exact Nat.le_refl _ | (simp; done) | (simp; omega) | omega) _ | with_reducible refine Below.setCell ?_ (by first | exact Nat.le_refl _ | (simp; done) | (simp; omega) | omega) _ | with_reducible refine Below.trans ?_ (Below.mono (by with_reducible assumption) (by first | exact Nat.le_refl _ | (simp; done) | (simp; omega) | omega))))⟩
      case neg =>
        have h8i : ¬ (40 : Int) < (l.length : Int) + ((m'.length : Nat) : Int) := by omega
        have HF := Lib.hid (show joinR l (f :: m') = (l ++ (m'), 0) by rw [HJ.out]; rw [if_pos HS.out]; simp only [List.length_cons, Nat.add_sub_cancel, List.tail_cons]; rw [if_neg h8])
        go_wp2_with fail
        obtain ⟨X, hX⟩ : ∃ x, x = V4.alloc (.cells #[.slice (some ⟨b, off, none⟩) l.length cap0, .slice (some ⟨b1, o1 + 3, none⟩) (m'.length) (cap1 - 1)] 24) := ⟨_, rfl⟩
        have hb : Below V4.heap.size V4 X := by subst hX; exact (Below.refl _ _).alloc (Nat.le_refl _) _
        have x0 : X.cell? ⟨V4.heap.size, 0, none⟩ = some (.slice (some ⟨b, off, none⟩) l.length cap0) := by subst hX; simp [go_sem]
        have x1 : X.cell? ⟨V4.heap.size, 1, none⟩ = some (.slice (some ⟨b1, o1 + 3, none⟩) (m'.length) (cap1 - 1)) := by subst hX; simp [go_sem]
        have xl : V4.heap.size < X.heap.size := by subst hX; simp
        rw [← hX]
        clear hX
        replace HD := HD.trans (hb.mono HD.size)
        obtain ⟨hc, hf⟩ := bcell hb
        have hz := hb.size
        replace b00 := (hc _ 0 L0).trans b00
        replace b10 := (hc _ 0 L1).trans b10
        replace b20 := (hc _ 0 L2).trans b20
        replace c0 := (hc _ (off + q * 3) hlt).trans c0
        replace c1 := (hc _ (off + q * 3 + 1) hlt).trans c1
        replace c2 := (hc _ (off + q * 3 + 2) hlt).trans c2
        replace d0 := (hc _ o1 hlt1).trans d0
        replace d1 := (hc _ (o1 + 1) hlt1).trans d1
        replace d2 := (hc _ (o1 + 2) hlt1).trans d2
        replace p0 := (hc _ 0 lB).trans p0
        replace p1 := (hc _ 1 lB).trans p1
        replace p2 := (hc _ 2 lB).trans p2
        replace e0 := (hc _ (o1 + 3) hlt1).trans e0
        replace fz := fun o => (hf _ o L2).trans (fz o)
        replace FV := Lib.hid (FixAt.below FV.out hb)
        replace GV := Lib.hid (FixAt.below GV.out hb)
        replace L0 := Nat.lt_of_lt_of_le L0 hz
        replace L1 := Nat.lt_of_lt_of_le L1 hz
        replace L2 := Nat.lt_of_lt_of_le L2 hz
        replace hlt := Nat.lt_of_lt_of_le hlt hz
        replace hlt1 := Nat.lt_of_lt_of_le hlt1 hz
        replace lB := Nat.lt_of_lt_of_le lB hz
        clear hc hf hz hb
        have cc := concatFix_c V4.heap.size b off b1 (o1 + 3) cap0 (cap1 - 1) l (m') X (by omega) (by omega) (by first | omega | (simp; done) | (simp; omega)) (by first | omega | (simp; done) | (simp; omega)) x0 (by simpa using x1) xl FV.out (fix_tail GV.out)
        refine cc.mono ?_
        rintro e Y ⟨⟨g, cp, rfl, ho, hgg⟩, hb⟩
        have hXs := HD.size
        have LX := L2
        clear cc x0 x1 xl
        replace HD := HD.trans (hb.mono HD.size)
        obtain ⟨hc, hf⟩ := bcell hb
        have hz := hb.size
        replace b00 := (hc _ 0 L0).trans b00
        replace b10 := (hc _ 0 L1).trans b10
        replace b20 := (hc _ 0 L2).trans b20
        replace c0 := (hc _ (off + q * 3) hlt).trans c0
        replace c1 := (hc _ (off + q * 3 + 1) hlt).trans c1
        replace c2 := (hc _ (off + q * 3 + 2) hlt).trans c2
        replace d0 := (hc _ o1 hlt1).trans d0
        replace d1 := (hc _ (o1 + 1) hlt1).trans d1
        replace d2 := (hc _ (o1 + 2) hlt1).trans d2
        replace p0 := (hc _ 0 lB).trans p0
        replace p1 := (hc _ 1 lB).trans p1
        replace p2 := (hc _ 2 lB).trans p2
        replace e0 := (hc _ (o1 + 3) hlt1).trans e0
        replace fz := fun o => (hf _ o L2).trans (fz o)
        replace FV := Lib.hid (FixAt.below FV.out hb)
        replace GV := Lib.hid (FixAt.below GV.out hb)
        replace L0 := Nat.lt_of_lt_of_le L0 hz
        replace L1 := Nat.lt_of_lt_of_le L1 hz
        replace L2 := Nat.lt_of_lt_of_le L2 hz
        replace hlt := Nat.lt_of_lt_of_le hlt hz
        replace hlt1 := Nat.lt_of_lt_of_le hlt1 hz
        replace lB := Nat.lt_of_lt_of_le lB hz
        clear hc hf hz hb
        go_wp2_with fail
        have hlen : (l ++ (m')).length = l.length + (m'.length) := by simp
        have HO := Lib.hid (own_mono (ownsRow_setCell_below ho (a := ⟨B2, 0, none⟩) LX (.slice (some ⟨g, 0, none⟩) (l.length + (m'.length)) cp)) hXs)
        have HW := Lib.hid (HD.setCell (p := ⟨B2, 0, none⟩) hRB (.slice (some ⟨g, 0, none⟩) (l.length + (m'.length)) cp))
        refine bodyPost_ret (v := .tuple #[.agg #[.slice (some ⟨g, 0, none⟩) (l.length + (m'.length)) cp], .int .i64 0]) (by simp [results, Try.results25, go_sem, *]) rfl ⟨⟨some ⟨g, 0, none⟩, cp, ?_, ?_⟩, ?_⟩
        · rw [HF.out, hlen]
        · rw [HF.out, hlen, flat_append]; exact HO.out
        · exact HW.out
    case neg =>
      have HS := Lib.hid hs
      have HS := Lib.hid hs
      clear hT
      have hw : la.t ≠ f.t ∨ (la.t = f.t ∧ la.x ≠ f.x) ∨ (la.t = f.t ∧ la.x = f.x ∧ la.y ≠ f.y) := by omega
      clear hs
      rcases hw with hw | hw | hw
      case inl =>
        replace HD := Lib.hid HD
        go_upto_region 4 with fail
        refine wp_region_later (by kernel_rfl) (by kernel_rfl) ?_
        repeat (first | go_big_quiet_step (fail) | quiet_step (fail))
        refine wpQuiet_nil ?_
        intro _ hw'
        obtain ⟨s4, hw''⟩ := hw'
        subst hw''
        have hb4 := s4.below
        generalize s4.w = w4 at hb4 ⊢
        clear s4
        try replace hb4 := below_trans (by with_reducible assumption) hb4
        obtain ⟨hc4, hf4⟩ := bcell hb4
        have hz4 := hb4.size
        try simp at hz4
        try have hz40 : w.heap.size ≤ w4.heap.size := by omega
        try have hz41 : w.heap.size < w4.heap.size := by omega
        try have hz42 : w.heap.size + 1 < w4.heap.size := by omega
        try have hz43 : w.heap.size + 1 + 1 < w4.heap.size := by omega
        try have hz44 : w.heap.size + 1 + 1 + 1 < w4.heap.size := by omega
        replace HD := HD.out
        obtain ⟨V3, rfl⟩ : ∃ x : World, x = w4 := ⟨_, rfl⟩
        have hb := hb4
        clear hb4 hc4 hf4
        (try clear hz4)
        replace HD := HD.trans (hb.mono HD.size)
        obtain ⟨hc, hf⟩ := bcell hb
        have hz := hb.size
        replace b00 := (hc _ 0 L0).trans b00
        replace b10 := (hc _ 0 L1).trans b10
        replace b20 := (hc _ 0 L2).trans b20
        replace c0 := (hc _ (off + q * 3) hlt).trans c0
        replace c1 := (hc _ (off + q * 3 + 1) hlt).trans c1
        replace c2 := (hc _ (off + q * 3 + 2) hlt).trans c2
        replace d0 := (hc _ o1 hlt1).trans d0
        replace d1 := (hc _ (o1 + 1) hlt1).trans d1
        replace d2 := (hc _ (o1 + 2) hlt1).trans d2
        replace p0 := (hc _ 0 lB).trans p0
        replace p1 := (hc _ 1 lB).trans p1
        replace p2 := (hc _ 2 lB).trans p2
        replace fz := fun o => (hf _ o L2).trans (fz o)
        replace FV := Lib.hid (FixAt.below FV.out hb)
        replace GV := Lib.hid (FixAt.below GV.out hb)
        replace L0 := Nat.lt_of_lt_of_le L0 hz
        replace L1 := Nat.lt_of_lt_of_le L1 hz
        replace L2 := Nat.lt_of_lt_of_le L2 hz
        replace hlt := Nat.lt_of_lt_of_le hlt hz
        replace hlt1 := Nat.lt_of_lt_of_le hlt1 hz
        replace lB := Nat.lt_of_lt_of_le lB hz
        clear hc hf hz hb
        by_cases h5 : f.t ≤ la.t
        case pos =>
          replace HD := Lib.hid HD
          go_upto_region 6 with fail
          refine wp_region_later (by kernel_rfl) (by kernel_rfl) ?_
          repeat (first | go_big_quiet_step (fail) | quiet_step (fail))
          refine wpQuiet_nil ?_
          intro _ hw'
          obtain ⟨s6, hw''⟩ := hw'
          subst hw''
          have hb6 := s6.below
          generalize s6.w = w6 at hb6 ⊢
          clear s6
          try replace hb6 := below_trans (by with_reducible assumption) hb6
          obtain ⟨hc6, hf6⟩ := bcell hb6
          have hz6 := hb6.size
          try simp at hz6
          try have hz60 : w.heap.size ≤ w6.heap.size := by omega
          try have hz61 : w.heap.size < w6.heap.size := by omega
          try have hz62 : w.heap.size + 1 < w6.heap.size := by omega
          try have hz63 : w.heap.size + 1 + 1 < w6.heap.size := by omega
          try have hz64 : w.heap.size + 1 + 1 + 1 < w6.heap.size := by omega
          replace HD := HD.out
          obtain ⟨V4, rfl⟩ : ∃ x : World, x = w6 := ⟨_, rfl⟩
          have hb := hb6
          clear hb6 hc6 hf6
          (try clear hz6)
          replace HD := HD.trans (hb.mono HD.size)
          obtain ⟨hc, hf⟩ := bcell hb
          have hz := hb.size
          replace b00 := (hc _ 0 L0).trans b00
          replace b10 := (hc _ 0 L1).trans b10
          replace b20 := (hc _ 0 L2).trans b20
          replace c0 := (hc _ (off + q * 3) hlt).trans c0
          replace c1 := (hc _ (off + q * 3 + 1) hlt).trans c1
          replace c2 := (hc _ (off + q * 3 + 2) hlt).trans c2
          replace d0 := (hc _ o1 hlt1).trans d0
          replace d1 := (hc _ (o1 + 1) hlt1).trans d1
          replace d2 := (hc _ (o1 + 2) hlt1).trans d2
          replace p0 := (hc _ 0 lB).trans p0
          replace p1 := (hc _ 1 lB).trans p1
          replace p2 := (hc _ 2 lB).trans p2
          replace fz := fun o => (hf _ o L2).trans (fz o)
          replace FV := Lib.hid (FixAt.below FV.out hb)
          replace GV := Lib.hid (FixAt.below GV.out hb)
          replace L0 := Nat.lt_of_lt_of_le L0 hz
          replace L1 := Nat.lt_of_lt_of_le L1 hz
          replace L2 := Nat.lt_of_lt_of_le L2 hz
          replace hlt := Nat.lt_of_lt_of_le hlt hz
          replace hlt1 := Nat.lt_of_lt_of_le hlt1 hz
          replace lB := Nat.lt_of_lt_of_le lB hz
          clear hc hf hz hb
          have HF := Lib.hid (show joinR l (f :: m') = ([], 5) by rw [HJ.out]; rw [if_neg HS.out, if_pos h5])
          go_wp2_with fail
          exact bodyPost_ret (v := .tuple #[.agg #[.slice none 0 0], .int .i64 5]) (by simp [results, Try.results25, go_sem, *]) rfl ⟨⟨none, 0, by rw [HF.out]; rfl, by rw [HF.out]; exact World.ownsRow_nil _ _ _ _⟩, (by repeat (first | with_reducible exact Below.refl _ _ | with_reducible assumption | with_reducible refine Below.drew ?_ | with_reducible refine Below.alloc ?_ (by first | exact Nat.le_refl _ | (simp; done) | (simp; omega) | omega) _ | with_reducible refine Below.setCell ?_ (by first | exact Nat.le_refl _ | (simp; done) | (simp; omega) | omega) _ | with_reducible refine Below.trans ?_ (Below.mono (by with_reducible assumption) (by first | exact Nat.le_refl _ | (simp; done) | (simp; omega) | omega))))⟩
        case neg =>
          replace HD := Lib.hid HD
          go_upto_region 6 with fail
          refine wp_region_later (by kernel_rfl) (by kernel_rfl) ?_
          repeat (first | go_big_quiet_step (fail) | quiet_step (fail))
          refine wpQuiet_nil ?_
          intro _ hw'
          obtain ⟨s6, hw''⟩ := hw'
          subst hw''
          have hb6 := s6.below
          generalize s6.w = w6 at hb6 ⊢
          clear s6
          try replace hb6 := below_trans (by with_reducible assumption) hb6
          obtain ⟨hc6, hf6⟩ := bcell hb6
          have hz6 := hb6.size
          try simp at hz6
          try have hz60 : w.heap.size ≤ w6.heap.size := by omega
          try have hz61 : w.heap.size < w6.heap.size := by omega
          try have hz62 : w.heap.size + 1 < w6.heap.size := by omega
          try have hz63 : w.heap.size + 1 + 1 < w6.heap.size := by omega
          try have hz64 : w.heap.size + 1 + 1 + 1 < w6.heap.size := by omega
          replace HD := HD.out
          obtain ⟨V4, rfl⟩ : ∃ x : World, x = w6 := ⟨_, rfl⟩
          have hb := hb6
          clear hb6 hc6 hf6
          (try clear hz6)
          replace HD := HD.trans (hb.mono HD.size)
          obtain ⟨hc, hf⟩ := bcell hb
          have hz := hb.size
          replace b00 := (hc _ 0 L0).trans b00
          replace b10 := (hc _ 0 L1).trans b10
          replace b20 := (hc _ 0 L2).trans b20
          replace c0 := (hc _ (off + q * 3) hlt).trans c0
          replace c1 := (hc _ (off + q * 3 + 1) hlt).trans c1
          replace c2 := (hc _ (off + q * 3 + 2) hlt).trans c2
          replace d0 := (hc _ o1 hlt1).trans d0
          replace d1 := (hc _ (o1 + 1) hlt1).trans d1
          replace d2 := (hc _ (o1 + 2) hlt1).trans d2
          replace p0 := (hc _ 0 lB).trans p0
          replace p1 := (hc _ 1 lB).trans p1
          replace p2 := (hc _ 2 lB).trans p2
          replace fz := fun o => (hf _ o L2).trans (fz o)
          replace FV := Lib.hid (FixAt.below FV.out hb)
          replace GV := Lib.hid (FixAt.below GV.out hb)
          replace L0 := Nat.lt_of_lt_of_le L0 hz
          replace L1 := Nat.lt_of_lt_of_le L1 hz
          replace L2 := Nat.lt_of_lt_of_le L2 hz
          replace hlt := Nat.lt_of_lt_of_le hlt hz
          replace hlt1 := Nat.lt_of_lt_of_le hlt1 hz
          replace lB := Nat.lt_of_lt_of_le lB hz
          clear hc hf hz hb
          by_cases h8 : 40 < l.length + (m'.length + 1)
          case pos =>
            have h8i : (40 : Int) < (l.length : Int) + ((m'.length + 1 : Nat) : Int) := by omega
            have HF := Lib.hid (show joinR l (f :: m') = ([], 3) by rw [HJ.out]; rw [if_neg HS.out, if_neg h5]; simp only [List.length_cons]; rw [if_pos h8])
            go_wp2_with fail
            exact bodyPost_ret (v := .tuple #[.agg #[.slice none 0 0], .int .i64 3]) (by simp [results, Try.results25, go_sem, *]) rfl ⟨⟨none, 0, by rw [HF.out]; rfl, by rw [HF.out]; exact World.ownsRow_nil _ _ _ _⟩, (by repeat (first | with_reducible exact Below.refl _ _ | with_reducible assumption | with_reducible refine Below.drew ?_ | with_reducible refine Below.alloc ?_ (by first | exact Nat.le_refl _ | (simp; done) | (simp; omega) | omega) _ | with_reducible refine Below.setCell ?_ (by first | exact Nat.le_refl _ | (simp; done) | (simp; omega) | omega) _ | with_reducible refine Below.trans ?_ (Below.mono (by with_reducible assumption) (by first | exact Nat.le_refl _ | (simp; done) | (simp; omega) | omega))))⟩
          case neg =>
            have h8i : ¬ (40 : Int) < (l.length : Int) + ((m'.length + 1 : Nat) : Int) := by omega
            have HF := Lib.hid (show joinR l (f :: m') = (l ++ (f :: m'), 0) by rw [HJ.out]; rw [if_neg HS.out, if_neg h5]; simp only [List.length_cons]; rw [if_neg h8])
            go_wp2_with fail
            obtain ⟨X, hX⟩ : ∃ x, x = V4.alloc (.cells #[.slice (some ⟨b, off, none⟩) l.length cap0, .slice (some ⟨b1, o1, none⟩) (m'.length + 1) (cap1)] 24) := ⟨_, rfl⟩
            have hb : Below V4.heap.size V4 X := by subst hX; exact (Below.refl _ _).alloc (Nat.le_refl _) _
            have x0 : X.cell? ⟨V4.heap.size, 0, none⟩ = some (.slice (some ⟨b, off, none⟩) l.length cap0) := by subst hX; simp [go_sem]
            have x1 : X.cell? ⟨V4.heap.size, 1, none⟩ = some (.slice (some ⟨b1, o1, none⟩) (m'.length + 1) (cap1)) := by subst hX; simp [go_sem]
            have xl : V4.heap.size < X.heap.size := by subst hX; simp
            rw [← hX]
            clear hX
            replace HD := HD.trans (hb.mono HD.size)
            obtain ⟨hc, hf⟩ := bcell hb
            have hz := hb.size
            replace b00 := (hc _ 0 L0).trans b00
            replace b10 := (hc _ 0 L1).trans b10
            replace b20 := (hc _ 0 L2).trans b20
            replace c0 := (hc _ (off + q * 3) hlt).trans c0
            replace c1 := (hc _ (off + q * 3 + 1) hlt).trans c1
            replace c2 := (hc _ (off + q * 3 + 2) hlt).trans c2
            replace d0 := (hc _ o1 hlt1).trans d0
            replace d1 := (hc _ (o1 + 1) hlt1).trans d1
            replace d2 := (hc _ (o1 + 2) hlt1).trans d2
            replace p0 := (hc _ 0 lB).trans p0
            replace p1 := (hc _ 1 lB).trans p1
            replace p2 := (hc _ 2 lB).trans p2
            replace fz := fun o => (hf _ o L2).trans (fz o)
            replace FV := Lib.hid (FixAt.below FV.out hb)
            replace GV := Lib.hid (FixAt.below GV.out hb)
            replace L0 := Nat.lt_of_lt_of_le L0 hz
            replace L1 := Nat.lt_of_lt_of_le L1 hz
            replace L2 := Nat.lt_of_lt_of_le L2 hz
            replace hlt := Nat.lt_of_lt_of_le hlt hz
            replace hlt1 := Nat.lt_of_lt_of_le hlt1 hz
            replace lB := Nat.lt_of_lt_of_le lB hz
            clear hc hf hz hb
            have cc := concatFix_c V4.heap.size b off b1 (o1) cap0 (cap1) l (f :: m') X (by omega) (by omega) (by first | omega | (simp; done) | (simp; omega)) (by first | omega | (simp; done) | (simp; omega)) x0 (by simpa using x1) xl FV.out GV.out
            refine cc.mono ?_
            rintro e Y ⟨⟨g, cp, rfl, ho, hgg⟩, hb⟩
            have hXs := HD.size
            have LX := L2
            clear cc x0 x1 xl
            replace HD := HD.trans (hb.mono HD.size)
            obtain ⟨hc, hf⟩ := bcell hb
            have hz := hb.size
            replace b00 := (hc _ 0 L0).trans b00
            replace b10 := (hc _ 0 L1).trans b10
            replace b20 := (hc _ 0 L2).trans b20
            replace c0 := (hc _ (off + q * 3) hlt).trans c0
            replace c1 := (hc _ (off + q * 3 + 1) hlt).trans c1
            replace c2 := (hc _ (off + q * 3 + 2) hlt).trans c2
            replace d0 := (hc _ o1 hlt1).trans d0
            replace d1 := (hc _ (o1 + 1) hlt1).trans d1
            replace d2 := (hc _ (o1 + 2) hlt1).trans d2
            replace p0 := (hc _ 0 lB).trans p0
            replace p1 := (hc _ 1 lB).trans p1
            replace p2 := (hc _ 2 lB).trans p2
            replace fz := fun o => (hf _ o L2).trans (fz o)
            replace FV := Lib.hid (FixAt.below FV.out hb)
            replace GV := Lib.hid (FixAt.below GV.out hb)
            replace L0 := Nat.lt_of_lt_of_le L0 hz
            replace L1 := Nat.lt_of_lt_of_le L1 hz
            replace L2 := Nat.lt_of_lt_of_le L2 hz
            replace hlt := Nat.lt_of_lt_of_le hlt hz
            replace hlt1 := Nat.lt_of_lt_of_le hlt1 hz
            replace lB := Nat.lt_of_lt_of_le lB hz
            clear hc hf hz hb
            go_wp2_with fail
            have hlen : (l ++ (f :: m')).length = l.length + (m'.length + 1) := by simp
            have HO := Lib.hid (own_mono (ownsRow_setCell_below ho (a := ⟨B2, 0, none⟩) LX (.slice (some ⟨g, 0, none⟩) (l.length + (m'.length + 1)) cp)) hXs)
            have HW := Lib.hid (HD.setCell (p := ⟨B2, 0, none⟩) hRB (.slice (some ⟨g, 0, none⟩) (l.length + (m'.length + 1)) cp))
            refine bodyPost_ret (v := .tuple #[.agg #[.slice (some ⟨g, 0, none⟩) (l.length + (m'.length + 1)) cp], .int .i64 0]) (by simp [results, Try.results25, go_sem, *]) rfl ⟨⟨some ⟨g, 0, none⟩, cp, ?_, ?_⟩, ?_⟩
            · rw [HF.out, hlen]
            · rw [HF.out, hlen, flat_append]; exact HO.out
            · exact HW.out
      case inr.inl =>
        obtain ⟨hw, hw2⟩ := hw
        replace HD := Lib.hid HD
        go_upto_region 4 with fail
        refine wp_region_later (by kernel_rfl) (by kernel_rfl) ?_
        repeat (first | go_big_quiet_step (fail) | quiet_step (fail))
        refine wpQuiet_nil ?_
        intro _ hw'
        obtain ⟨s4, hw''⟩ := hw'
        subst hw''
        have hb4 := s4.below
        generalize s4.w = w4 at hb4 ⊢
        clear s4
        try replace hb4 := below_trans (by with_reducible assumption) hb4
        obtain ⟨hc4, hf4⟩ := bcell hb4
        have hz4 := hb4.size
        try simp at hz4
        try have hz40 : w.heap.size ≤ w4.heap.size := by omega
        try have hz41 : w.heap.size < w4.heap.size := by omega
        try have hz42 : w.heap.size + 1 < w4.heap.size := by omega
        try have hz43 : w.heap.size + 1 + 1 < w4.heap.size := by omega
        try have hz44 : w.heap.size + 1 + 1 + 1 < w4.heap.size := by omega
        replace HD := HD.out
        obtain ⟨V3, rfl⟩ : ∃ x : World, x = w4 := ⟨_, rfl⟩
        have hb := hb4
        clear hb4 hc4 hf4
        (try clear hz4)
        replace HD := HD.trans (hb.mono HD.size)
        obtain ⟨hc, hf⟩ := bcell hb
        have hz := hb.size
        replace b00 := (hc _ 0 L0).trans b00
        replace b10 := (hc _ 0 L1).trans b10
        replace b20 := (hc _ 0 L2).trans b20
        replace c0 := (hc _ (off + q * 3) hlt).trans c0
        replace c1 := (hc _ (off + q * 3 + 1) hlt).trans c1
        replace c2 := (hc _ (off + q * 3 + 2) hlt).trans c2
        replace d0 := (hc _ o1 hlt1).trans d0
        replace d1 := (hc _ (o1 + 1) hlt1).trans d1
        replace d2 := (hc _ (o1 + 2) hlt1).trans d2
        replace p0 := (hc _ 0 lB).trans p0
        replace p1 := (hc _ 1 lB).trans p1
        replace p2 := (hc _ 2 lB).trans p2
        replace fz := fun o => (hf _ o L2).trans (fz o)
        replace FV := Lib.hid (FixAt.below FV.out hb)
        replace GV := Lib.hid (FixAt.below GV.out hb)
        replace L0 := Nat.lt_of_lt_of_le L0 hz
        replace L1 := Nat.lt_of_lt_of_le L1 hz
        replace L2 := Nat.lt_of_lt_of_le L2 hz
        replace hlt := Nat.lt_of_lt_of_le hlt hz
        replace hlt1 := Nat.lt_of_lt_of_le hlt1 hz
        replace lB := Nat.lt_of_lt_of_le lB hz
        clear hc hf hz hb
        by_cases h5 : f.t ≤ la.t
        case pos =>
          replace HD := Lib.hid HD
          go_upto_region 6 with fail
          refine wp_region_later (by kernel_rfl) (by kernel_rfl) ?_
          repeat (first | go_big_quiet_step (fail) | quiet_step (fail))
          refine wpQuiet_nil ?_
          intro _ hw'
          obtain ⟨s6, hw''⟩ := hw'
          subst hw''
          have hb6 := s6.below
          generalize s6.w = w6 at hb6 ⊢
          clear s6
          try replace hb6 := below_trans (by with_reducible assumption) hb6
          obtain ⟨hc6, hf6⟩ := bcell hb6
          have hz6 := hb6.size
          try simp at hz6
          try have hz60 : w.heap.size ≤ w6.heap.size := by omega
          try have hz61 : w.heap.size < w6.heap.size := by omega
          try have hz62 : w.heap.size + 1 < w6.heap.size := by omega
          try have hz63 : w.heap.size + 1 + 1 < w6.heap.size := by omega
          try have hz64 : w.heap.size + 1 + 1 + 1 < w6.heap.size := by omega
          replace HD := HD.out
          obtain ⟨V4, rfl⟩ : ∃ x : World, x = w6 := ⟨_, rfl⟩
          have hb := hb6
          clear hb6 hc6 hf6
          (try clear hz6)
          replace HD := HD.trans (hb.mono HD.size)
          obtain ⟨hc, hf⟩ := bcell hb
          have hz := hb.size
          replace b00 := (hc _ 0 L0).trans b00
          replace b10 := (hc _ 0 L1).trans b10
          replace b20 := (hc _ 0 L2).trans b20
          replace c0 := (hc _ (off + q * 3) hlt).trans c0
          replace c1 := (hc _ (off + q * 3 + 1) hlt).trans c1
          replace c2 := (hc _ (off + q * 3 + 2) hlt).trans c2
          replace d0 := (hc _ o1 hlt1).trans d0
          replace d1 := (hc _ (o1 + 1) hlt1).trans d1
          replace d2 := (hc _ (o1 + 2) hlt1).trans d2
          replace p0 := (hc _ 0 lB).trans p0
          replace p1 := (hc _ 1 lB).trans p1
          replace p2 := (hc _ 2 lB).trans p2
          replace fz := fun o => (hf _ o L2).trans (fz o)
          replace FV := Lib.hid (FixAt.below FV.out hb)
          replace GV := Lib.hid (FixAt.below GV.out hb)
          replace L0 := Nat.lt_of_lt_of_le L0 hz
          replace L1 := Nat.lt_of_lt_of_le L1 hz
          replace L2 := Nat.lt_of_lt_of_le L2 hz
          replace hlt := Nat.lt_of_lt_of_le hlt hz
          replace hlt1 := Nat.lt_of_lt_of_le hlt1 hz
          replace lB := Nat.lt_of_lt_of_le lB hz
          clear hc hf hz hb
          have HF := Lib.hid (show joinR l (f :: m') = ([], 5) by rw [HJ.out]; rw [if_neg HS.out, if_pos h5])
          go_wp2_with fail
          exact bodyPost_ret (v := .tuple #[.agg #[.slice none 0 0], .int .i64 5]) (by simp [results, Try.results25, go_sem, *]) rfl ⟨⟨none, 0, by rw [HF.out]; rfl, by rw [HF.out]; exact World.ownsRow_nil _ _ _ _⟩, (by repeat (first | with_reducible exact Below.refl _ _ | with_reducible assumption | with_reducible refine Below.drew ?_ | with_reducible refine Below.alloc ?_ (by first | exact Nat.le_refl _ | (simp; done) | (simp; omega) | omega) _ | with_reducible refine Below.setCell ?_ (by first | exact Nat.le_refl _ | (simp; done) | (simp; omega) | omega) _ | with_reducible refine Below.trans ?_ (Below.mono (by with_reducible assumption) (by first | exact Nat.le_refl _ | (simp; done) | (simp; omega) | omega))))⟩
        case neg =>
          exact absurd (show f.t ≤ la.t by omega) h5
      case inr.inr =>
        obtain ⟨hw, hw2, hw3⟩ := hw
        replace HD := Lib.hid HD
        go_upto_region 4 with fail
        refine wp_region_later (by kernel_rfl) (by kernel_rfl) ?_
        repeat (first | go_big_quiet_step (fail) | quiet_step (fail))
        refine wpQuiet_nil ?_
        intro _ hw'
        obtain ⟨s4, hw''⟩ := hw'
        subst hw''
        have hb4 := s4.below
        generalize s4.w = w4 at hb4 ⊢
        clear s4
        try replace hb4 := below_trans (by with_reducible assumption) hb4
        obtain ⟨hc4, hf4⟩ := bcell hb4
        have hz4 := hb4.size
        try simp at hz4
        try have hz40 : w.heap.size ≤ w4.heap.size := by omega
        try have hz41 : w.heap.size < w4.heap.size := by omega
        try have hz42 : w.heap.size + 1 < w4.heap.size := by omega
        try have hz43 : w.heap.size + 1 + 1 < w4.heap.size := by omega
        try have hz44 : w.heap.size + 1 + 1 + 1 < w4.heap.size := by omega
        replace HD := HD.out
        obtain ⟨V3, rfl⟩ : ∃ x : World, x = w4 := ⟨_, rfl⟩
        have hb := hb4
        clear hb4 hc4 hf4
        (try clear hz4)
        replace HD := HD.trans (hb.mono HD.size)
        obtain ⟨hc, hf⟩ := bcell hb
        have hz := hb.size
        replace b00 := (hc _ 0 L0).trans b00
        replace b10 := (hc _ 0 L1).trans b10
        replace b20 := (hc _ 0 L2).trans b20
        replace c0 := (hc _ (off + q * 3) hlt).trans c0
        replace c1 := (hc _ (off + q * 3 + 1) hlt).trans c1
        replace c2 := (hc _ (off + q * 3 + 2) hlt).trans c2
        replace d0 := (hc _ o1 hlt1).trans d0
        replace d1 := (hc _ (o1 + 1) hlt1).trans d1
        replace d2 := (hc _ (o1 + 2) hlt1).trans d2
        replace p0 := (hc _ 0 lB).trans p0
        replace p1 := (hc _ 1 lB).trans p1
        replace p2 := (hc _ 2 lB).trans p2
        replace fz := fun o => (hf _ o L2).trans (fz o)
        replace FV := Lib.hid (FixAt.below FV.out hb)
        replace GV := Lib.hid (FixAt.below GV.out hb)
        replace L0 := Nat.lt_of_lt_of_le L0 hz
        replace L1 := Nat.lt_of_lt_of_le L1 hz
        replace L2 := Nat.lt_of_lt_of_le L2 hz
        replace hlt := Nat.lt_of_lt_of_le hlt hz
        replace hlt1 := Nat.lt_of_lt_of_le hlt1 hz
        replace lB := Nat.lt_of_lt_of_le lB hz
        clear hc hf hz hb
        by_cases h5 : f.t ≤ la.t
        case pos =>
          replace HD := Lib.hid HD
          go_upto_region 6 with fail
          refine wp_region_later (by kernel_rfl) (by kernel_rfl) ?_
          repeat (first | go_big_quiet_step (fail) | quiet_step (fail))
          refine wpQuiet_nil ?_
          intro _ hw'
          obtain ⟨s6, hw''⟩ := hw'
          subst hw''
          have hb6 := s6.below
          generalize s6.w = w6 at hb6 ⊢
          clear s6
          try replace hb6 := below_trans (by with_reducible assumption) hb6
          obtain ⟨hc6, hf6⟩ := bcell hb6
          have hz6 := hb6.size
          try simp at hz6
          try have hz60 : w.heap.size ≤ w6.heap.size := by omega
          try have hz61 : w.heap.size < w6.heap.size := by omega
          try have hz62 : w.heap.size + 1 < w6.heap.size := by omega
          try have hz63 : w.heap.size + 1 + 1 < w6.heap.size := by omega
          try have hz64 : w.heap.size + 1 + 1 + 1 < w6.heap.size := by omega
          replace HD := HD.out
          obtain ⟨V4, rfl⟩ : ∃ x : World, x = w6 := ⟨_, rfl⟩
          have hb := hb6
          clear hb6 hc6 hf6
          (try clear hz6)
          replace HD := HD.trans (hb.mono HD.size)
          obtain ⟨hc, hf⟩ := bcell hb
          have hz := hb.size
          replace b00 := (hc _ 0 L0).trans b00
          replace b10 := (hc _ 0 L1).trans b10
          replace b20 := (hc _ 0 L2).trans b20
          replace c0 := (hc _ (off + q * 3) hlt).trans c0
          replace c1 := (hc _ (off + q * 3 + 1) hlt).trans c1
          replace c2 := (hc _ (off + q * 3 + 2) hlt).trans c2
          replace d0 := (hc _ o1 hlt1).trans d0
          replace d1 := (hc _ (o1 + 1) hlt1).trans d1
          replace d2 := (hc _ (o1 + 2) hlt1).trans d2
          replace p0 := (hc _ 0 lB).trans p0
          replace p1 := (hc _ 1 lB).trans p1
          replace p2 := (hc _ 2 lB).trans p2
          replace fz := fun o => (hf _ o L2).trans (fz o)
          replace FV := Lib.hid (FixAt.below FV.out hb)
          replace GV := Lib.hid (FixAt.below GV.out hb)
          replace L0 := Nat.lt_of_lt_of_le L0 hz
          replace L1 := Nat.lt_of_lt_of_le L1 hz
          replace L2 := Nat.lt_of_lt_of_le L2 hz
          replace hlt := Nat.lt_of_lt_of_le hlt hz
          replace hlt1 := Nat.lt_of_lt_of_le hlt1 hz
          replace lB := Nat.lt_of_lt_of_le lB hz
          clear hc hf hz hb
          have HF := Lib.hid (show joinR l (f :: m') = ([], 5) by rw [HJ.out]; rw [if_neg HS.out, if_pos h5])
          go_wp2_with fail
          exact bodyPost_ret (v := .tuple #[.agg #[.slice none 0 0], .int .i64 5]) (by simp [results, Try.results25, go_sem, *]) rfl ⟨⟨none, 0, by rw [HF.out]; rfl, by rw [HF.out]; exact World.ownsRow_nil _ _ _ _⟩, (by repeat (first | with_reducible exact Below.refl _ _ | with_reducible assumption | with_reducible refine Below.drew ?_ | with_reducible refine Below.alloc ?_ (by first | exact Nat.le_refl _ | (simp; done) | (simp; omega) | omega) _ | with_reducible refine Below.setCell ?_ (by first | exact Nat.le_refl _ | (simp; done) | (simp; omega) | omega) _ | with_reducible refine Below.trans ?_ (Below.mono (by with_reducible assumption) (by first | exact Nat.le_refl _ | (simp; done) | (simp; omega) | omega))))⟩
        case neg =>
          exact absurd (show f.t ≤ la.t by omega) h5
end Go.Proofs.Ytdepdkpehbkcjaa
