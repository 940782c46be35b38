/-
  The draws of the law on courses' texts; how long such a text is. Conditions: the code's bytes lie in the world.
-/
import Derived.Test.YtjgndfphbmkhaaaGreatDoorCdZ3
import Derived.Test.YtjgndfphbmkhaaaGreatDoorDraw3
import Derived.Test.YtjgndfphbmkhaaaGreatDoorTxd
import Derived.Test.YtjgndfphbmkhaaaGreatDoorTxt7
import Derived.Test.YtjgndfphbmkhaaaGreatDoorSpl
import Derived.Test.YtjgndfphbmkhaaaGreatDoorCrsU
namespace Go.Proofs.YtjgndfphbmkhaaaGreatDoor
set_option linter.unusedVariables false
open Go.RowKit Go.Deep

theorem sg_small {m : Int} (h0 : -1000000 ≤ m) (h1 : m ≤ 1000000) : (sgB m).size ≤ 8 := by
  have e : (sgB m).size = (sgB m).data.toList.length := rfl
  rw [e, sg_list]
  split
  · have := pow_bound 7 m.toNat (by omega) (by decide); omega
  · have := pow_bound 7 (-m).toNat (by omega) (by decide); rw [List.length_cons]; omega
theorem markB_small {m : Mk} (h : markOK m = true) : (markB m).size ≤ 60 := by
  obtain ⟨n8, hp, hs, z1, z2⟩ := mkT h
  obtain ⟨a1, a2, a3, a4⟩ := isPt_true hp
  have q0 := sg_small (m := m.x) (by omega) (by omega)
  have q1 := sg_small (m := m.y) (by omega) (by omega)
  have q2 := sg_small (m := m.z) (by omega) (by omega)
  have q3 := sideB_size m.s
  have q4 : (⟨#[32, 109, 97, 114, 107, 32]⟩ : ByteArray).size = 6 := rfl
  unfold markB
  simp only [ByteArray.size_append, ba_size1]
  omega
theorem line_small {a b c d : Int} (h : isPt a b = true) (h2 : isPt c d = true) : (lineB a b c d).size ≤ 40 := by
  obtain ⟨a1, a2, a3, a4⟩ := isPt_true h
  obtain ⟨b1, b2, b3, b4⟩ := isPt_true h2
  have q0 := sg_small (m := a) (by omega) (by omega)
  have q1 := sg_small (m := b) (by omega) (by omega)
  have q2 := sg_small (m := c) (by omega) (by omega)
  have q3 := sg_small (m := d) (by omega) (by omega)
  unfold lineB
  simp only [ByteArray.size_append, ba_size1]
  omega
theorem marks_small {x0 x1 x2 x3 : Int} {l : List Mk} (hA : isPt x0 x1 = true) (hB : isPt x2 x3 = true) (hm : ∀ k, k < l.length → MkOK l k) : ∀ k, k ≤ l.length → (marksB x0 x1 x2 x3 l k).size ≤ 50 + k * 60
  | 0, _ => by
    have q := line_small hA hB
    have q4 : (⟨#[115, 116, 97, 114, 116, 32]⟩ : ByteArray).size = 6 := rfl
    rw [marksB]
    simp only [ByteArray.size_append]
    omega
  | k + 1, h => by
    have ih := marks_small hA hB hm k (by omega)
    have q := markB_small (hm k (by omega)).1
    rw [marksB]
    simp only [ByteArray.size_append]
    omega
/-- a course's text is short, and not empty -/
theorem crs_fit {x0 x1 x2 x3 x4 x5 x6 x7 : Int} {l : List Mk} (h : courseOK x0 x1 x2 x3 x4 x5 x6 x7 l = true) : (crsB x0 x1 x2 x3 x4 x5 x6 x7 l).size ≤ 1000 ∧ 1 ≤ (crsB x0 x1 x2 x3 x4 x5 x6 x7 l).size := by
  obtain ⟨g1, g2, l1, l8, hm, _⟩ := courseOK_true h
  obtain ⟨sA, sB, _⟩ := isSeg_true g1
  obtain ⟨sC, sD, _⟩ := isSeg_true g2
  have q1 := marks_small (l := l) sA sB hm l.length (Nat.le_refl _)
  have q2 := line_small sC sD
  have q4 : (⟨#[32, 102, 105, 110, 105, 115, 104, 32]⟩ : ByteArray).size = 8 := rfl
  unfold crsB
  simp only [ByteArray.size_append]
  omega
theorem ctR_yes {x0 x1 x2 x3 x4 x5 x6 x7 : Int} {l : List Mk} (h : courseOK x0 x1 x2 x3 x4 x5 x6 x7 l = true) : 1 ≤ (ctR x0 x1 x2 x3 x4 x5 x6 x7 l).size := by
  obtain ⟨h1, h2⟩ := crs_fit h
  unfold ctR
  rw [if_pos h, if_pos h1]
  exact h2
theorem ctR_no {x0 x1 x2 x3 x4 x5 x6 x7 : Int} {l : List Mk} (h : courseOK x0 x1 x2 x3 x4 x5 x6 x7 l = false) : ctR x0 x1 x2 x3 x4 x5 x6 x7 l = ⟨#[]⟩ := by
  unfold ctR
  rw [if_neg (by rw [h]; decide)]
theorem ctR_le (x0 x1 x2 x3 x4 x5 x6 x7 : Int) (l : List Mk) : (ctR x0 x1 x2 x3 x4 x5 x6 x7 l).size ≤ 1000 := by
  unfold ctR
  split
  · split
    · assumption
    · exact Nat.zero_le _
  · exact Nat.zero_le _
theorem bfromC {w W V1 V : World} {g : Nat} (h : Below w.heap.size w W) (hb : Below W.heap.size W V1) (hg : W.heap.size ≤ g) (hk : Kept g V1 V) : Below w.heap.size w V :=
  (h.trans (hb.mono h.size)).trans (hk.below (Nat.le_trans h.size hg) (Nat.le_trans h.size hb.size))
theorem set9_below {n C : Nat} {w X : World} (h : Below n w X) (hC : n ≤ C) (v0 v1 v2 v3 v4 v5 v6 v7 v8 : Value) : Below n w (set9 X C v0 v1 v2 v3 v4 v5 v6 v7 v8) := by
  unfold set9
  repeat (first | with_reducible exact h | refine Below.setCell ?_ (by simp only; omega) _)

set_option maxRecDepth 100000 in
set_option maxHeartbeats 4000000 in
theorem DrawCourseText_c (a : Option Addr) (n cap : Nat) (w : World) (hn : n ≤ 9223372036854775807) (hb : BytesB w.heap.size w a n) : Calls Tryz.prog 11 #[.slice a n cap] w fun e w' => (∃ (x0 x1 x2 x3 x4 x5 x6 x7 : Int) (a9 : Option Addr) (cp : Nat) (l : List Mk), e = .returned (.agg #[.int .i64 x0, .int .i64 x1, .int .i64 x2, .int .i64 x3, .int .i64 x4, .int .i64 x5, .int .i64 x6, .int .i64 x7, .slice a9 l.length cp]) ∧ l.length ≤ 9 ∧ NSm l ∧ w'.ownsRow w.heap.size 47 5 (.slice a9 l.length cp) l.length (mflat l)) ∧ Below w.heap.size w w' := by
  have HB := Lib.hid hb
  clear hb
  go_enter Tryz.func11, Tryz.ntmps11
  go_wp2_with fail
  obtain ⟨W, hW⟩ : ∃ W, W = w.alloc (.cells #[.int .i64 0, .int .i64 0, .int .i64 0, .int .i64 0, .int .i64 0, .int .i64 0, .int .i64 0, .int .i64 0, .slice none 0 0] 28) := ⟨_, rfl⟩
  have HD : Below w.heap.size w W := by subst hW; exact (by repeat (first | with_reducible exact Below.refl _ _ | with_reducible assumption | with_reducible refine Below.drew ?_ | with_reducible refine Below.alloc ?_ (by first | exact Nat.le_refl _ | (simp; done) | (simp; omega) | omega) _ | with_reducible refine Below.setCell ?_ (by first | exact Nat.le_refl _ | (simp; done) | (simp; omega) | omega) _ | with_reducible refine Below.trans ?_ (Below.mono (by with_reducible assumption) (by first | exact Nat.le_refl _ | (simp; done) | (simp; omega) | omega))))
  have zc : ∀ o, o < 9 → ∃ v, W.cell? ⟨w.heap.size, o, none⟩ = some v := by subst hW; intro o ho; exact zcell ho
  have zf : ∀ o, W.frozen? ⟨w.heap.size, o, none⟩ = false := by subst hW; intro o; simp [go_sem]
  have LZ : w.heap.size < W.heap.size := by subst hW; simp
  rw [← hW]
  clear hW
  refine (l01From_c a n cap W hn (bytes_at HB.out HD)).mono ?_
  rintro e V1 ⟨⟨g, rfl, hg, hs1⟩, hb1⟩
  obtain ⟨hc, hf⟩ := bcell hb1
  replace zc := fun o ho => (zc o ho).imp fun _ e => (hc _ o LZ).trans e
  replace zf := fun o => (hf _ o LZ).trans (zf o)
  have gZ : w.heap.size ≠ g := by omega
  have LW := LZ
  replace LZ := Nat.lt_of_lt_of_le LZ hb1.size
  clear hc hf
  go_wp2_with fail
  refine (l04DrawAny_c g a n cap V1 hn hs1).mono ?_
  rintro e V2 ⟨⟨x0, x1, x2, x3, x4, x5, x6, x7, a9, cp, l, rfl, hl9, hns, ho⟩, hs2, hk2⟩
  obtain ⟨hc, hf⟩ := kcell hk2
  replace zc := fun o ho => (zc o ho).imp fun _ e => (hc _ o LZ gZ).trans e
  replace zf := fun o => (hf _ o LZ gZ).trans (zf o)
  replace LZ := Nat.lt_of_lt_of_le LZ hk2.size
  clear hc hf
  have HK := hk2
  have hWg := hg
  have hgV1 := hs1.lt
  have hWV1 := hb1.size
  clear hs1
  obtain ⟨z0, e0⟩ := zc 0 (by decide)
  obtain ⟨z1, e1⟩ := zc 1 (by decide)
  obtain ⟨z2, e2⟩ := zc 2 (by decide)
  obtain ⟨z3, e3⟩ := zc 3 (by decide)
  obtain ⟨z4, e4⟩ := zc 4 (by decide)
  obtain ⟨z5, e5⟩ := zc 5 (by decide)
  obtain ⟨z6, e6⟩ := zc 6 (by decide)
  obtain ⟨z7, e7⟩ := zc 7 (by decide)
  obtain ⟨z8, e8⟩ := zc 8 (by decide)
  have hzc := Lib.hid zc
  clear zc
  have hO := Lib.hid ho
  clear ho
  go_wp2
  refine set9_post hzc.out (v0 := .int .i64 x0) (v1 := .int .i64 x1) (v2 := .int .i64 x2) (v3 := .int .i64 x3) (v4 := .int .i64 x4) (v5 := .int .i64 x5) (v6 := .int .i64 x6) (v7 := .int .i64 x7) (v8 := .slice a9 l.length cp) ?_
  intro Y hY ⟨f0, f1, f2, f3, f4, f5, f6, f7, f8⟩
  exact bodyPost_ret (v := .agg #[.int .i64 x0, .int .i64 x1, .int .i64 x2, .int .i64 x3, .int .i64 x4, .int .i64 x5, .int .i64 x6, .int .i64 x7, .slice a9 l.length cp]) (by simp [results, Tryz.results11, go_sem, f0, f1, f2, f3, f4, f5, f6, f7, f8]) rfl ⟨⟨x0, x1, x2, x3, x4, x5, x6, x7, a9, cp, l, rfl, hl9, hns, by rw [hY]; exact pown_mono (set9_own hO.out (by omega) ..) (by omega)⟩, by rw [hY]; exact set9_below (bfromC HD hb1 hg HK) (Nat.le_refl _) ..⟩

set_option maxRecDepth 100000 in
set_option maxHeartbeats 1000000 in
theorem DrawReadCourse_c (a : Option Addr) (n cap : Nat) (w : World) (hn : n ≤ 9223372036854775807) (hb : BytesB w.heap.size w a n) : Calls Tryz.prog 16 #[.slice a n cap] w fun e w' => (∃ u : ByteArray, e = .returned (.string u) ∧ u.size ≤ 1001) ∧ Below w.heap.size w w' := by
  have CF := Lib.hid (l01From_c a n cap w hn hb)
  clear hb
  go_enter Tryz.func16, Tryz.ntmps16
  go_wp2_with fail
  refine CF.out.mono ?_
  rintro e V1 ⟨⟨g, rfl, hg, hs1⟩, hb1⟩
  have HS := Lib.hid hs1
  have HB := Lib.hid hb1
  clear hs1 CF hb1
  go_wp2_with fail
  refine (l04DrawAny_c g a n cap _ hn HS.out).mono ?_
  rintro e V2 ⟨⟨x0, x1, x2, x3, x4, x5, x6, x7, a9, cp, l, rfl, hl9, hns, ho⟩, hs2, hk2⟩
  have HO := Lib.hid ho
  have HS2 := Lib.hid hs2
  have HK := Lib.hid hk2
  clear hs2 hk2 HS ho
  go_wp2_with fail
  refine (CourseTextS_c x0 x1 x2 x3 x4 x5 x6 x7 a9 cp l _ (by omega) (row_ownP HO.out (mflat_length l)) hns.names).mono ?_
  rintro e V3 ⟨rfl, hb3⟩
  have HS3 := Lib.hid (HS2.out.below hb3)
  have HK3 := Lib.hid (HK.out.trans (Kept.of hb3))
  clear hb3 HS2 HK
  have hz := ctR_le x0 x1 x2 x3 x4 x5 x6 x7 l
  generalize ctR x0 x1 x2 x3 x4 x5 x6 x7 l = R at *
  go_wp2_with fail
  refine (l01Damage_c g a n cap R _ hn (by omega) HS3.out).mono ?_
  rintro e V4 ⟨⟨u, rfl, hu⟩, hs4, hk4⟩
  have HK4 := Lib.hid (kept_fin HB.out hg (HK3.out.trans hk4))
  clear hs4 hk4 HS3 HK3
  go_wp2_with fail
  go_ret
  exact ⟨⟨_, rfl, by omega⟩, HK4.out⟩
end Go.Proofs.YtjgndfphbmkhaaaGreatDoor
