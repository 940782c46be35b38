/-
  FnClosest: for every code the law's function answers true. No condition.
-/
import Derived.Test.YtdgmadpkhdfapaaRows
import Derived.Test.YtdgmadpkhdfapaaTdraw4
import Derived.Test.YtdgmadpkhdfapaaL03i
namespace Go.Proofs.Ytdgmadpkhdfapaa.fnClosest
open Go.ChangeShapes Go.WideShapes Go.ChangeAt Go.RowKit Go.Deep
open Go.ChangeMaps (open_string shut_string)
set_option linter.unusedVariables false

theorem cls_min (l : List Fx) (px py : Int) : ∀ n i, i < n → sqAt l px py (cls l px py n) ≤ sqAt l px py i ∧ (sqAt l px py i = sqAt l px py (cls l px py n) → cls l px py n ≤ i)
  | 0, i, h => by omega
  | n + 1, i, h => by
    simp only [cls]
    rcases Nat.lt_or_eq_of_le (Nat.le_of_lt_succ h) with g | rfl
    · obtain ⟨h1, h2⟩ := cls_min l px py n i g
      split
      · rename_i hc
        exact ⟨by omega, fun e => by omega⟩
      · exact ⟨h1, h2⟩
    · split
      · exact ⟨Int.le_refl _, fun _ => Nat.le_refl _⟩
      · rename_i hc
        exact ⟨by omega, fun e => by have := cls_le l px py i; omega⟩
theorem fixC {w : World} {r k : Nat} {l : List Fx} (h : FixAt w (some ⟨r, 0, none⟩) l) (hk : k < l.length) : w.cell? ⟨r, k * 3, none⟩ = some (.int .i64 (fx l k).t) ∧ w.cell? ⟨r, k * 3 + 1, none⟩ = some (.int .i64 (fx l k).x) ∧ w.cell? ⟨r, k * 3 + 2, none⟩ = some (.int .i64 (fx l k).y) ∧ r < w.heap.size := by
  obtain ⟨b, off, ha, hlt, c0, c1, c2⟩ := h k _ (fx_of hk)
  simp at ha
  obtain ⟨rfl, rfl⟩ := ha
  exact ⟨by simpa using c0, by simpa using c1, by simpa using c2, hlt⟩

set_option maxRecDepth 100000 in
set_option maxHeartbeats 2000000 in
theorem walk (a : Option Addr) (cap n : Nat) (w : World) (w0 : n ≤ 9223372036854775807 ∧ BytesB w.heap.size w a n) :
    Calls Try.prog 13 #[.slice a n cap] w fun e w' => e = .returned (.bool true) ∧ Below w.heap.size w w' := by
  obtain ⟨hn, hb⟩ := w0
  have HB := Lib.hid hb
  clear hb
  by_cases h : (4096 : Int) < (n : Int)
  · have CB := Lib.hid (fun w => big_t a n cap w hn h)
    go_enter Try.func13, Try.ntmps13
    go_wp2_with (go_at_call 45; refine (CB.out _).mono ?_; rintro e w' ⟨rfl, rfl⟩)
    go_ret
    exact ⟨rfl, (by repeat (first | with_reducible exact Below.refl _ _ | with_reducible assumption | with_reducible refine Below.drew ?_ | with_reducible refine Below.alloc ?_ (by first | exact Nat.le_refl _ | (simp; done) | (simp; omega) | omega) _ | with_reducible refine Below.setCell ?_ (by first | exact Nat.le_refl _ | (simp; done) | (simp; omega) | omega) _ | with_reducible refine Below.trans ?_ (Below.mono (by with_reducible assumption) (by first | exact Nat.le_refl _ | (simp; done) | (simp; omega) | omega))))⟩
  have CB := Lib.hid (fun w => big_f a n cap w hn h)
  clear h
  go_enter Try.func13, Try.ntmps13
  go_wp2_with (go_at_call 45; refine (CB.out _).mono ?_; rintro e w' ⟨rfl, rfl⟩)
  refine (DrawClosestFix_c a n cap _ hn (bytes_at HB.out (by repeat (first | with_reducible exact Below.refl _ _ | with_reducible assumption | with_reducible refine Below.drew ?_ | with_reducible refine Below.alloc ?_ (by first | exact Nat.le_refl _ | (simp; done) | (simp; omega) | omega) _ | with_reducible refine Below.setCell ?_ (by first | exact Nat.le_refl _ | (simp; done) | (simp; omega) | omega) _ | with_reducible refine Below.trans ?_ (Below.mono (by with_reducible assumption) (by first | exact Nat.le_refl _ | (simp; done) | (simp; omega) | omega)))))).mono ?_
  rintro e V1 ⟨⟨r, cp, l, x, y, rfl, hl0, hl1, ho⟩, hbV⟩
  clear CB HB
  have hzV := hbV.size
  go_wp2_with fail
  obtain ⟨W, hW⟩ : ∃ W, W = ((V1.alloc (.cells #[.slice (some ⟨r, 0, none⟩) l.length cp] 29)).alloc (.cells #[.int .i64 x, .int .i64 y] 37)) := ⟨_, rfl⟩
  have HD : Below w.heap.size w W := by subst hW; exact (by repeat (first | with_reducible exact Below.refl _ _ | with_reducible assumption | with_reducible refine Below.drew ?_ | with_reducible refine Below.alloc ?_ (by first | exact Nat.le_refl _ | (simp; done) | (simp; omega) | omega) _ | with_reducible refine Below.setCell ?_ (by first | exact Nat.le_refl _ | (simp; done) | (simp; omega) | omega) _ | with_reducible refine Below.trans ?_ (Below.mono (by with_reducible assumption) (by first | exact Nat.le_refl _ | (simp; done) | (simp; omega) | omega))))
  have HV : Below V1.heap.size V1 W := by subst hW; exact (by repeat (first | with_reducible exact Below.refl _ _ | with_reducible assumption | with_reducible refine Below.drew ?_ | with_reducible refine Below.alloc ?_ (by first | exact Nat.le_refl _ | (simp; done) | (simp; omega) | omega) _ | with_reducible refine Below.setCell ?_ (by first | exact Nat.le_refl _ | (simp; done) | (simp; omega) | omega) _ | with_reducible refine Below.trans ?_ (Below.mono (by with_reducible assumption) (by first | exact Nat.le_refl _ | (simp; done) | (simp; omega) | omega))))
  have b00 : W.cell? ⟨V1.heap.size, 0, none⟩ = some (.slice (some ⟨r, 0, none⟩) l.length cp) := by subst hW; simp [go_sem]
  have L0 : V1.heap.size < W.heap.size := by subst hW; first | (simp; done) | (simp; omega)
  have b10 : W.cell? ⟨V1.heap.size + 1, 0, none⟩ = some (.int .i64 x) := by subst hW; simp [go_sem]
  have b11 : W.cell? ⟨V1.heap.size + 1, 1, none⟩ = some (.int .i64 y) := by subst hW; simp [go_sem]
  have L1 : V1.heap.size + 1 < W.heap.size := by subst hW; first | (simp; done) | (simp; omega)
  rw [← hW]
  clear hW
  generalize V1.heap.size + 1 = B1 at *
  obtain ⟨B0, hB0⟩ : ∃ B, B = V1.heap.size := ⟨_, rfl⟩
  rw [← hB0] at b00 L0
  try rw [← hB0]
  replace hB0 := Lib.hid hB0
  have hn2 : l.length ≤ 4611686018427387904 := by omega
  have FV := Lib.hid (FixAt.below (fixAt_own ho) HV)
  clear ho HV
  by_cases E : isTrk l = true ∧ isPt x y = true
  case neg =>
    have E1 : closeR l x y = (0, 1) := by simp only [closeR, if_neg E]
    have C1 := Lib.hid (fun W h => E1 ▸ ClosestFix_c (some ⟨r, 0, none⟩) cp l x y W hn2 h)
    have C2 := Lib.hid (fun W h => E1 ▸ ClosestFixS_c (some ⟨r, 0, none⟩) cp l x y W hn2 h)
    refine (C1.out _ FV.out).mono ?_
    rintro e U1 ⟨rfl, hb⟩
    replace HD := HD.trans (hb.mono HD.size)
    obtain ⟨hc, hf⟩ := bcell hb
    have hz := hb.size
    replace b00 := (hc _ 0 L0).trans b00
    replace b10 := (hc _ 0 L1).trans b10
    replace b11 := (hc _ 1 L1).trans b11
    replace FV := Lib.hid (FixAt.below FV.out hb)
    replace L0 := Nat.lt_of_lt_of_le L0 hz
    replace L1 := Nat.lt_of_lt_of_le L1 hz
    clear hc hf hz hb
    go_wp2_with fail
    refine (C2.out _ FV.out).mono ?_
    rintro e U2 ⟨rfl, hb⟩
    replace HD := HD.trans (hb.mono HD.size)
    obtain ⟨hc, hf⟩ := bcell hb
    have hz := hb.size
    replace b00 := (hc _ 0 L0).trans b00
    replace b10 := (hc _ 0 L1).trans b10
    replace b11 := (hc _ 1 L1).trans b11
    replace FV := Lib.hid (FixAt.below FV.out hb)
    replace L0 := Nat.lt_of_lt_of_le L0 hz
    replace L1 := Nat.lt_of_lt_of_le L1 hz
    clear hc hf hz hb
    go_wp2_with fail
    go_ret
    exact ⟨rfl, HD⟩
  case pos =>
    have E1 : closeR l x y = (((cls l x y l.length : Nat) : Int), 0) := by simp only [closeR, if_pos E]
    obtain ⟨E, Ep⟩ := E
    have C1 := Lib.hid (fun W h => E1 ▸ ClosestFix_c (some ⟨r, 0, none⟩) cp l x y W hn2 h)
    have C2 := Lib.hid (fun W h => E1 ▸ ClosestFixS_c (some ⟨r, 0, none⟩) cp l x y W hn2 h)
    have hKl := cls_lt l x y l.length (by omega)
    have KM := Lib.hid (cls_min l x y l.length)
    clear E1
    generalize cls l x y l.length = K at *
    refine (C1.out _ FV.out).mono ?_
    rintro e U1 ⟨rfl, hb⟩
    replace HD := HD.trans (hb.mono HD.size)
    obtain ⟨hc, hf⟩ := bcell hb
    have hz := hb.size
    replace b00 := (hc _ 0 L0).trans b00
    replace b10 := (hc _ 0 L1).trans b10
    replace b11 := (hc _ 1 L1).trans b11
    replace FV := Lib.hid (FixAt.below FV.out hb)
    replace L0 := Nat.lt_of_lt_of_le L0 hz
    replace L1 := Nat.lt_of_lt_of_le L1 hz
    clear hc hf hz hb
    go_wp2_with fail
    refine (C2.out _ FV.out).mono ?_
    rintro e U2 ⟨rfl, hb⟩
    replace HD := HD.trans (hb.mono HD.size)
    obtain ⟨hc, hf⟩ := bcell hb
    have hz := hb.size
    replace b00 := (hc _ 0 L0).trans b00
    replace b10 := (hc _ 0 L1).trans b10
    replace b11 := (hc _ 1 L1).trans b11
    replace FV := Lib.hid (FixAt.below FV.out hb)
    replace L0 := Nat.lt_of_lt_of_le L0 hz
    replace L1 := Nat.lt_of_lt_of_le L1 hz
    clear hc hf hz hb
    go_wp2_with fail
    have EQ : ∀ i, i < l.length → sqR (fx l i).x (fx l i).y x y = (sqAt l x y i, 0) := fun i hi => by simp [sqR, sqAt, (okAt_true (okUpto_lt (isTrk_true E).2.2 i hi)).2.2.1, Ep]
    have D := Lib.hid (fun i (hi : i < l.length) W => EQ i hi ▸ SquareDistance_c (fx l i).x (fx l i).y x y W)
    clear EQ C1 C2 E Ep
    obtain ⟨c0, c1, c2, LR⟩ := fixC FV.out hKl
    have hK1 : (K : Int) < (l.length : Int) := by omega
    go_cut [9, 10] (fun s9 s10 wx => s9 = .int .i64 (sqAt l x y K) ∧ s10 = .int .i64 0 ∧ Below U2.heap.size U2 wx)
    case first =>
      go_region_held3 (fun wx => Below U2.heap.size U2 wx ∧ ∀ b o, b < U2.heap.size → wx.cell? ⟨b, o, none⟩ = U2.cell? ⟨b, o, none⟩)
        (first | with_reducible exact held_step (by assumption) hb | with_reducible exact held_start _ _ | with_reducible exact held_begin _)
        (first | (go_at_call 47; refine (D.out K hKl _).mono ?_; rintro e w1 ⟨rfl, hb⟩; have hz := held_size (by with_reducible assumption) hb; (try simp at hz); have hs := hb.size; (try simp at hs)))
      all_goals go_wp2_with fail
      all_goals (go_meet; exact ⟨rfl, rfl, And.left (by with_reducible assumption)⟩)
    case rest =>
      obtain ⟨rfl, rfl, hb⟩ := hcut
      obtain ⟨U3, rfl⟩ : ∃ x : World, x = wc := ⟨_, rfl⟩
      replace HD := HD.trans (hb.mono HD.size)
      obtain ⟨hc, hf⟩ := bcell hb
      have hz := hb.size
      replace b00 := (hc _ 0 L0).trans b00
      replace b10 := (hc _ 0 L1).trans b10
      replace b11 := (hc _ 1 L1).trans b11
      replace FV := Lib.hid (FixAt.below FV.out hb)
      replace L0 := Nat.lt_of_lt_of_le L0 hz
      replace L1 := Nat.lt_of_lt_of_le L1 hz
      clear hc hf hz hb
      go_wp2_with fail
      clear c0 c1 c2 LR
      go_loopw [11] (fun v wr => ∃ k : Nat, v = .int .i64 k ∧ k ≤ l.length ∧ wr.cell? ⟨B0, 0, none⟩ = some (.slice (some ⟨r, 0, none⟩) l.length cp) ∧ wr.cell? ⟨B1, 0, none⟩ = some (.int .i64 x) ∧ wr.cell? ⟨B1, 1, none⟩ = some (.int .i64 y) ∧ B0 < wr.heap.size ∧ B1 < wr.heap.size ∧ Hid (FixAt wr (some ⟨r, 0, none⟩) l) ∧ Below w.heap.size w wr) (fun v _ => l.length - (intOf v).toNat)
      case atStart => exact ⟨0, rfl, Nat.zero_le _, b00, b10, b11, L0, L1, FV, HD⟩
      case round =>
        clear b00 b10 b11 L0 L1 FV HD
        obtain ⟨k, rfl, hle, b00, b10, b11, L0, L1, FV, HD⟩ := hrel
        by_cases hk : k < l.length
        case neg =>
          have hk1 : ¬ (k : Int) < (l.length : Int) := by omega
          go_wp2_with fail
          go_ret
          exact ⟨rfl, HD⟩
        case pos =>
          have hk1 : (k : Int) < (l.length : Int) := by omega
          obtain ⟨c0, c1, c2, LR⟩ := fixC FV.out hk
          obtain ⟨m1, m2⟩ := KM.out k hk
          go_wp2_with fail
          go_cut [12, 13] (fun s12 s13 wx => s12 = .int .i64 (sqAt l x y k) ∧ s13 = .int .i64 0 ∧ Below wr.heap.size wr wx)
          case first =>
            go_region_held3 (fun wx => Below wr.heap.size wr wx ∧ ∀ b o, b < wr.heap.size → wx.cell? ⟨b, o, none⟩ = wr.cell? ⟨b, o, none⟩)
              (first | with_reducible exact held_step (by assumption) hb | with_reducible exact held_start _ _ | with_reducible exact held_begin _)
              (first | (go_at_call 47; refine (D.out k hk _).mono ?_; rintro e w1 ⟨rfl, hb⟩; have hz := held_size (by with_reducible assumption) hb; (try simp at hz); have hs := hb.size; (try simp at hs)))
            all_goals go_wp2_with fail
            all_goals (go_meet; exact ⟨rfl, rfl, And.left (by with_reducible assumption)⟩)
          case rest =>
            obtain ⟨rfl, rfl, hb⟩ := hcut
            obtain ⟨U4, rfl⟩ : ∃ x : World, x = wc := ⟨_, rfl⟩
            replace HD := HD.trans (hb.mono HD.size)
            obtain ⟨hc, hf⟩ := bcell hb
            have hz := hb.size
            replace b00 := (hc _ 0 L0).trans b00
            replace b10 := (hc _ 0 L1).trans b10
            replace b11 := (hc _ 1 L1).trans b11
            replace FV := Lib.hid (FixAt.below FV.out hb)
            replace L0 := Nat.lt_of_lt_of_le L0 hz
            replace L1 := Nat.lt_of_lt_of_le L1 hz
            clear hc hf hz hb
            go_wp2_with fail
            all_goals exact ⟨⟨k + 1, by simp, by omega, b00, b10, b11, L0, L1, FV, HD⟩, by simp [intOf]; omega⟩

theorem own : ownKnob Try.prog.godebug = none := by kernel_rfl
theorem laidOut : laidOutB Try.prog = true := by kernel_rfl
set_option maxRecDepth 100000 in
theorem lifted (os : Os) (started : os.Started) (H : Type) (enc : TypeId × Value → H) :
    ReturnsInHanded {} Try.checked os 13 .any (Rows.fnClosestSpec.pre6 enc Try.prog Try.f13 Rows.fnClosestRow.domain false) (Rows.fnClosestSpec.post enc Try.prog Try.f13 false true false false) := by
  refine returnsInHanded_of_change (C := Try.checked) own started (by kernel_rfl) Try.func13
    (ChangeSpec.witness6 (enc := enc) (C := Try.checked) false ⟨#[], #[.slice none 0 0], []⟩ 8 (by kernel_rfl) (by kernel_rfl) (by kernel_rfl) (by kernel_rfl)) ?_
  intro W base args ds gs before hval0 hW hcnd _
  have hval : ∀ (j : Nat) t v, Try.f13.params[j]? = some t → args[j]? = some v → Value.okWide Try.prog W .any base t v := hval0
  have hW' := hW
  obtain ⟨p, q, hA0, hV, rfl, hfz, hnd⟩ := hW
  have hA : DataW.TrodAll enc Try.prog W 0 (fun _ => true) true Try.f13.params.toList args.toList ds p := hA0
  rw [Try.params13] at hA hval
  obtain ⟨v0, vs0, d0, ds0, p0, q0, hargs, rfl, rfl, h0, r0⟩ := trodAll_cons hA
  obtain ⟨rfl, rfl, rfl⟩ := trodAll_nil r0
  obtain rfl : args = #[v0] := by cases args; simp_all
  obtain ⟨rfl, rfl⟩ := trodVars_none hV
  have k0 := h0
  have lt0 : ∀ x ∈ p0, x.block < W.heap.size := by obtain ⟨m, hm⟩ := k0; exact DataW.trod_lt m _ _ _ hm
  obtain ⟨⟨a0, cap0⟩, n0, rfl, w0⟩ := open_bytes Try.underlying67 Try.underlying5 (by kernel_rfl) (hval 0 67 v0 rfl rfl) h0
  clear hA0 hval0
  refine (walk a0 cap0 n0 W w0).mono fun e W' ⟨he, bel⟩ => ?_
  subst he
  exact ⟨_, rfl, _, _, _, [], _, [], hW', trodAll_mk1 (shut_bool Try.underlying4 _), (trodAll_cons_mk (Below.trod laidOut (by kernel_rfl) (of_decide_eq_true (by kernel_rfl)) k0 bel lt0) trodAll_mk0), rfl, bel.frame _, fun h => by cases h⟩

theorem over : Rows.fnClosestRow.holds Try.pinned (OpenSpec.ofChange Rows.fnClosestSpec) :=
  OpenClaim.holds_of_wide 13 Try.f13 rfl rfl rfl rfl rfl rfl rfl ⟨rfl, rfl, rfl, rfl, rfl⟩ rfl rfl rfl rfl rfl (by kernel_rfl) Try.func13 (by kernel_rfl)
    (of_decide_eq_true (by kernel_rfl)) (by unfold Func.isWrapper; first | (rw [if_pos (by decide +kernel)]; kernel_rfl) | (rw [if_neg (by decide +kernel)]; exact ⟨rfl, rfl⟩))
    (fun os started H enc _ => lifted os started H enc)

/-- The statement. -/
theorem proved : Rows.FnClosestSaid := over
end Go.Proofs.Ytdgmadpkhdfapaa.fnClosest
