/-
  FnCutJoin: for every code the law's function answers true. No condition.
-/
import Derived.Test.YtdepdkpehbkcjaaRows
import Derived.Test.YtdepdkpehbkcjaaTdrawC
import Derived.Test.YtdepdkpehbkcjaaTw9
import Derived.Test.YtdepdkpehbkcjaaCj
import Derived.Test.YtdepdkpehbkcjaaL03r
namespace Go.Proofs.Ytdepdkpehbkcjaa.fnCutJoin
open Go.ChangeShapes Go.WideShapes Go.ChangeAt Go.RowKit Go.Deep
open Go.ChangeMaps (open_string shut_string)
set_option linter.unusedVariables false

theorem cut_yes {l M : List Fx} {f t : Int} (h : cutR l f t = (M, 0)) : isTrk l = true ∧ f < t ∧ lastsB l f = true ∧ lastsB l t = true ∧ M = cutL l f t := by
  unfold cutR at h
  split at h
  · rename_i h1
    split at h
    · rename_i h2
      simp at h
      exact ⟨h1, h2.1, h2.2.1, h2.2.2, h.symm⟩
    · simp at h
  · simp at h
theorem cut_lenR (l : List Fx) (f t : Int) (h : l.length ≤ 41) : (cutR l f t).1.length ≤ 43 := by
  unfold cutR
  split
  · split
    · rw [cut_len]
      have := mids_len l f t l.length
      omega
    · exact Nat.zero_le _
  · exact Nat.zero_le _
theorem fixLast {w : World} {r : Nat} {l : List Fx} (h : FixAt w (some ⟨r, 0, none⟩) l) (hk : 0 < l.length) : w.cell? ⟨r, (l.length - 1) * 3, none⟩ = some (.int .i64 (fx l (l.length - 1)).t) ∧ w.cell? ⟨r, (l.length - 1) * 3 + 1, none⟩ = some (.int .i64 (fx l (l.length - 1)).x) ∧ w.cell? ⟨r, (l.length - 1) * 3 + 2, none⟩ = some (.int .i64 (fx l (l.length - 1)).y) := by
  obtain ⟨b, off, ha, hlt, c0, c1, c2⟩ := h _ _ (fx_of (show l.length - 1 < l.length by omega))
  simp at ha
  obtain ⟨rfl, rfl⟩ := ha
  exact ⟨by simpa using c0, by simpa using c1, by simpa using c2⟩
theorem fixLt {w : World} {r : Nat} {l : List Fx} (h : FixAt w (some ⟨r, 0, none⟩) l) (hk : 0 < l.length) : r < w.heap.size := by
  obtain ⟨b, off, ha, hlt, _⟩ := h _ _ (fx_of hk)
  simp at ha
  obtain ⟨rfl, rfl⟩ := ha
  exact hlt
theorem own_capJ {w : World} {base n cap size : Nat} {a : Option Addr} {e : TypeId} {xs : List Value} (h : w.ownsRow base e size (.slice a n cap) n xs) : n ≤ cap := by
  rcases h.2 with ⟨h2, h3⟩ | ⟨g', cap', cur, hv, hb, hh, hc, _⟩
  · simp at h2; omega
  · simp at hv; omega

set_option maxRecDepth 100000 in
set_option maxHeartbeats 4000000 in
theorem walk (a : Option Addr) (cap n : Nat) (w : World) (w0 : n ≤ 9223372036854775807 ∧ BytesB w.heap.size w a n) :
    Calls Try.prog 4 #[.slice a n cap] w fun e w' => e = .returned (.bool true) ∧ Below w.heap.size w w' := by
  obtain ⟨hn, hb⟩ := w0
  have HB := Lib.hid hb
  clear hb
  by_cases h : (4096 : Int) < (n : Int)
  · have CB := Lib.hid (fun w => big_t a n cap w hn h)
    go_enter Try.func4, Try.ntmps4
    go_wp2_with (go_at_call 13; refine (CB.out _).mono ?_; rintro e w' ⟨rfl, rfl⟩)
    go_ret
    exact ⟨rfl, (by repeat (first | with_reducible exact Below.refl _ _ | with_reducible assumption | with_reducible refine Below.drew ?_ | with_reducible refine Below.alloc ?_ (by first | exact Nat.le_refl _ | (simp; done) | (simp; omega) | omega) _ | with_reducible refine Below.setCell ?_ (by first | exact Nat.le_refl _ | (simp; done) | (simp; omega) | omega) _ | with_reducible refine Below.trans ?_ (Below.mono (by with_reducible assumption) (by first | exact Nat.le_refl _ | (simp; done) | (simp; omega) | omega))))⟩
  have CB := Lib.hid (fun w => big_f a n cap w hn h)
  clear h
  go_enter Try.func4, Try.ntmps4
  go_wp2_with (go_at_call 13; refine (CB.out _).mono ?_; rintro e w' ⟨rfl, rfl⟩)
  refine (DrawCutTrack_c a n cap _ hn (bytes_at HB.out (by repeat (first | with_reducible exact Below.refl _ _ | with_reducible assumption | with_reducible refine Below.drew ?_ | with_reducible refine Below.alloc ?_ (by first | exact Nat.le_refl _ | (simp; done) | (simp; omega) | omega) _ | with_reducible refine Below.setCell ?_ (by first | exact Nat.le_refl _ | (simp; done) | (simp; omega) | omega) _ | with_reducible refine Below.trans ?_ (Below.mono (by with_reducible assumption) (by first | exact Nat.le_refl _ | (simp; done) | (simp; omega) | omega)))))).mono ?_
  rintro e V1 ⟨⟨r, cp, l, x, y, rfl, hl0, hl1, ho⟩, hbV⟩
  clear CB HB
  have hzV := hbV.size
  go_wp2_with fail
  obtain ⟨W, hW⟩ : ∃ W, W = (V1.alloc (.cells #[.slice (some ⟨r, 0, none⟩) l.length cp] 26)) := ⟨_, rfl⟩
  have HD : Below w.heap.size w W := by subst hW; exact (by repeat (first | with_reducible exact Below.refl _ _ | with_reducible assumption | with_reducible refine Below.drew ?_ | with_reducible refine Below.alloc ?_ (by first | exact Nat.le_refl _ | (simp; done) | (simp; omega) | omega) _ | with_reducible refine Below.setCell ?_ (by first | exact Nat.le_refl _ | (simp; done) | (simp; omega) | omega) _ | with_reducible refine Below.trans ?_ (Below.mono (by with_reducible assumption) (by first | exact Nat.le_refl _ | (simp; done) | (simp; omega) | omega))))
  have HV : Below V1.heap.size V1 W := by subst hW; exact (by repeat (first | with_reducible exact Below.refl _ _ | with_reducible assumption | with_reducible refine Below.drew ?_ | with_reducible refine Below.alloc ?_ (by first | exact Nat.le_refl _ | (simp; done) | (simp; omega) | omega) _ | with_reducible refine Below.setCell ?_ (by first | exact Nat.le_refl _ | (simp; done) | (simp; omega) | omega) _ | with_reducible refine Below.trans ?_ (Below.mono (by with_reducible assumption) (by first | exact Nat.le_refl _ | (simp; done) | (simp; omega) | omega))))
  have b00 : W.cell? ⟨V1.heap.size, 0, none⟩ = some (.slice (some ⟨r, 0, none⟩) l.length cp) := by subst hW; simp [go_sem]
  have L0 : V1.heap.size < W.heap.size := by subst hW; first | (simp; done) | (simp; omega)
  rw [← hW]
  clear hW
  obtain ⟨B0, hB0⟩ : ∃ B, B = V1.heap.size := ⟨_, rfl⟩
  rw [← hB0] at b00 L0
  try rw [← hB0]
  replace hB0 := Lib.hid hB0
  have hn2 : l.length ≤ 4611686018427387904 := by omega
  have FV := Lib.hid (FixAt.below (fixAt_own ho) HV)
  clear ho HV
  have c1 := fun W h => CutTrack_c (some ⟨r, 0, none⟩) cp l x y W hn2 h
  have c2 := fun W h => CutTrackS_c (some ⟨r, 0, none⟩) cp l x y W hn2 h
  have hlaw := fun M => @cut_yes l M x y
  have hM9 := cut_lenR l x y hl1
  generalize cutR l x y = RR at *
  obtain ⟨M, R2⟩ := RR
  dsimp only at c1 c2 hM9
  have C1 := Lib.hid c1
  have C2 := Lib.hid c2
  have HLAW := Lib.hid hlaw
  clear c1 c2 hlaw
  refine (C1.out _ FV.out).mono ?_
  rintro e V2 ⟨⟨a1, cp1, rfl, ho⟩, hb⟩
  have O1 := Lib.hid (fixAt_own ho)
  have hcap1 := own_capJ ho
  clear ho
  replace HD := HD.trans (hb.mono HD.size)
  obtain ⟨hc, hf⟩ := bcell hb
  have hz := hb.size
  replace b00 := (hc _ 0 L0).trans b00
  replace FV := Lib.hid (FixAt.below FV.out hb)
  replace L0 := Nat.lt_of_lt_of_le L0 hz
  clear hc hf hz hb
  go_wp2_with fail
  obtain ⟨V3, hV3⟩ : ∃ x, x = V2.alloc (.cells #[.slice a1 M.length cp1] 26) := ⟨_, rfl⟩
  have hb : Below V2.heap.size V2 V3 := by subst hV3; exact (Below.refl _ _).alloc (Nat.le_refl _) _
  have k60 : V3.cell? ⟨V2.heap.size, 0, none⟩ = some (.slice a1 M.length cp1) := by subst hV3; simp [go_sem]
  have K6 : V2.heap.size < V3.heap.size := by subst hV3; simp
  have hS6 := Lib.hid (show V3.heap.size = V2.heap.size + 1 by subst hV3; simp)
  rw [← hV3]
  clear hV3
  replace HD := HD.trans (hb.mono HD.size)
  obtain ⟨hc, hf⟩ := bcell hb
  have hz := hb.size
  replace b00 := (hc _ 0 L0).trans b00
  replace FV := Lib.hid (FixAt.below FV.out hb)
  replace O1 := Lib.hid (FixAt.below O1.out hb)
  replace L0 := Nat.lt_of_lt_of_le L0 hz
  clear hc hf hz hb
  obtain ⟨C6, hC6⟩ : ∃ x, x = V2.heap.size := ⟨_, rfl⟩
  rw [← hC6] at k60 K6
  try rw [← hC6]
  replace hC6 := Lib.hid hC6
  refine (C2.out _ FV.out).mono ?_
  rintro e V4 ⟨⟨a2, cp2, rfl, ho⟩, hb⟩
  have O2 := Lib.hid (fixAt_own ho)
  have hcap2 := own_capJ ho
  clear ho
  replace HD := HD.trans (hb.mono HD.size)
  obtain ⟨hc, hf⟩ := bcell hb
  have hz := hb.size
  replace b00 := (hc _ 0 L0).trans b00
  replace k60 := (hc _ 0 K6).trans k60
  replace FV := Lib.hid (FixAt.below FV.out hb)
  replace O1 := Lib.hid (FixAt.below O1.out hb)
  replace L0 := Nat.lt_of_lt_of_le L0 hz
  replace K6 := Nat.lt_of_lt_of_le K6 hz
  clear hc hf hz hb
  go_wp2_with fail
  obtain ⟨V5, hV5⟩ : ∃ x, x = V4.alloc (.cells #[.slice a2 M.length cp2] 26) := ⟨_, rfl⟩
  have hb : Below V4.heap.size V4 V5 := by subst hV5; exact (Below.refl _ _).alloc (Nat.le_refl _) _
  have k80 : V5.cell? ⟨V4.heap.size, 0, none⟩ = some (.slice a2 M.length cp2) := by subst hV5; simp [go_sem]
  have K8 : V4.heap.size < V5.heap.size := by subst hV5; simp
  have hS8 := Lib.hid (show V5.heap.size = V4.heap.size + 1 by subst hV5; simp)
  rw [← hV5]
  clear hV5
  replace HD := HD.trans (hb.mono HD.size)
  obtain ⟨hc, hf⟩ := bcell hb
  have hz := hb.size
  replace b00 := (hc _ 0 L0).trans b00
  replace k60 := (hc _ 0 K6).trans k60
  replace FV := Lib.hid (FixAt.below FV.out hb)
  replace O1 := Lib.hid (FixAt.below O1.out hb)
  replace O2 := Lib.hid (FixAt.below O2.out hb)
  replace L0 := Nat.lt_of_lt_of_le L0 hz
  replace K6 := Nat.lt_of_lt_of_le K6 hz
  clear hc hf hz hb
  obtain ⟨C8, hC8⟩ : ∃ x, x = V4.heap.size := ⟨_, rfl⟩
  rw [← hC8] at k80 K8
  try rw [← hC8]
  replace hC8 := Lib.hid hC8
  by_cases E : R2 = 0
  case neg =>
    refine (w9Tracks_c a1 a2 cp1 cp2 M V5 (by omega) O1.out O2.out).mono ?_
    rintro e V6 ⟨rfl, hb⟩
    replace HD := HD.trans (hb.mono HD.size)
    obtain ⟨hc, hf⟩ := bcell hb
    have hz := hb.size
    replace b00 := (hc _ 0 L0).trans b00
    replace k60 := (hc _ 0 K6).trans k60
    replace k80 := (hc _ 0 K8).trans k80
    replace FV := Lib.hid (FixAt.below FV.out hb)
    replace O1 := Lib.hid (FixAt.below O1.out hb)
    replace O2 := Lib.hid (FixAt.below O2.out hb)
    replace L0 := Nat.lt_of_lt_of_le L0 hz
    replace K6 := Nat.lt_of_lt_of_le K6 hz
    replace K8 := Nat.lt_of_lt_of_le K8 hz
    clear hc hf hz hb
    go_wp2_with fail
    go_ret
    exact ⟨rfl, HD⟩
  case pos =>
    subst E
    obtain ⟨hT, hxy, hx, hy, hME⟩ := HLAW.out M rfl
    clear HLAW C2
    have hMT := hME ▸ cut_trk hT hxy hx hy
    have hMP := Lib.hid (hME ▸ cut_pos hT hx hy)
    have hl2 := (isTrk_true hT).1
    have HME := Lib.hid hME
    have HMT := Lib.hid hMT
    have HT := Lib.hid hT
    have HX := Lib.hid hx
    have HY := Lib.hid hy
    clear hME hMT hT hx hy
    go_wp2_with fail
    refine (w9Tracks_c a1 a2 cp1 cp2 M V5 (by omega) O1.out O2.out).mono ?_
    rintro e V6 ⟨rfl, hb⟩
    replace HD := HD.trans (hb.mono HD.size)
    obtain ⟨hc, hf⟩ := bcell hb
    have hz := hb.size
    replace b00 := (hc _ 0 L0).trans b00
    replace k60 := (hc _ 0 K6).trans k60
    replace k80 := (hc _ 0 K8).trans k80
    replace FV := Lib.hid (FixAt.below FV.out hb)
    replace O1 := Lib.hid (FixAt.below O1.out hb)
    replace O2 := Lib.hid (FixAt.below O2.out hb)
    replace L0 := Nat.lt_of_lt_of_le L0 hz
    replace K6 := Nat.lt_of_lt_of_le K6 hz
    replace K8 := Nat.lt_of_lt_of_le K8 hz
    clear hc hf hz hb
    go_wp2_with fail
    go_loopw [10] (fun v wr => ∃ i : Nat, v = .int .i64 i ∧ i ≤ M.length ∧ wr.cell? ⟨B0, 0, none⟩ = some (.slice (some ⟨r, 0, none⟩) l.length cp) ∧ wr.cell? ⟨C6, 0, none⟩ = some (.slice a1 M.length cp1) ∧ wr.cell? ⟨C8, 0, none⟩ = some (.slice a2 M.length cp2) ∧ B0 < wr.heap.size ∧ C6 < wr.heap.size ∧ C8 < wr.heap.size ∧ Hid (FixAt wr (some ⟨r, 0, none⟩) l) ∧ Hid (FixAt wr a1 M) ∧ Hid (FixAt wr a2 M) ∧ Below w.heap.size w wr) (fun v _ => M.length - (intOf v).toNat)
    case atStart => exact ⟨0, rfl, Nat.zero_le _, b00, k60, k80, L0, K6, K8, FV, O1, O2, HD⟩
    case round =>
      clear b00 k60 k80 L0 K6 K8 FV O1 O2 HD
      obtain ⟨i, rfl, hle, b00, k60, k80, L0, K6, K8, FV, O1, O2, HD⟩ := hrel
      by_cases h : i < M.length
      case pos =>
        obtain ⟨b, off, rfl, hb9, c0, c1, c2⟩ := O2.out i _ (fx_of h)
        have hP := hMP.out _ (fx_memC h)
        generalize fx M i = m at *
        obtain ⟨mt, mx, my⟩ := m
        dsimp only at hP c0 c1 c2
        have CP := Lib.hid (fun W h => PositionAt_c (some ⟨r, 0, none⟩) cp l mt W hn2 h)
        rw [hP] at CP
        have hh : (i : Int) < (M.length : Int) := by omega
        have hh0 : (0 : Int) ≤ (i : Int) := by omega
        clear hP
        go_wp2_with fail
        go_cut [11, 12] (fun sp sc wx => ∃ g : Nat, sp = .pointer (some ⟨g, 0, none⟩) ∧ sc = .int .i64 0 ∧ wx.cell? ⟨g, 0, none⟩ = some (.int .i64 mx) ∧ wx.cell? ⟨g, 1, none⟩ = some (.int .i64 my) ∧ g < wx.heap.size ∧ Below wr.heap.size wr wx)
        case first =>
          go_region_held3 (fun wx => Below wr.heap.size wr wx ∧ ∀ b o, b < wr.heap.size → wx.cell? ⟨b, o, none⟩ = wr.cell? ⟨b, o, none⟩)
            (first | with_reducible exact held_step (by assumption) hb | with_reducible exact held_alloc (by assumption) _ | with_reducible exact (held_set (by with_reducible assumption) (by first | exact Nat.le_refl _ | (simp; done) | (simp; omega) | omega) _) | with_reducible exact (held_set (held_set (by with_reducible assumption) (by first | exact Nat.le_refl _ | (simp; done) | (simp; omega) | omega) _) (by first | exact Nat.le_refl _ | (simp; done) | (simp; omega) | omega) _) | with_reducible exact held_realloc (by assumption) (by first | exact Nat.le_refl _ | (simp; done) | (simp; omega) | omega) _ | with_reducible exact held_start _ _ | with_reducible exact held_begin _)
            (first | (go_at_call 23; refine (CP.out _ (FV.out.below (And.left (by with_reducible assumption)))).mono ?_; rintro e w1 ⟨rfl, hb⟩; have hz := held_size (by with_reducible assumption) hb; (try simp at hz); have hs := hb.size; (try simp at hs); obtain ⟨hc, hf⟩ := bcell hb; (try have hl := below_lt hb); (try simp at hl); (try have hlW : wr.heap.size < w1.heap.size := by first | omega | (simp; omega))))
          all_goals (go_wp2_with fail; go_meet; exact ⟨_, rfl, rfl, (by go_light; go_simp), (by go_light; go_simp), (by go_light; first | (simp; done) | (simp; omega) | omega), (held_of (by with_reducible exact And.left (by with_reducible assumption))).1⟩)
        case rest =>
          obtain ⟨C11, rfl, rfl, k110, k111, K11, hb⟩ := hcut
          obtain ⟨V7, rfl⟩ : ∃ x : World, x = wc := ⟨_, rfl⟩
          replace HD := HD.trans (hb.mono HD.size)
          obtain ⟨hc, hf⟩ := bcell hb
          have hz := hb.size
          replace b00 := (hc _ 0 L0).trans b00
          replace k60 := (hc _ 0 K6).trans k60
          replace k80 := (hc _ 0 K8).trans k80
          replace FV := Lib.hid (FixAt.below FV.out hb)
          replace O1 := Lib.hid (FixAt.below O1.out hb)
          replace O2 := Lib.hid (FixAt.below O2.out hb)
          replace L0 := Nat.lt_of_lt_of_le L0 hz
          replace K6 := Nat.lt_of_lt_of_le K6 hz
          replace K8 := Nat.lt_of_lt_of_le K8 hz
          replace c0 := (hc _ _ hb9).trans c0
          replace c1 := (hc _ _ hb9).trans c1
          replace c2 := (hc _ _ hb9).trans c2
          replace hb9 := Nat.lt_of_lt_of_le hb9 hz
          clear hc hf hz hb
          go_wp2_with fail
          refine wp_region_later (by kernel_rfl) (by kernel_rfl) ?_
          repeat (first | go_big_quiet_step (fail) | quiet_step (fail))
          refine wpQuiet_nil ?_
          intro _ hw'
          obtain ⟨s9, hw''⟩ := hw'
          subst hw''
          have hb := s9.below
          generalize s9.w = V8 at hb ⊢
          clear s9
          replace HD := HD.trans (hb.mono HD.size)
          obtain ⟨hc, hf⟩ := bcell hb
          have hz := hb.size
          replace b00 := (hc _ 0 L0).trans b00
          replace k60 := (hc _ 0 K6).trans k60
          replace k80 := (hc _ 0 K8).trans k80
          replace k110 := (hc _ 0 K11).trans k110
          replace k111 := (hc _ 1 K11).trans k111
          replace FV := Lib.hid (FixAt.below FV.out hb)
          replace O1 := Lib.hid (FixAt.below O1.out hb)
          replace O2 := Lib.hid (FixAt.below O2.out hb)
          replace L0 := Nat.lt_of_lt_of_le L0 hz
          replace K6 := Nat.lt_of_lt_of_le K6 hz
          replace K8 := Nat.lt_of_lt_of_le K8 hz
          replace K11 := Nat.lt_of_lt_of_le K11 hz
          clear hc hf hz hb
          go_wp2_with fail
          exact ⟨⟨i + 1, by simp, by omega, b00, k60, k80, L0, K6, K8, FV, O1, O2, HD⟩, by simp [intOf]; omega⟩
      case neg =>
        have hh : ¬ (i : Int) < (M.length : Int) := by omega
        obtain ⟨q0, q1, q2⟩ := fixLast FV.out (show 0 < l.length by omega)
        have i0 : (0 : Int) < (l.length : Int) := by omega
        have i5 : 0 < l.length := by omega
        have i6 : l ≠ [] := by intro e; subst e; simp at i5
        have i7 : (1 : Int) ≤ (l.length : Int) := by omega
        have i1 : IntKind.i64.wrap ((l.length : Int) - 1) = (l.length : Int) - 1 := by rw [IntKind.wrap_i64]; omega
        have i2 : (0 : Int) ≤ (l.length : Int) - 1 := by omega
        have i3 : (l.length : Int) - 1 < (l.length : Int) := by omega
        have i4 : ((l.length : Int) - 1).toNat = l.length - 1 := by omega
        have i8 : 1 ≤ l.length := by omega
        have hlt := lasts_fix HT.out (show l.length - 1 < l.length by omega)
        have hyz := (inR_true HY.out).2
        have HWP := Lib.hid (fun h2 hn => @whole_pos l x y HT.out hxy h2 HX.out HY.out hn)
        have HWT := Lib.hid (fun h2 hn => @whole_trk l x y _ HT.out hxy h2 HX.out HY.out hlt hn)
        have HJC := Lib.hid (fun h2 => @join_cut l x y _ HT.out hxy h2 HX.out HY.out hlt)
        have HCT := Lib.hid (fun h2 => @cut_trk l y _ HT.out h2 HY.out hlt)
        have HLT := Lib.hid hlt
        clear hlt
        generalize (fx l (l.length - 1)).t = z at *
        generalize (fx l (l.length - 1)).x = zx at *
        generalize (fx l (l.length - 1)).y = zy at *
        by_cases hyl : y = z
        case pos =>
          subst hyl
          have ct := IsTrack_c a1 cp1 M wr (by omega) O1.out
          rw [HMT.out] at ct
          clear HWP HWT HJC HCT
          go_wp2_with fail
          refine ct.mono ?_
          rintro e w9 ⟨rfl, hb⟩
          go_wp2_with fail
          go_ret
          exact ⟨rfl, HD.trans (hb.mono HD.size)⟩
        case neg =>
          have hyz2 : y < z := by omega
          have c3 := CutTrack_c (some ⟨r, 0, none⟩) cp l y z wr hn2 FV.out
          have e3 : cutR l y z = (cutL l y z, 0) := by unfold cutR; rw [if_pos HT.out, if_pos ⟨hyz2, HY.out, HLT.out⟩]
          rw [e3] at c3
          dsimp only at c3
          have hN9 : (cutL l y z).length ≤ 43 := by have := cut_lenR l y z hl1; rw [e3] at this; exact this
          have HJ := Lib.hid (HME.out ▸ HJC.out hyz2)
          have HWP2 := Lib.hid (HME.out ▸ HWP.out hyz2)
          have HWT2 := Lib.hid (HME.out ▸ HWT.out hyz2)
          clear e3 HJC HWP HWT HCT
          generalize wholeL l x y z = WL at *
          generalize cutL l y z = N at *
          go_wp2_with fail
          have hrl : r < wr.heap.size := fixLt FV.out i5
          refine (c3).mono ?_
          rintro e V10 ⟨⟨a3, cp3, rfl, ho⟩, hb⟩
          have O3 := Lib.hid (fixAt_own ho)
          have hcap3 := own_capJ ho
          clear ho
          replace HD := HD.trans (hb.mono HD.size)
          obtain ⟨hc, hf⟩ := bcell hb
          have hz := hb.size
          replace b00 := (hc _ 0 L0).trans b00
          replace k60 := (hc _ 0 K6).trans k60
          replace k80 := (hc _ 0 K8).trans k80
          replace FV := Lib.hid (FixAt.below FV.out hb)
          replace O1 := Lib.hid (FixAt.below O1.out hb)
          replace O2 := Lib.hid (FixAt.below O2.out hb)
          replace L0 := Nat.lt_of_lt_of_le L0 hz
          replace K6 := Nat.lt_of_lt_of_le K6 hz
          replace K8 := Nat.lt_of_lt_of_le K8 hz
          replace q0 := (hc _ _ hrl).trans q0
          replace q1 := (hc _ _ hrl).trans q1
          replace q2 := (hc _ _ hrl).trans q2
          replace hrl := Nat.lt_of_lt_of_le hrl hz
          clear hc hf hz hb
          go_wp2_with fail
          obtain ⟨V11, hV11⟩ : ∃ x, x = V10.alloc (.cells #[.slice a3 N.length cp3] 26) := ⟨_, rfl⟩
          have hb : Below V10.heap.size V10 V11 := by subst hV11; exact (Below.refl _ _).alloc (Nat.le_refl _) _
          have k140 : V11.cell? ⟨V10.heap.size, 0, none⟩ = some (.slice a3 N.length cp3) := by subst hV11; simp [go_sem]
          have K14 : V10.heap.size < V11.heap.size := by subst hV11; simp
          have hS14 := Lib.hid (show V11.heap.size = V10.heap.size + 1 by subst hV11; simp)
          rw [← hV11]
          clear hV11
          replace HD := HD.trans (hb.mono HD.size)
          obtain ⟨hc, hf⟩ := bcell hb
          have hz := hb.size
          replace b00 := (hc _ 0 L0).trans b00
          replace k60 := (hc _ 0 K6).trans k60
          replace k80 := (hc _ 0 K8).trans k80
          replace FV := Lib.hid (FixAt.below FV.out hb)
          replace O1 := Lib.hid (FixAt.below O1.out hb)
          replace O2 := Lib.hid (FixAt.below O2.out hb)
          replace O3 := Lib.hid (FixAt.below O3.out hb)
          replace L0 := Nat.lt_of_lt_of_le L0 hz
          replace K6 := Nat.lt_of_lt_of_le K6 hz
          replace K8 := Nat.lt_of_lt_of_le K8 hz
          replace q0 := (hc _ _ hrl).trans q0
          replace q1 := (hc _ _ hrl).trans q1
          replace q2 := (hc _ _ hrl).trans q2
          replace hrl := Nat.lt_of_lt_of_le hrl hz
          clear hc hf hz hb
          obtain ⟨C14, hC14⟩ : ∃ x, x = V10.heap.size := ⟨_, rfl⟩
          rw [← hC14] at k140 K14
          try rw [← hC14]
          replace hC14 := Lib.hid hC14
          have c4 := JoinTracks_c a1 a3 cp1 cp3 M N V11 (by omega) (by omega) hcap3 O1.out O3.out
          rw [HJ.out] at c4
          by_cases hlim : 40 < M.length + (N.length - 1)
          case pos =>
            rw [if_pos hlim] at c4
            simp only [List.length_nil] at c4
            refine (c4).mono ?_
            rintro e V12 ⟨⟨a4, cp4, rfl, ho⟩, hb⟩
            clear ho
            replace HD := HD.trans (hb.mono HD.size)
            obtain ⟨hc, hf⟩ := bcell hb
            have hz := hb.size
            replace b00 := (hc _ 0 L0).trans b00
            replace k60 := (hc _ 0 K6).trans k60
            replace k80 := (hc _ 0 K8).trans k80
            replace k140 := (hc _ 0 K14).trans k140
            replace FV := Lib.hid (FixAt.below FV.out hb)
            replace O1 := Lib.hid (FixAt.below O1.out hb)
            replace O2 := Lib.hid (FixAt.below O2.out hb)
            replace O3 := Lib.hid (FixAt.below O3.out hb)
            replace L0 := Nat.lt_of_lt_of_le L0 hz
            replace K6 := Nat.lt_of_lt_of_le K6 hz
            replace K8 := Nat.lt_of_lt_of_le K8 hz
            replace K14 := Nat.lt_of_lt_of_le K14 hz
            replace q0 := (hc _ _ hrl).trans q0
            replace q1 := (hc _ _ hrl).trans q1
            replace q2 := (hc _ _ hrl).trans q2
            replace hrl := Nat.lt_of_lt_of_le hrl hz
            clear hc hf hz hb
            go_wp2_with fail
            go_ret
            exact ⟨rfl, HD.alloc HD.size _⟩
          case neg =>
            rw [if_neg hlim] at c4
            dsimp only at c4
            have hwp := HWP2.out hlim
            have hwt := HWT2.out hlim
            have hWL := (isTrk_true hwt).2.1
            refine (c4).mono ?_
            rintro e V12 ⟨⟨a4, cp4, rfl, ho⟩, hb⟩
            have O4 := Lib.hid (fixAt_own ho)
            have hcap4 := own_capJ ho
            clear ho
            replace HD := HD.trans (hb.mono HD.size)
            obtain ⟨hc, hf⟩ := bcell hb
            have hz := hb.size
            replace b00 := (hc _ 0 L0).trans b00
            replace k60 := (hc _ 0 K6).trans k60
            replace k80 := (hc _ 0 K8).trans k80
            replace k140 := (hc _ 0 K14).trans k140
            replace FV := Lib.hid (FixAt.below FV.out hb)
            replace O1 := Lib.hid (FixAt.below O1.out hb)
            replace O2 := Lib.hid (FixAt.below O2.out hb)
            replace O3 := Lib.hid (FixAt.below O3.out hb)
            replace L0 := Nat.lt_of_lt_of_le L0 hz
            replace K6 := Nat.lt_of_lt_of_le K6 hz
            replace K8 := Nat.lt_of_lt_of_le K8 hz
            replace K14 := Nat.lt_of_lt_of_le K14 hz
            replace q0 := (hc _ _ hrl).trans q0
            replace q1 := (hc _ _ hrl).trans q1
            replace q2 := (hc _ _ hrl).trans q2
            replace hrl := Nat.lt_of_lt_of_le hrl hz
            clear hc hf hz hb
            go_wp2_with fail
            obtain ⟨V13, hV13⟩ : ∃ x, x = V12.alloc (.cells #[.slice a4 WL.length cp4] 26) := ⟨_, rfl⟩
            have hb : Below V12.heap.size V12 V13 := by subst hV13; exact (Below.refl _ _).alloc (Nat.le_refl _) _
            have k160 : V13.cell? ⟨V12.heap.size, 0, none⟩ = some (.slice a4 WL.length cp4) := by subst hV13; simp [go_sem]
            have K16 : V12.heap.size < V13.heap.size := by subst hV13; simp
            have hS16 := Lib.hid (show V13.heap.size = V12.heap.size + 1 by subst hV13; simp)
            rw [← hV13]
            clear hV13
            replace HD := HD.trans (hb.mono HD.size)
            obtain ⟨hc, hf⟩ := bcell hb
            have hz := hb.size
            replace b00 := (hc _ 0 L0).trans b00
            replace k60 := (hc _ 0 K6).trans k60
            replace k80 := (hc _ 0 K8).trans k80
            replace k140 := (hc _ 0 K14).trans k140
            replace FV := Lib.hid (FixAt.below FV.out hb)
            replace O1 := Lib.hid (FixAt.below O1.out hb)
            replace O2 := Lib.hid (FixAt.below O2.out hb)
            replace O3 := Lib.hid (FixAt.below O3.out hb)
            replace O4 := Lib.hid (FixAt.below O4.out hb)
            replace L0 := Nat.lt_of_lt_of_le L0 hz
            replace K6 := Nat.lt_of_lt_of_le K6 hz
            replace K8 := Nat.lt_of_lt_of_le K8 hz
            replace K14 := Nat.lt_of_lt_of_le K14 hz
            replace q0 := (hc _ _ hrl).trans q0
            replace q1 := (hc _ _ hrl).trans q1
            replace q2 := (hc _ _ hrl).trans q2
            replace hrl := Nat.lt_of_lt_of_le hrl hz
            clear hc hf hz hb
            obtain ⟨C16, hC16⟩ : ∃ x, x = V12.heap.size := ⟨_, rfl⟩
            rw [← hC16] at k160 K16
            try rw [← hC16]
            replace hC16 := Lib.hid hC16
            have c5 := PositionAt_c a4 cp4 WL z V13 (by omega) O4.out
            rw [hwp] at c5
            dsimp only at c5
            refine (c5).mono ?_
            rintro e V14 ⟨rfl, hb⟩
            replace HD := HD.trans (hb.mono HD.size)
            obtain ⟨hc, hf⟩ := bcell hb
            have hz := hb.size
            replace b00 := (hc _ 0 L0).trans b00
            replace k60 := (hc _ 0 K6).trans k60
            replace k80 := (hc _ 0 K8).trans k80
            replace k140 := (hc _ 0 K14).trans k140
            replace k160 := (hc _ 0 K16).trans k160
            replace FV := Lib.hid (FixAt.below FV.out hb)
            replace O1 := Lib.hid (FixAt.below O1.out hb)
            replace O2 := Lib.hid (FixAt.below O2.out hb)
            replace O3 := Lib.hid (FixAt.below O3.out hb)
            replace O4 := Lib.hid (FixAt.below O4.out hb)
            replace L0 := Nat.lt_of_lt_of_le L0 hz
            replace K6 := Nat.lt_of_lt_of_le K6 hz
            replace K8 := Nat.lt_of_lt_of_le K8 hz
            replace K14 := Nat.lt_of_lt_of_le K14 hz
            replace K16 := Nat.lt_of_lt_of_le K16 hz
            replace q0 := (hc _ _ hrl).trans q0
            replace q1 := (hc _ _ hrl).trans q1
            replace q2 := (hc _ _ hrl).trans q2
            replace hrl := Nat.lt_of_lt_of_le hrl hz
            clear hc hf hz hb
            go_wp2_with fail
            obtain ⟨V15, hV15⟩ : ∃ x, x = V14.alloc (.cells #[.int .i64 zx, .int .i64 zy] 35) := ⟨_, rfl⟩
            have hb : Below V14.heap.size V14 V15 := by subst hV15; exact (Below.refl _ _).alloc (Nat.le_refl _) _
            have k180 : V15.cell? ⟨V14.heap.size, 0, none⟩ = some (.int .i64 zx) := by subst hV15; simp [go_sem]
            have k181 : V15.cell? ⟨V14.heap.size, 1, none⟩ = some (.int .i64 zy) := by subst hV15; simp [go_sem]
            have K18 : V14.heap.size < V15.heap.size := by subst hV15; simp
            have hS18 := Lib.hid (show V15.heap.size = V14.heap.size + 1 by subst hV15; simp)
            rw [← hV15]
            clear hV15
            replace HD := HD.trans (hb.mono HD.size)
            obtain ⟨hc, hf⟩ := bcell hb
            have hz := hb.size
            replace b00 := (hc _ 0 L0).trans b00
            replace k60 := (hc _ 0 K6).trans k60
            replace k80 := (hc _ 0 K8).trans k80
            replace k140 := (hc _ 0 K14).trans k140
            replace k160 := (hc _ 0 K16).trans k160
            replace FV := Lib.hid (FixAt.below FV.out hb)
            replace O1 := Lib.hid (FixAt.below O1.out hb)
            replace O2 := Lib.hid (FixAt.below O2.out hb)
            replace O3 := Lib.hid (FixAt.below O3.out hb)
            replace O4 := Lib.hid (FixAt.below O4.out hb)
            replace L0 := Nat.lt_of_lt_of_le L0 hz
            replace K6 := Nat.lt_of_lt_of_le K6 hz
            replace K8 := Nat.lt_of_lt_of_le K8 hz
            replace K14 := Nat.lt_of_lt_of_le K14 hz
            replace K16 := Nat.lt_of_lt_of_le K16 hz
            replace q0 := (hc _ _ hrl).trans q0
            replace q1 := (hc _ _ hrl).trans q1
            replace q2 := (hc _ _ hrl).trans q2
            replace hrl := Nat.lt_of_lt_of_le hrl hz
            clear hc hf hz hb
            obtain ⟨C18, hC18⟩ : ∃ x, x = V14.heap.size := ⟨_, rfl⟩
            rw [← hC18] at k180 k181 K18
            try rw [← hC18]
            replace hC18 := Lib.hid hC18
            have CT := Lib.hid (fun W h => hwt ▸ IsTrack_c a4 cp4 WL W (by omega) h)
            clear hwp hwt
            go_wp2_with fail
            refine wp_region_later (by kernel_rfl) (by kernel_rfl) ?_
            repeat (first | go_big_quiet_step ((go_at_call 24; exact later_of _ (CT.out _ (FixAt.below O4.out (Later.below _))))) | quiet_step ((go_at_call 24; exact later_of _ (CT.out _ (FixAt.below O4.out (Later.below _))))))
            refine wpQuiet_nil ?_
            intro _ hw'
            obtain ⟨s9, hw''⟩ := hw'
            subst hw''
            have hb := s9.below
            generalize s9.w = V16 at hb ⊢
            clear s9
            replace HD := HD.trans (hb.mono HD.size)
            obtain ⟨hc, hf⟩ := bcell hb
            have hz := hb.size
            replace b00 := (hc _ 0 L0).trans b00
            replace k60 := (hc _ 0 K6).trans k60
            replace k80 := (hc _ 0 K8).trans k80
            replace k140 := (hc _ 0 K14).trans k140
            replace k160 := (hc _ 0 K16).trans k160
            replace k180 := (hc _ 0 K18).trans k180
            replace k181 := (hc _ 1 K18).trans k181
            replace FV := Lib.hid (FixAt.below FV.out hb)
            replace O1 := Lib.hid (FixAt.below O1.out hb)
            replace O2 := Lib.hid (FixAt.below O2.out hb)
            replace O3 := Lib.hid (FixAt.below O3.out hb)
            replace O4 := Lib.hid (FixAt.below O4.out hb)
            replace L0 := Nat.lt_of_lt_of_le L0 hz
            replace K6 := Nat.lt_of_lt_of_le K6 hz
            replace K8 := Nat.lt_of_lt_of_le K8 hz
            replace K14 := Nat.lt_of_lt_of_le K14 hz
            replace K16 := Nat.lt_of_lt_of_le K16 hz
            replace K18 := Nat.lt_of_lt_of_le K18 hz
            replace q0 := (hc _ _ hrl).trans q0
            replace q1 := (hc _ _ hrl).trans q1
            replace q2 := (hc _ _ hrl).trans q2
            replace hrl := Nat.lt_of_lt_of_le hrl hz
            clear hc hf hz hb
            go_wp2_with fail
            go_ret
            exact ⟨rfl, HD⟩

theorem own : ownKnob Try.prog.godebug = none := by kernel_rfl
theorem laidOut : laidOutB Try.prog = true := by kernel_rfl
set_option maxRecDepth 100000 in
theorem lifted (os : Os) (started : os.Started) (H : Type) (enc : TypeId × Value → H) :
    ReturnsInHanded {} Try.checked os 4 .any (Rows.fnCutJoinSpec.pre6 enc Try.prog Try.f4 Rows.fnCutJoinRow.domain false) (Rows.fnCutJoinSpec.post enc Try.prog Try.f4 false true false false) := by
  refine returnsInHanded_of_change (C := Try.checked) own started (by kernel_rfl) Try.func4
    (ChangeSpec.witness6 (enc := enc) (C := Try.checked) false ⟨#[], #[.slice none 0 0], []⟩ 8 (by kernel_rfl) (by kernel_rfl) (by kernel_rfl) (by kernel_rfl)) ?_
  intro W base args ds gs before hval0 hW hcnd _
  have hval : ∀ (j : Nat) t v, Try.f4.params[j]? = some t → args[j]? = some v → Value.okWide Try.prog W .any base t v := hval0
  have hW' := hW
  obtain ⟨p, q, hA0, hV, rfl, hfz, hnd⟩ := hW
  have hA : DataW.TrodAll enc Try.prog W 0 (fun _ => true) true Try.f4.params.toList args.toList ds p := hA0
  rw [Try.params4] at hA hval
  obtain ⟨v0, vs0, d0, ds0, p0, q0, hargs, rfl, rfl, h0, r0⟩ := trodAll_cons hA
  obtain ⟨rfl, rfl, rfl⟩ := trodAll_nil r0
  obtain rfl : args = #[v0] := by cases args; simp_all
  obtain ⟨rfl, rfl⟩ := trodVars_none hV
  have k0 := h0
  have lt0 : ∀ x ∈ p0, x.block < W.heap.size := by obtain ⟨m, hm⟩ := k0; exact DataW.trod_lt m _ _ _ hm
  obtain ⟨⟨a0, cap0⟩, n0, rfl, w0⟩ := open_bytes Try.underlying22 Try.underlying5 (by kernel_rfl) (hval 0 22 v0 rfl rfl) h0
  clear hA0 hval0
  refine (walk a0 cap0 n0 W w0).mono fun e W' ⟨he, bel⟩ => ?_
  subst he
  exact ⟨_, rfl, _, _, _, [], _, [], hW', trodAll_mk1 (shut_bool Try.underlying4 _), (trodAll_cons_mk (Below.trod laidOut (by kernel_rfl) (of_decide_eq_true (by kernel_rfl)) k0 bel lt0) trodAll_mk0), rfl, bel.frame _, fun h => by cases h⟩

theorem over : Rows.fnCutJoinRow.holds Try.pinned (OpenSpec.ofChange Rows.fnCutJoinSpec) :=
  OpenClaim.holds_of_wide 4 Try.f4 rfl rfl rfl rfl rfl rfl rfl ⟨rfl, rfl, rfl, rfl, rfl⟩ rfl rfl rfl rfl rfl (by kernel_rfl) Try.func4 (by kernel_rfl)
    (of_decide_eq_true (by kernel_rfl)) (by unfold Func.isWrapper; first | (rw [if_pos (by decide +kernel)]; kernel_rfl) | (rw [if_neg (by decide +kernel)]; exact ⟨rfl, rfl⟩))
    (fun os started H enc _ => lifted os started H enc)

/-- The statement. -/
theorem proved : Rows.FnCutJoinSaid := over
end Go.Proofs.Ytdepdkpehbkcjaa.fnCutJoin
