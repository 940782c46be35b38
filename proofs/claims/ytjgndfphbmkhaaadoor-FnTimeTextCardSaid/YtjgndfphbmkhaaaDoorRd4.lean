/-
  Reading a time: the reference's side, the walk. Condition: the text is short.
-/
import Derived.Test.YtjgndfphbmkhaaaDoorRd5
namespace Go.Proofs.YtjgndfphbmkhaaaDoor
set_option linter.unusedVariables false
open Go.RowKit Go.Deep

set_option maxRecDepth 100000 in
set_option maxHeartbeats 4000000 in
theorem ReadTimeS_c (s : ByteArray) (w : World) (hs : s.size ≤ 1048576) : Calls Tryd.prog 9 #[.string s] w fun e w' => RdE s e ∧ Below w.heap.size w w' := by
  by_cases hz : 8 ≤ s.size ∧ s.size ≤ 12
  case neg =>
    have HN := Lib.hid (rd_no (s := s) (fun m hm e => by have := tt_size_bd hm; rw [← e] at this; omega))
    have l3 : (s.size : Int) < 8 ∨ ¬ (s.size : Int) < 8 ∧ (12 : Int) < (s.size : Int) := by omega
    rcases l3 with l3 | ⟨l3, l4⟩
    · go_enter Tryd.func9, Tryd.ntmps9
      go_wp2_with fail
      all_goals (go_ret2; exact ⟨HN.out, Below.refl _ _⟩)
    · go_enter Tryd.func9, Tryd.ntmps9
      go_wp2_with fail
      all_goals (go_ret2; exact ⟨HN.out, Below.refl _ _⟩)
  case pos =>
    obtain ⟨z1, z2⟩ := hz
    have l1 : ¬ (s.size : Int) < 8 := by omega
    have l2 : ¬ (12 : Int) < (s.size : Int) := by omega
    go_enter Tryd.func9, Tryd.ntmps9
    go_wp2_with fail
    obtain ⟨q, hq⟩ : ∃ q, s.size = q + 7 := ⟨s.size - 7, by omega⟩
    have w6 : IntKind.i64.wrap ((s.size : Int) - 6) = (s.size : Int) - 6 := by rw [IntKind.wrap_i64]; omega
    have w4 : IntKind.i64.wrap ((s.size : Int) - 4) = (s.size : Int) - 4 := by rw [IntKind.wrap_i64]; omega
    have w3 : IntKind.i64.wrap ((s.size : Int) - 3) = (s.size : Int) - 3 := by rw [IntKind.wrap_i64]; omega
    have t6 : ((s.size : Int) - 6).toNat = s.size - 6 := by omega
    have t4 : ((s.size : Int) - 4).toNat = s.size - 4 := by omega
    have t3 : ((s.size : Int) - 3).toNat = s.size - 3 := by omega
    have p6 : (0 : Int) ≤ (s.size : Int) - 6 := by omega
    have p4 : (0 : Int) ≤ (s.size : Int) - 4 := by omega
    have p3 : (0 : Int) ≤ (s.size : Int) - 3 := by omega
    have p64 : (s.size : Int) - 6 ≤ (s.size : Int) - 4 := by omega
    have p4s : (s.size : Int) - 4 ≤ (s.size : Int) := by omega
    have p3s : (s.size : Int) - 3 ≤ (s.size : Int) := by omega
    have HQ := Lib.hid hq
    clear hq
    refine wp_region_later (by kernel_rfl) (by kernel_rfl) ?_
    repeat (first | go_big_quiet_step (fail) | quiet_step (fail))
    refine wpQuiet_nil ?_
    intro _ hw'
    obtain ⟨s9, hw''⟩ := hw'
    subst hw''
    have hb := s9.below
    generalize s9.w = V1 at hb ⊢
    clear s9 w6 w4 w3 t6 t4 t3 p6 p4 p3 p64 p4s p3s
    have hDs : (s.extract (s.size - 6) (s.size - 4) ++ s.extract (s.size - 3) s.size).size = 5 := by rw [ByteArray.size_append, ByteArray.size_extract, ByteArray.size_extract]; omega
    generalize hD : s.extract (s.size - 6) (s.size - 4) ++ s.extract (s.size - 3) s.size = D at *
    have HD := Lib.hid hD
    clear hD
    have HDG := Lib.hid (show ∀ m : Nat, s = ttB m → ∀ j, j < D.size → isDg (bytR D j) from fun m e j hj => (by
      have h1 := tt_dig e
      rw [HD.out] at h1
      have h2 := mem_bytR hj
      rw [h1] at h2
      exact dig_dg m _ h2))
    have HDV := Lib.hid (show ∀ m : Nat, s = ttB m → (valA 0 D.data.toList : Nat) = m / 1000 % 60 * 1000 + m % 1000 from fun m e => (by
      have h1 := tt_dig e
      rw [HD.out] at h1
      rw [h1]; exact vdig m))
    clear HD
    have HE := Lib.hid (show ∀ m : Nat, s = ttB m → s.extract 0 (s.size - 7) = sgB ((m / 60000 : Nat) : Int) from fun m e => (by rw [sgB_nat]; exact tt_min e))
    go_wp2_with fail
    go_loopw [6, 7] (fun x i wr => ∃ (k : Nat) (n : Int), x = .int .i64 n ∧ i = .int .i64 k ∧ k ≤ 5 ∧ Hid (Spell D 0 k n) ∧ V1 = wr) (fun _ i _ => 5 - (intOf i).toNat)
    case atStart => exact ⟨0, 0, rfl, rfl, by omega, Lib.hid (spell_0 _ _), rfl⟩
    case round =>
      obtain ⟨k, n, rfl, rfl, hk, hS, rfl⟩ := hrel
      have hbn := spell_bound hS.out (by omega)
      by_cases h : k < 5
      · have h' : (k : Int) < 5 := by omega
        have hx : k < D.size := by omega
        have hx' : (k : Int) < (D.size : Int) := by omega
        have hDz := Lib.hid hDs
        clear hDs
        go_wp2_with fail
        all_goals first
          | (go_ret2; simp only [bytR_at] at *; exact ⟨rd_no (fun m _ e => (by have g := HDG.out m e k hx; unfold isDg at g; omega)), hb⟩)
          | (simp only [bytR_at] at *; have hd : isDg (bytR D k) := ⟨by omega, by omega⟩; have e1 : wrap64 (wrap64 (10 * n) + (((bytR D k).toNat : Int) - 48)) = n * 10 + (((bytR D k).toNat - 48 : Nat) : Int) := (by have g1 := hd.1; have g2 := hd.2; unfold wrap64; omega); exact ⟨⟨k + 1, n * 10 + (((bytR D k).toNat - 48 : Nat) : Int), (by first | rw [e1] | exact congrArg (Value.int .i64) (by have g1 := hd.1; omega)), by simp, by omega, Lib.hid (by have g := spell_step hS.out (show 0 + k < D.size by rw [Nat.zero_add]; exact hx) (by rw [Nat.zero_add]; exact hd); rw [Nat.zero_add] at g; exact g), trivial⟩, by simp [intOf]; omega⟩)
      · have h' : ¬ (k : Int) < 5 := by omega
        have hv := Lib.hid (spell_all hS.out (by omega))
        clear hS hDs
        go_wp2_with fail
        refine (l01Value_c (s.extract 0 (s.size - 7)) _ (by rw [ByteArray.size_extract]; omega)).mono ?_
        rintro e V2 ⟨⟨v, ok, hP, rfl⟩, hb2⟩
        have HP := Lib.hid hP
        clear hP
        cases ok
        case false =>
          have HN := Lib.hid (rd_no (s := s) (fun m hm e => by
            have := (HP.out.2.2 _ (by omega) (by omega) (HE.out m e)).1
            cases this))
          go_wp2_with fail
          all_goals (go_ret2; exact ⟨HN.out, hb.trans (hb2.mono hb.size)⟩)
        case true =>
          have HT := Lib.hid (show ∀ m : Nat, m ≤ 1000000000 → s = ttB m → wrap64 (wrap64 (60000 * v) + n) = (m : Int) from fun m hm e => (by
            have h1 := (HP.out.2.2 _ (by omega) (by omega) (HE.out m e)).2
            have h2 := HDV.out m e
            have h3 := hv.out
            rw [List.drop_zero, h2] at h3
            rw [h3, h1]
            exact tt_sum hm))
          clear HDG HDV HE hv HP
          go_wp2_with fail
          generalize wrap64 (wrap64 (60000 * v) + n) = t at *
          refine (TimeTextS_c t _).mono ?_
          rintro e V3 ⟨rfl, hb3⟩
          by_cases hq : s = ttR t
          · have hy := ttR_yes hq (by omega)
            have HY := Lib.hid (rd_yes hy.1 hy.2.1 hy.2.2)
            rw [← hq]
            clear hq hy
            go_wp2_with fail
            all_goals (go_ret2; exact ⟨HY.out, (hb.trans (hb2.mono hb.size)).trans (hb3.mono (hb.trans (hb2.mono hb.size)).size)⟩)
          · have HV := Lib.hid hq
            clear hq
            go_wp2_with fail
            all_goals first
              | (go_ret2; exact ⟨rd_no (fun m hm e => HV.out (by rw [HT.out m hm e, ttR_no hm]; exact e)), (hb.trans (hb2.mono hb.size)).trans (hb3.mono (hb.trans (hb2.mono hb.size)).size)⟩)
              | (exfalso; rename_i hh; exact HV.out (str_same (by simpa using hh)).symm)
end Go.Proofs.YtjgndfphbmkhaaaDoor
