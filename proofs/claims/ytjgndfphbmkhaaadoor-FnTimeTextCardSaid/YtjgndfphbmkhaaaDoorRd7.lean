/-
  Reading a time: the program's side. Conditions: the text is short, the library's variables hold what they hold.
-/
import Derived.Test.YtjgndfphbmkhaaaDoorRd6
import Derived.Test.YtjgndfphbmkhaaaDoorShelfA
namespace Go.Proofs.YtjgndfphbmkhaaaDoor
set_option linter.unusedVariables false
open Go.RowKit Go.Deep

/-- the library's variables that reading a time looks at -/
def RdT (w : World) : Prop := NumT w ∧ ∃ m, w.cell? ⟨0, 0, none⟩ = some (.int .i64 m)
theorem RdT.below {w w' : World} (h : RdT w) (hb : Below w.heap.size w w') : RdT w' := by
  obtain ⟨h1, m, hc⟩ := h
  exact ⟨h1.below hb, m, (hb.cell (p := ⟨_, 0, none⟩) (Lib.lt_of_cell hc)).trans hc⟩
theorem drewN_below (w : World) (n : Nat) : Below w.heap.size w (w.drewN n) := by
  exact ⟨rfl, rfl, rfl, Nat.le_refl _, fun k hk => rfl⟩
theorem atoi_c (s : ByteArray) (w : World) (hs : s.size ≤ 1048576) (ht : NumT w) : Calls Tryd.prog 29 #[.string s] w fun e w' => (∃ v er, e = .returned (.tuple #[.int .i64 v, er]) ∧ ((er = .nilIface ∧ Lib.parseIntB 64 s.data.toList = .ok v) ∨ ((∃ p, er = .iface 107 p) ∧ ∀ u, Lib.parseIntB 64 s.data.toList ≠ .ok u))) ∧ Below w.heap.size w w' := by
  obtain ⟨_, ⟨t1, p1, hc1⟩, ⟨t2, p2, hc2⟩⟩ := ht
  rcases h : Lib.parseIntB 64 s.data.toList with v | _ | _
  · rw [Lib.parseIntB_64] at h
    refine (Tryd.strconv_Atoi_ok s (by omega) v h w).mono ?_
    rintro e w' ⟨rfl, hw⟩
    refine ⟨⟨v, _, rfl, .inl ⟨rfl, rfl⟩⟩, ?_⟩
    rcases hw with rfl | ⟨t, rfl⟩
    · exact Below.refl _ _
    · exact Lib.bytesWorld_below _ _ _
  · rw [Lib.parseIntB_64] at h
    refine (Any.strconv_Atoi_syntax Tryd.laysC172 s (by omega) h _ w hc1 (.inr ⟨_, _, rfl⟩)).mono ?_
    rintro e w' ⟨N, rfl, _, _, hb⟩
    exact ⟨⟨_, _, rfl, .inr ⟨⟨_, rfl⟩, fun u e => (by cases e)⟩⟩, hb⟩
  · rw [Lib.parseIntB_64] at h
    refine (Tryd.strconv_Atoi_range s (by omega) h _ w hc2 (.inr ⟨_, _, rfl⟩)).mono ?_
    rintro e w' ⟨N, rfl, _, _, hb⟩
    exact ⟨⟨_, _, rfl, .inr ⟨⟨_, rfl⟩, fun u e => (by cases e)⟩⟩, hb⟩
theorem cut_c (s : ByteArray) (w : World) (hs : s.size ≤ 1048576) (ht : RdT w) : Calls Tryd.prog 26 #[.string s, .string ⟨#[58]⟩] w fun e w' => (∃ a b ok, e = .returned (.tuple #[.string a, .string b, .bool ok]) ∧ a.size ≤ 1048576 ∧ b.size ≤ s.size ∧ ∀ m, s = ttB m → a = dgB (m / 60000) ∧ b.data.toList = lastD (m / 1000 % 60) 2 ++ 46 :: lastD (m % 1000) 3) ∧ Below w.heap.size w w' := by
  obtain ⟨_, m, hc⟩ := ht
  refine (Tryd.strings_Cut s ⟨#[58]⟩ m w (by omega) hc).mono ?_
  rintro e w' ⟨rfl, n, rfl⟩
  have hz : (Lib.cut s.data.toList (⟨#[58]⟩ : ByteArray).data.toList).1.length ≤ s.size ∧ (Lib.cut s.data.toList (⟨#[58]⟩ : ByteArray).data.toList).2.1.length ≤ s.size := by
    have hl : s.data.toList.length = s.size := rfl
    unfold Lib.cut
    split
    · simp only [List.length_take, List.length_drop]; omega
    · simp only [List.length_nil]; omega
  refine ⟨⟨_, _, _, rfl, ?_, ?_, fun m e => ?_⟩, drewN_below _ _⟩
  · have : (⟨(Lib.cut s.data.toList (⟨#[58]⟩ : ByteArray).data.toList).1.toArray⟩ : ByteArray).size = (Lib.cut s.data.toList (⟨#[58]⟩ : ByteArray).data.toList).1.length := by simp [ByteArray.size]
    rw [this]; omega
  · have : (⟨(Lib.cut s.data.toList (⟨#[58]⟩ : ByteArray).data.toList).2.1.toArray⟩ : ByteArray).size = (Lib.cut s.data.toList (⟨#[58]⟩ : ByteArray).data.toList).2.1.length := by simp [ByteArray.size]
    rw [this]; omega
  · rw [tt_cut e]
    exact ⟨rfl, rfl⟩
theorem rest_size {b : ByteArray} {m : Nat} (h : b.data.toList = lastD (m / 1000 % 60) 2 ++ 46 :: lastD (m % 1000) 3) : b.size = 6 := by
  have : b.data.toList.length = b.size := rfl
  rw [← this, h]
  simp [last_len]
theorem rest_sec {b : ByteArray} {m : Nat} (h : b.data.toList = lastD (m / 1000 % 60) 2 ++ 46 :: lastD (m % 1000) 3) : Lib.parseIntB 64 (b.extract 0 2).data.toList = .ok ((m / 1000 % 60 : Nat) : Int) := by
  rw [ext_list, h, List.drop_zero, show 2 - 0 = (lastD (m / 1000 % 60) 2).length by rw [last_len], List.take_left' rfl]
  have hv := vlast2 (n := m / 1000 % 60) (by omega)
  rw [parse_dg (last_dg _ _) (fun e => (by have := last_len (m / 1000 % 60) 2; rw [e] at this; cases this)) (by omega), hv]
theorem rest_mil {b : ByteArray} {m : Nat} (h : b.data.toList = lastD (m / 1000 % 60) 2 ++ 46 :: lastD (m % 1000) 3) : Lib.parseIntB 64 (b.extract 3 b.size).data.toList = .ok ((m % 1000 : Nat) : Int) := by
  have hz := rest_size h
  have e : lastD (m / 1000 % 60) 2 ++ 46 :: lastD (m % 1000) 3 = (lastD (m / 1000 % 60) 2 ++ [46]) ++ lastD (m % 1000) 3 := by simp
  have h3 : (lastD (m / 1000 % 60) 2 ++ [46]).length = 3 := by simp [last_len]
  rw [ext_list, h, hz, e, List.drop_left' h3, List.take_of_length_le (by simp [last_len])]
  have hv := vlast3 (n := m % 1000) (by omega)
  rw [parse_dg (last_dg _ _) (fun e => (by have := last_len (m % 1000) 3; rw [e] at this; cases this)) (by omega), hv]
theorem tt_sum2 {m : Nat} (hm : m ≤ 1000000000) : wrap64 (wrap64 (wrap64 (((m / 60000 : Nat) : Int) * 60000) + wrap64 (((m / 1000 % 60 : Nat) : Int) * 1000)) + ((m % 1000 : Nat) : Int)) = (m : Int) := by
  have e1 : wrap64 (((m / 60000 : Nat) : Int) * 60000) = ((m / 60000 : Nat) : Int) * 60000 := by unfold wrap64; omega
  have e2 : wrap64 (((m / 1000 % 60 : Nat) : Int) * 1000) = ((m / 1000 % 60 : Nat) : Int) * 1000 := by unfold wrap64; omega
  have e3 : wrap64 (((m / 60000 : Nat) : Int) * 60000 + ((m / 1000 % 60 : Nat) : Int) * 1000) = ((m / 60000 : Nat) : Int) * 60000 + ((m / 1000 % 60 : Nat) : Int) * 1000 := by unfold wrap64; omega
  have e4 : ((m / 60000 : Nat) : Int) * 60000 + ((m / 1000 % 60 : Nat) : Int) * 1000 + ((m % 1000 : Nat) : Int) = (m : Int) := by omega
  rw [e1, e2, e3, e4]
  unfold wrap64
  omega
set_option maxRecDepth 100000 in
set_option maxHeartbeats 4000000 in
theorem ReadTime_c (s : ByteArray) (w : World) (hs : s.size ≤ 1048576) (ht : RdT w) : Calls Tryd.prog 10 #[.string s] w fun e w' => RdE s e ∧ Below w.heap.size w w' := by
  have HT := Lib.hid ht
  have CC := Lib.hid (cut_c s w hs ht)
  clear ht
  go_enter Tryd.func10, Tryd.ntmps10
  go_wp2_with fail
  refine CC.out.mono ?_
  rintro e V1 ⟨⟨a, b, ok, rfl, ha, hbz, hcut⟩, hb1⟩
  have HC := Lib.hid hcut
  have HT1 := Lib.hid (HT.out.below hb1)
  clear HT CC hcut
  go_wp2_with fail
  refine (number_c a _ ha HT1.out.1).mono ?_
  rintro e V2 ⟨⟨m, ok2, hP, rfl⟩, hb2⟩
  have HP := Lib.hid hP
  have HT2 := Lib.hid (HT1.out.below hb2)
  have HB := hb1.trans (hb2.mono hb1.size)
  clear HT1 hP hb1 hb2
  have HA := Lib.hid (show ∀ t : Nat, t ≤ 1000000000 → s = ttB t → ok2 = true ∧ m = ((t / 60000 : Nat) : Int) from fun t h e => HP.out.2.2 _ (by omega) (by omega) (by rw [sgB_nat]; exact (HC.out t e).1))
  clear HP
  have CI := Lib.hid (fun w => within_c m 0 1000000000 w)
  have HM := Lib.hid (show ∀ t : Nat, t ≤ 1000000000 → s = ttB t → m = ((t / 60000 : Nat) : Int) from fun t h e => (HA.out t h e).2)
  have HIN := Lib.hid (show ∀ t : Nat, t ≤ 1000000000 → s = ttB t → inR m 0 1000000000 = true from fun t h e => (by have := (HA.out t h e).2; exact inR_mk (by omega) (by omega)))
  cases ok2
  · have HN := Lib.hid (rd_no (s := s) (fun t h e => (by have := (HA.out t h e).1; cases this)))
    clear HA HIN
    go_wp2_with fail
    all_goals (go_ret2; exact ⟨HN.out, HB⟩)
  · cases hin : inR m 0 1000000000
    · rw [hin] at CI HIN
      have HN := Lib.hid (rd_no (s := s) (fun t h e => (by have := HIN.out t h e; cases this)))
      clear HA HIN hin
      go_wp2_with (go_at_call 28; refine (CI.out _).mono ?_; rintro e w' ⟨rfl, rfl⟩)
      all_goals (go_ret2; exact ⟨HN.out, HB⟩)
    · rw [hin] at CI
      clear HIN hin
      by_cases h6 : b.size = 6
      · have h6' : ((b.size : Int) == 6) = true := by simp [h6]
        have HR := Lib.hid h6
        have p2 : (2 : Int) ≤ (b.size : Int) := by omega
        have p3 : (3 : Int) ≤ (b.size : Int) := by omega
        clear h6
        go_wp2_with (go_at_call 28; refine (CI.out _).mono ?_; rintro e w' ⟨rfl, rfl⟩)
        clear CI HA
        refine (atoi_c (b.extract 0 2) _ (by rw [ByteArray.size_extract]; omega) HT2.out.1).mono ?_
        rintro e V3 ⟨⟨v1, er1, rfl, ho1⟩, hb3⟩
        have HT3 := Lib.hid (HT2.out.below hb3)
        replace HB := HB.trans (hb3.mono HB.size)
        clear HT2 hb3
        have HO1 := Lib.hid ho1
        clear ho1
        go_wp2_with fail
        refine (atoi_c (b.extract 3 b.size) _ (by rw [ByteArray.size_extract]; omega) HT3.out.1).mono ?_
        rintro e V4 ⟨⟨v2, er2, rfl, ho2⟩, hb4⟩
        have HT4 := Lib.hid (HT3.out.below hb4)
        replace HB := HB.trans (hb4.mono HB.size)
        clear HT3 hb4
        rcases HO1.out with ⟨rfl, hp1⟩ | ⟨⟨q1, rfl⟩, hn1⟩
        case inr =>
          have HN := Lib.hid (rd_no (s := s) (fun t h e => hn1 _ (rest_sec (HC.out t e).2)))
          clear HO1 hn1 ho2
          go_wp2_with fail
          all_goals (go_ret2; exact ⟨HN.out, HB⟩)
        case inl =>
          have H1 := Lib.hid (show ∀ t : Nat, s = ttB t → v1 = ((t / 1000 % 60 : Nat) : Int) from fun t e => (by have g := rest_sec (HC.out t e).2; rw [hp1] at g; cases g; rfl))
          clear HO1 hp1
          rcases ho2 with ⟨rfl, hp2⟩ | ⟨⟨q2, rfl⟩, hn2⟩
          case inr =>
            have HN := Lib.hid (rd_no (s := s) (fun t h e => hn2 _ (rest_mil (HC.out t e).2)))
            clear hn2
            go_wp2_with fail
            all_goals (go_ret2; exact ⟨HN.out, HB⟩)
          case inl =>
            have H2 := Lib.hid (show ∀ t : Nat, s = ttB t → v2 = ((t % 1000 : Nat) : Int) from fun t e => (by have g := rest_mil (HC.out t e).2; rw [hp2] at g; cases g; rfl))
            clear hp2
            have HS := Lib.hid (show ∀ t : Nat, t ≤ 1000000000 → s = ttB t → wrap64 (wrap64 (wrap64 (m * 60000) + wrap64 (v1 * 1000)) + v2) = (t : Int) from fun t h e => (by rw [HM.out t h e, H1.out t e, H2.out t e]; exact tt_sum2 h))
            clear HM H1 H2 HC
            go_wp2_with fail
            generalize wrap64 (wrap64 (wrap64 (m * 60000) + wrap64 (v1 * 1000)) + v2) = t at *
            refine (TimeText_c t _ HT4.out.1.1).mono ?_
            rintro e V5 ⟨rfl, hb5⟩
            replace HB := HB.trans (hb5.mono HB.size)
            by_cases h0 : 1 ≤ s.size
            · by_cases hq : s = ttR t
              · have hy := ttR_yes hq h0
                have HY := Lib.hid (rd_yes hy.1 hy.2.1 hy.2.2)
                rw [← hq]
                clear hq hy
                go_wp2_with fail
                all_goals (go_ret2; exact ⟨HY.out, HB⟩)
              · have HV := Lib.hid hq
                clear hq
                go_wp2_with fail
                all_goals first
                  | (go_ret2; exact ⟨rd_no (fun m hm e => HV.out (by rw [HS.out m hm e, ttR_no hm]; exact e)), HB⟩)
                  | (exfalso; rename_i hh; exact HV.out (str_same (by simpa using hh)).symm)
            · exact absurd HR.out (by omega)
      · have h6' : ((b.size : Int) == 6) = false := by simp; omega
        have HN := Lib.hid (rd_no (s := s) (fun t h e => h6 (rest_size (HC.out t e).2)))
        clear HA h6
        go_wp2_with (go_at_call 28; refine (CI.out _).mono ?_; rintro e w' ⟨rfl, rfl⟩)
        all_goals (go_ret2; exact ⟨HN.out, HB⟩)
end Go.Proofs.YtjgndfphbmkhaaaDoor
