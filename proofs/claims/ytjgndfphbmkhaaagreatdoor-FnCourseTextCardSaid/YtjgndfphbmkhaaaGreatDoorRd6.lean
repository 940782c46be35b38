/-
  Reading numbers: the program's side (strconv.ParseInt). Conditions: the text is short, the library's variables hold what they hold.
-/
import Derived.Test.YtjgndfphbmkhaaaGreatDoorRd5
import Derived.Test.YtjgndfphbmkhaaaGreatDoorShelfB
namespace Go.Proofs.YtjgndfphbmkhaaaGreatDoor
set_option linter.unusedVariables false
open Go.RowKit Go.Deep

def IfaceAt (w : World) (g : Nat) : Prop := ∃ tp p, w.cell? ⟨g, 0, none⟩ = some (.iface tp p)
theorem IfaceAt.below {w w' : World} {g : Nat} (h : IfaceAt w g) (hb : Below w.heap.size w w') : IfaceAt w' g := by
  obtain ⟨tp, p, hc⟩ := h
  exact ⟨tp, p, (hb.cell (p := ⟨g, 0, none⟩) (Lib.lt_of_cell hc)).trans hc⟩
def NumT (w : World) : Prop := Tab w ∧ IfaceAt w 4 ∧ IfaceAt w 5
theorem NumT.below {w w' : World} (h : NumT w) (hb : Below w.heap.size w w') : NumT w' := ⟨Tab.below h.1 hb, h.2.1.below hb, h.2.2.below hb⟩
theorem sg_inj {n m : Int} (h : sgB n = sgB m) : n = m := by
  have e : (sgB n).data.toList = (sgB m).data.toList := by rw [h]
  rw [sg_list, sg_list] at e
  have no : ∀ k : Nat, ∀ l, Lib.decDigits k ≠ 45 :: l := fun k l g => by
    have := (dec_all k).1 45 (by rw [g]; simp)
    exact absurd this.1 (by decide)
  split at e
  · split at e
    · have := dec_inj e; omega
    · exact absurd e (no _ _)
  · split at e
    · exact absurd e.symm (no _ _)
    · have := dec_inj (List.cons.inj e).2; omega
theorem parse_sg {m : Int} (h0 : -1000000000000000 < m) (h1 : m < 1000000000000000) : Lib.parseIntB 64 (sgB m).data.toList = .ok m := by
  rw [sg_list]
  split
  · rw [parse_dec (by omega)]; congr 1; omega
  · rw [parse_neg (by omega) (by omega)]; congr 1; omega
theorem sg_size {m : Int} (h0 : -1000000000000000 < m) (h1 : m < 1000000000000000) : (sgB m).size ≤ 16 := by
  have e : (sgB m).size = (sgB m).data.toList.length := rfl
  rw [e, sg_list]
  split
  · have := pow_bound 15 m.toNat (by omega) (by decide); omega
  · have := pow_bound 15 (-m).toNat (by omega) (by decide); rw [List.length_cons]; omega
theorem parse_bd {l : List UInt8} {v : Int} (h : Lib.parseIntB 64 l = .ok v) : -9223372036854775808 ≤ v ∧ v ≤ 9223372036854775807 := by
  match l with
  | [] => simp [Lib.parseIntB] at h
  | c :: r =>
    simp only [Lib.parseIntB] at h
    split at h
    · cases h
    · cases h
    · rename_i u _
      split at h
      · cases h
      · rename_i h1
        split at h
        · cases h
        · rename_i h2
          cases h
          by_cases hc : c.toNat = 45
          · simp only [hc, true_and] at h2
            simp only [hc, if_true]
            omega
          · simp only [hc, not_false_eq_true, true_and] at h1
            simp only [hc, if_false]
            omega
theorem parseI_c (s : ByteArray) (w : World) (hs : s.size ≤ 1048576) (ht : NumT w) : Calls Tryz.prog 66 #[.string s, .int .i64 10, .int .i64 64] w fun e w' => (∃ v er, e = .returned (.tuple #[.int .i64 v, er]) ∧ ((er = .nilIface ∧ Lib.parseIntB 64 s.data.toList = .ok v) ∨ ((∃ p, er = .iface 117 p) ∧ ∀ u, Lib.parseIntB 64 s.data.toList ≠ .ok u))) ∧ Below w.heap.size w w' := by
  obtain ⟨_, ⟨t1, p1, hc1⟩, ⟨t2, p2, hc2⟩⟩ := ht
  rcases h : Lib.parseIntB 64 s.data.toList with v | _ | _
  · refine (Tryz.strconv_ParseInt_10_at64_ok s (by omega) v h w).mono ?_
    rintro e w' ⟨rfl, hw⟩
    refine ⟨⟨v, _, rfl, .inl ⟨rfl, rfl⟩⟩, ?_⟩
    rcases hw with rfl | ⟨t, rfl⟩
    · exact Below.refl _ _
    · exact Lib.bytesWorld_below _ _ _
  · refine (Any.strconv_ParseInt_10_at64_syntax Tryz.laysC174 s (by omega) h _ w hc1 (.inr ⟨_, _, rfl⟩)).mono ?_
    rintro e w' ⟨N, rfl, _, _, hb⟩
    exact ⟨⟨_, _, rfl, .inr ⟨⟨_, rfl⟩, fun u e => (by cases e)⟩⟩, hb⟩
  · refine (Tryz.strconv_ParseInt_10_at64_range s (by omega) h _ w hc2 (.inr ⟨_, _, rfl⟩)).mono ?_
    rintro e w' ⟨N, rfl, _, _, hb⟩
    exact ⟨⟨_, _, rfl, .inr ⟨⟨_, rfl⟩, fun u e => (by cases e)⟩⟩, hb⟩
set_option maxRecDepth 100000 in
set_option maxHeartbeats 4000000 in
theorem number_c (s : ByteArray) (w : World) (hs : s.size ≤ 1048576) (ht : NumT w) : Calls Tryz.prog 42 #[.string s] w fun e w' => LvE s e ∧ Below w.heap.size w w' := by
  have HT := Lib.hid ht
  have CP := Lib.hid (parseI_c s w hs ht)
  clear ht
  go_enter Tryz.func42, Tryz.ntmps42
  go_wp2_with fail
  refine CP.out.mono ?_
  rintro e V1 ⟨⟨v, er, rfl, ho⟩, hb1⟩
  have HT1 := Lib.hid (HT.out.below hb1)
  clear HT CP
  rcases ho with ⟨rfl, hp⟩ | ⟨⟨p, rfl⟩, hn⟩
  · have hbd := parse_bd hp
    have HPV := Lib.hid (show ∀ m : Int, -1000000000000000 < m → m < 1000000000000000 → s = sgB m → v = m from fun m h0 h1 e => (by
      rw [e, parse_sg h0 h1] at hp
      cases hp; rfl))
    clear hp
    by_cases hz : s.size ≤ 19
    · have hz' : ¬ (19 : Int) < (s.size : Int) := by omega
      go_wp2_with fail
      refine (textI_c v _ hbd.1 hbd.2 HT1.out.1).mono ?_
      rintro e V2 ⟨rfl, hb2⟩
      by_cases hq : s = sgB v
      · have HY := Lib.hid (lv_yes hq (fun m e => sg_inj (hq.symm.trans e)))
        rw [← hq]
        clear hq
        go_wp2_with fail
        all_goals (go_ret2; exact ⟨HY.out, hb1.trans (hb2.mono hb1.size)⟩)
      · have HV := Lib.hid hq
        clear hq
        go_wp2_with fail
        all_goals first
          | (go_ret2; exact ⟨lv_no (fun m h0 h1 e => HV.out (by rw [HPV.out m h0 h1 e]; exact e)), hb1.trans (hb2.mono hb1.size)⟩)
          | (exfalso; rename_i hh; simp at hh; exact HV.out (str_same hh.2).symm)
    · have hz' : (19 : Int) < (s.size : Int) := by omega
      have HN := Lib.hid (lv_no (s := s) (fun m h0 h1 e => (by have := sg_size h0 h1; rw [← e] at this; omega)))
      go_wp2_with fail
      all_goals (go_ret2; exact ⟨HN.out, hb1⟩)
  · have HN := Lib.hid (lv_no (s := s) (fun m h0 h1 e => hn m (by rw [e]; exact parse_sg h0 h1)))
    clear hn
    go_wp2_with fail
    all_goals (go_ret2; exact ⟨HN.out, hb1⟩)
end Go.Proofs.YtjgndfphbmkhaaaGreatDoor
