/-
  Reading numbers: the reference's l01Value. Condition: the text is short.
-/
import Derived.Test.YtjgndfphbmkhaaaDoorRd
import Derived.Test.YtjgndfphbmkhaaaDoorTxt4
namespace Go.Proofs.YtjgndfphbmkhaaaDoor
set_option linter.unusedVariables false
open Go.RowKit Go.Deep

/-- what a reader of numbers answers: a number whose text this is, and every short number's text is read -/
def LvP (s : ByteArray) (n : Int) (ok : Bool) : Prop := (ok = true → s = sgB n) ∧ (ok = false → n = 0) ∧ ∀ m : Int, -1000000000000000 < m → m < 1000000000000000 → s = sgB m → ok = true ∧ n = m
def LvE (s : ByteArray) (e : Ending) : Prop := ∃ (n : Int) (ok : Bool), LvP s n ok ∧ e = .returned (.tuple #[.int .i64 n, .bool ok])
theorem lv_no {s : ByteArray} (h : ∀ m : Int, -1000000000000000 < m → m < 1000000000000000 → s ≠ sgB m) : LvE s (.returned (.tuple #[.int .i64 0, .bool false])) := ⟨0, false, ⟨fun e => (by cases e), fun _ => rfl, fun m h1 h2 h3 => absurd h3 (h m h1 h2)⟩, rfl⟩
theorem lv_yes {s : ByteArray} {n : Int} (h : s = sgB n) (hi : ∀ m : Int, s = sgB m → n = m) : LvE s (.returned (.tuple #[.int .i64 n, .bool true])) := ⟨n, true, ⟨fun _ => h, fun e => (by cases e), fun m _ _ h3 => ⟨rfl, hi m h3⟩⟩, rfl⟩
def bytR (s : ByteArray) (k : Nat) : UInt8 := s.data.toList.getD k 0
theorem bytR_at (s : ByteArray) (k : Nat) (h : k < s.size) : (s[k]'h) = bytR s k := by
  obtain ⟨⟨l⟩⟩ := s
  have h' : k < l.length := h
  show l[k] = l.getD k 0
  rw [List.getD_eq_getElem?_getD, List.getElem?_eq_getElem h']; rfl
theorem sg_list (m : Int) : (sgB m).data.toList = if 0 ≤ m then Lib.decDigits m.toNat else 45 :: Lib.decDigits (-m).toNat := by
  split
  · rename_i h
    obtain ⟨n, rfl⟩ := Int.eq_ofNat_of_zero_le h
    rw [sgB_nat]
    rfl
  · rename_i h
    obtain ⟨n, rfl⟩ : ∃ n : Nat, m = -(n : Int) := ⟨(-m).toNat, by omega⟩
    rw [← sgB_neg (by omega)]
    simp [dgB, ByteArray.data_append]
/-- the bytes behind position d are digits that spell n -/
def Spell (s : ByteArray) (d k : Nat) (n : Int) : Prop := n = (valA 0 ((s.data.toList.drop d).take k) : Nat) ∧ ∀ c ∈ (s.data.toList.drop d).take k, isDg c
theorem spell_0 (s : ByteArray) (d : Nat) : Spell s d 0 0 := ⟨by simp [valA_nil], fun c h => by simp at h⟩
theorem size_list (s : ByteArray) : s.data.toList.length = s.size := rfl
theorem spell_step {s : ByteArray} {d k : Nat} {n : Int} (h : Spell s d k n) (hk : d + k < s.size) (hd : isDg (bytR s (d + k))) : Spell s d (k + 1) (n * 10 + ((bytR s (d + k)).toNat - 48 : Nat)) := by
  have e : (s.data.toList.drop d).take (k + 1) = (s.data.toList.drop d).take k ++ [bytR s (d + k)] := by
    have hl : k < (s.data.toList.drop d).length := by rw [List.length_drop, size_list]; omega
    rw [List.take_add_one, List.getElem?_eq_getElem hl]
    simp only [Option.toList, List.getElem_drop]
    congr 2
    unfold bytR
    rw [List.getD_eq_getElem?_getD, List.getElem?_eq_getElem (by rw [size_list]; omega)]; rfl
  obtain ⟨h1, h2⟩ := h
  refine ⟨?_, fun c hc => ?_⟩
  · rw [e, valA_snoc, h1]
    push_cast
    rfl
  · rw [e] at hc
    rcases List.mem_append.1 hc with g | g
    · exact h2 c g
    · rw [List.mem_singleton] at g
      rw [g]; exact hd
theorem valA_bound : ∀ (l : List UInt8) (acc : Nat), (∀ c ∈ l, isDg c) → valA acc l < (acc + 1) * 10 ^ l.length
  | [], acc, _ => by rw [valA_nil]; simp
  | c :: r, acc, h => by
    obtain ⟨h1, h2⟩ := h c (by simp)
    have := valA_bound r (acc * 10 + (c.toNat - 48)) (fun x hx => h x (by simp [hx]))
    rw [valA_cons]
    refine Nat.lt_of_lt_of_le this ?_
    rw [List.length_cons, Nat.pow_succ, Nat.mul_comm (10 ^ r.length) 10, ← Nat.mul_assoc]
    exact Nat.mul_le_mul_right _ (by omega)
theorem spell_bound {s : ByteArray} {d k : Nat} {n : Int} (h : Spell s d k n) (hk : k ≤ 15) : 0 ≤ n ∧ n < 1000000000000000 := by
  obtain ⟨h1, h2⟩ := h
  have := valA_bound _ 0 h2
  have hl : ((s.data.toList.drop d).take k).length ≤ 15 := by rw [List.length_take]; omega
  have hp : 10 ^ ((s.data.toList.drop d).take k).length ≤ 10 ^ 15 := Nat.pow_le_pow_right (by decide) hl
  omega
theorem spell_all {s : ByteArray} {d k : Nat} {n : Int} (h : Spell s d k n) (hk : d + k = s.size) : n = (valA 0 (s.data.toList.drop d) : Nat) := by
  have e : (s.data.toList.drop d).take k = s.data.toList.drop d := List.take_of_length_le (by rw [List.length_drop, size_list]; omega)
  rw [← e]; exact h.1
theorem lv_low {s : ByteArray} (h : s.size = 0) : ∀ m : Int, -1000000000000000 < m → m < 1000000000000000 → s ≠ sgB m := fun m _ _ e => by
  have h1 : s.data.toList.length = 0 := h
  rw [e, sg_list] at h1
  split at h1
  · exact (dec_all _).2.2 (List.eq_nil_of_length_eq_zero h1)
  · simp at h1
theorem ext_at (s : ByteArray) (k : Nat) (h : k < (s.extract 1 s.size).size) : ((s.extract 1 s.size)[k]'h) = bytR s (1 + k) := by
  have h2 : 1 + k < s.size := by rw [ByteArray.size_extract] at h; omega
  rw [← bytR_at s (1 + k) h2]
  simp [ByteArray.getElem_extract]
theorem sg_neg {s : ByteArray} {m : Int} (e : s = sgB m) (h0 : 0 < s.size) (h : (bytR s 0).toNat = 45) : m < 0 ∧ s.data.toList.drop 1 = Lib.decDigits (-m).toNat := by
  have hl := sg_list m
  rw [← e] at hl
  split at hl
  · exfalso
    obtain ⟨d1, _, d3⟩ := dec_all m.toNat
    rw [← hl] at d1 d3
    have : bytR s 0 ∈ s.data.toList := by
      unfold bytR
      rw [List.getD_eq_getElem?_getD, List.getElem?_eq_getElem (show 0 < s.data.toList.length from h0)]
      exact List.getElem_mem _
    have := (d1 _ this).1
    omega
  · exact ⟨by omega, by rw [hl]; rfl⟩
theorem sg_pos {s : ByteArray} {m : Int} (e : s = sgB m) (h0 : 0 < s.size) (h : ¬ (bytR s 0).toNat = 45) : 0 ≤ m ∧ s.data.toList.drop 0 = Lib.decDigits m.toNat := by
  have hl := sg_list m
  rw [← e] at hl
  split at hl
  · exact ⟨by assumption, hl⟩
  · exfalso
    refine h ?_
    unfold bytR
    rw [hl]
    rfl
theorem drop_dg {s : ByteArray} {d n : Nat} (h : s.data.toList.drop d = Lib.decDigits n) {k : Nat} (hk : d + k < s.size) : isDg (bytR s (d + k)) := by
  refine (dec_all n).1 _ ?_
  rw [← h]
  have hl : k < (s.data.toList.drop d).length := by rw [List.length_drop, size_list]; omega
  have e : bytR s (d + k) = (s.data.toList.drop d)[k] := by
    rw [List.getElem_drop]
    unfold bytR
    rw [List.getD_eq_getElem?_getD, List.getElem?_eq_getElem (by rw [size_list]; omega)]; rfl
  rw [e]
  exact List.getElem_mem _
theorem drop_len {s : ByteArray} {d n : Nat} (h : s.data.toList.drop d = Lib.decDigits n) : s.size - d = (Lib.decDigits n).length := by
  rw [← h, List.length_drop, size_list]
theorem pow_bound : ∀ (k : Nat) (n : Nat), n < 10 ^ k → 1 ≤ k → (Lib.decDigits n).length ≤ k
  | 0, n, _, h => by omega
  | k + 1, n, hn, _ => by
    by_cases h : n < 10
    · rw [Lib.decDigits_one h]; simp
    · have e : Lib.decDigits n = Lib.decDigits (n / 10) ++ [UInt8.ofNat (48 + n % 10)] := by
        conv => lhs; rw [Lib.decDigits]
        rw [dif_neg h]
      have hk : 1 ≤ k := by
        rcases Nat.eq_zero_or_pos k with g | g
        · subst g; simp at hn; omega
        · exact g
      have := pow_bound k (n / 10) (by rw [Nat.pow_succ] at hn; exact Nat.div_lt_of_lt_mul (by rw [Nat.mul_comm]; exact hn)) hk
      rw [e, List.length_append]
      simp
      omega
theorem str_beqR (a b : ByteArray) : (a.toList == b.toList) = true ↔ a = b := by
  rw [← beq_toListBytes]
  obtain ⟨x⟩ := a
  obtain ⟨y⟩ := b
  constructor
  · intro h
    have e : x = y := by simpa using (show (x == y) = true from h)
    rw [e]
  · intro h
    cases h
    show (x == x) = true
    simp
theorem str_same {a b : ByteArray} (h : a.toList = b.toList) : a = b := (str_beqR a b).1 (by rw [h]; simp)
set_option maxRecDepth 100000 in
set_option maxHeartbeats 16000000 in
theorem l01Value_c (s : ByteArray) (w : World) (hs : s.size ≤ 1048576) : Calls Tryd.prog 25 #[.string s] w fun e w' => LvE s e ∧ Below w.heap.size w w' := by
  by_cases h0 : 0 < s.size
  case neg =>
    have hz : s.size = 0 := by omega
    have h0' : ¬ (0 : Int) < (s.size : Int) := by omega
    have h1' : (s.size : Int) < 1 := by omega
    have HN := Lib.hid (lv_no (lv_low hz))
    clear hz
    go_enter Tryd.func25, Tryd.ntmps25
    go_wp2_with fail
    go_ret2
    exact ⟨HN.out, Below.refl _ _⟩
  case pos =>
    have h0' : (0 : Int) < (s.size : Int) := by omega
    have eb := bytR_at s 0 h0
    by_cases h45 : (bytR s 0).toNat = 45
    case pos =>
      have e45 : (((s[0]'h0).toNat : Int) == 45) = true := by rw [eb]; simp [h45]
      by_cases hsz : 2 ≤ s.size ∧ s.size ≤ 16
      case neg =>
        have HN := Lib.hid (lv_no (s := s) (fun m g1 g2 e => by
          obtain ⟨m0, hl⟩ := sg_neg e h0 h45
          have hlen := drop_len hl
          have hb := pow_bound 15 (-m).toNat (by omega) (by decide)
          have h3 := (dec_all (-m).toNat).2.2
          have h4 : 0 < (Lib.decDigits (-m).toNat).length := List.length_pos_iff.2 h3
          omega))
        have l3 : (((s.size - 1 : Nat) : Nat) : Int) < 1 ∨ ¬ (((s.size - 1 : Nat) : Nat) : Int) < 1 ∧ (15 : Int) < (((s.size - 1 : Nat) : Nat) : Int) := by omega
        rcases l3 with l3 | ⟨l3, l4⟩
        · go_enter Tryd.func25, Tryd.ntmps25
          go_wp2_with fail
          all_goals (go_ret2; exact ⟨HN.out, Below.refl _ _⟩)
        · go_enter Tryd.func25, Tryd.ntmps25
          go_wp2_with fail
          go_ret2
          exact ⟨HN.out, Below.refl _ _⟩
      case pos =>
        have l1 : ¬ (((s.size - 1 : Nat) : Nat) : Int) < 1 := by omega
        have l2 : ¬ (15 : Int) < (((s.size - 1 : Nat) : Nat) : Int) := by omega
        go_enter Tryd.func25, Tryd.ntmps25
        go_wp2_with fail
        go_loopw [5, 6] (fun x i wr => ∃ (k : Nat) (n : Int), x = .int .i64 n ∧ i = .int .i64 k ∧ 1 + k ≤ s.size ∧ Hid (Spell s 1 k n) ∧ w = wr) (fun _ i _ => s.size - (intOf i).toNat)
        case atStart => exact ⟨0, 0, rfl, rfl, by omega, Lib.hid (spell_0 _ _), rfl⟩
        case round =>
          obtain ⟨k, n, rfl, rfl, hk, hS, rfl⟩ := hrel
          have hb := spell_bound hS.out (by omega)
          by_cases h : 1 + k < s.size
          · have h' : (k : Int) < (((s.size - 1 : Nat) : Nat) : Int) := by omega
            have hx : k < (s.size - 1 : Nat) := by omega
            go_wp2_with fail
            all_goals first
              | (go_ret2; simp only [ext_at] at *; exact ⟨lv_no (fun m _ _ e => (by have g := drop_dg (sg_neg e h0 h45).2 (k := k) (by omega); unfold isDg at g; omega)), Below.refl _ _⟩)
              | (simp only [ext_at] at *; have hd : isDg (bytR s (1 + k)) := ⟨by omega, by omega⟩; have e1 : wrap64 (wrap64 (10 * n) + (((bytR s (1 + k)).toNat : Int) - 48)) = n * 10 + (((bytR s (1 + k)).toNat - 48 : Nat) : Int) := (by have g1 := hd.1; have g2 := hd.2; unfold wrap64; omega); exact ⟨⟨k + 1, n * 10 + (((bytR s (1 + k)).toNat - 48 : Nat) : Int), (by first | rw [e1] | exact congrArg (Value.int .i64) (by have g1 := hd.1; omega)), by simp, by omega, Lib.hid (spell_step hS.out (by omega) hd), trivial⟩, by simp [intOf]; omega⟩)
          · have h' : ¬ (k : Int) < (((s.size - 1 : Nat) : Nat) : Int) := by omega
            have hw : wrap64 (-n) = -n := by unfold wrap64; omega
            have hv := Lib.hid (spell_all hS.out (by omega))
            go_wp2_with fail
            refine (l01Signed_c (-n) _ (by omega) (by omega)).mono ?_
            rintro e w1 ⟨rfl, hb9⟩
            by_cases hq : s = sgB (-n)
            · have HY := Lib.hid (lv_yes hq (fun m e => by
                obtain ⟨m0, hl⟩ := sg_neg e h0 h45
                have hv := hv.out
                rw [hl, (dec_all _).2.1] at hv
                omega))
              rw [← hq]
              clear hq
              go_wp2_with fail
              all_goals (go_ret2; exact ⟨HY.out, hb9⟩)
            · have HV := Lib.hid hq
              clear hq
              go_wp2_with fail
              all_goals first
                | (go_ret2; exact ⟨lv_no (fun m _ _ e => HV.out (by
                    obtain ⟨m0, hl⟩ := sg_neg e h0 h45
                    have hv := hv.out
                    rw [hl, (dec_all _).2.1] at hv
                    rw [e]
                    congr 1
                    omega)), hb9⟩)
                | (exfalso; rename_i hh; exact HV.out (str_same (by simpa using hh)).symm)
    case neg =>
      have e45 : (((s[0]'h0).toNat : Int) == 45) = false := by rw [eb]; simp; omega
      by_cases hsz : 1 ≤ s.size ∧ s.size ≤ 15
      case neg =>
        have HN := Lib.hid (lv_no (s := s) (fun m g1 g2 e => by
          obtain ⟨m0, hl⟩ := sg_pos e h0 h45
          have hlen := drop_len hl
          have hb := pow_bound 15 m.toNat (by omega) (by decide)
          have h3 := (dec_all m.toNat).2.2
          have h4 : 0 < (Lib.decDigits m.toNat).length := List.length_pos_iff.2 h3
          omega))
        have l3 : ((s.size : Nat) : Int) < 1 ∨ ¬ ((s.size : Nat) : Int) < 1 ∧ (15 : Int) < ((s.size : Nat) : Int) := by omega
        rcases l3 with l3 | ⟨l3, l4⟩
        · go_enter Tryd.func25, Tryd.ntmps25
          go_wp2_with fail
          all_goals (go_ret2; exact ⟨HN.out, Below.refl _ _⟩)
        · go_enter Tryd.func25, Tryd.ntmps25
          go_wp2_with fail
          go_ret2
          exact ⟨HN.out, Below.refl _ _⟩
      case pos =>
        have l1 : ¬ ((s.size : Nat) : Int) < 1 := by omega
        have l2 : ¬ (15 : Int) < ((s.size : Nat) : Int) := by omega
        go_enter Tryd.func25, Tryd.ntmps25
        go_wp2_with fail
        go_loopw [5, 6] (fun x i wr => ∃ (k : Nat) (n : Int), x = .int .i64 n ∧ i = .int .i64 k ∧ 0 + k ≤ s.size ∧ Hid (Spell s 0 k n) ∧ w = wr) (fun _ i _ => s.size - (intOf i).toNat)
        case atStart => exact ⟨0, 0, rfl, rfl, by omega, Lib.hid (spell_0 _ _), rfl⟩
        case round =>
          obtain ⟨k, n, rfl, rfl, hk, hS, rfl⟩ := hrel
          have hb := spell_bound hS.out (by omega)
          by_cases h : 0 + k < s.size
          · have h' : (k : Int) < ((s.size : Nat) : Int) := by omega
            have hx : k < s.size := by omega
            go_wp2_with fail
            all_goals first
              | (go_ret2; simp only [bytR_at] at *; exact ⟨lv_no (fun m _ _ e => (by have g := drop_dg (sg_pos e h0 h45).2 (k := k) (by omega); rw [Nat.zero_add] at g; unfold isDg at g; omega)), Below.refl _ _⟩)
              | (simp only [bytR_at] at *; have hd : isDg (bytR s k) := ⟨by omega, by omega⟩; have e1 : wrap64 (wrap64 (10 * n) + (((bytR s k).toNat : Int) - 48)) = n * 10 + (((bytR s k).toNat - 48 : Nat) : Int) := (by have g1 := hd.1; have g2 := hd.2; unfold wrap64; omega); exact ⟨⟨k + 1, n * 10 + (((bytR s k).toNat - 48 : Nat) : Int), (by first | rw [e1] | exact congrArg (Value.int .i64) (by have g1 := hd.1; omega)), by simp, by omega, Lib.hid (by have g := spell_step hS.out (show 0 + k < s.size by omega) (by rw [Nat.zero_add]; exact hd); rw [Nat.zero_add] at g; exact g), trivial⟩, by simp [intOf]; omega⟩)
          · have h' : ¬ (k : Int) < ((s.size : Nat) : Int) := by omega
            have hw : wrap64 (-n) = -n := by unfold wrap64; omega
            have hv := Lib.hid (spell_all hS.out (by omega))
            go_wp2_with fail
            refine (l01Signed_c n _ (by omega) (by omega)).mono ?_
            rintro e w1 ⟨rfl, hb9⟩
            by_cases hq : s = sgB n
            · have HY := Lib.hid (lv_yes hq (fun m e => by
                obtain ⟨m0, hl⟩ := sg_pos e h0 h45
                have hv := hv.out
                rw [hl, (dec_all _).2.1] at hv
                omega))
              rw [← hq]
              clear hq
              go_wp2_with fail
              all_goals (go_ret2; exact ⟨HY.out, hb9⟩)
            · have HV := Lib.hid hq
              clear hq
              go_wp2_with fail
              all_goals first
                | (go_ret2; exact ⟨lv_no (fun m _ _ e => HV.out (by
                    obtain ⟨m0, hl⟩ := sg_pos e h0 h45
                    have hv := hv.out
                    rw [hl, (dec_all _).2.1] at hv
                    rw [e]
                    congr 1
                    omega)), hb9⟩)
                | (exfalso; rename_i hh; exact HV.out (str_same (by simpa using hh)).symm)
end Go.Proofs.YtjgndfphbmkhaaaDoor
