/-
  Reading numbers: the plain law (the text of a number spells that number). No condition; no program is named.
  Reading numbers: the reference's l01Value. Condition: the text is short.
  Reading a time: the reference's side. Condition: the text is short.
  Reading a time: plain laws about the text's parts. No condition; no program is named.
-/
import Derived.Test.YtjgndfphbmkhaaaGreatDoorTxt4
import Derived.Lib.ParseIntBTie
import Derived.Lib.CutLaws
import Derived.Lib.IndexBytes
namespace Go.Proofs.YtjgndfphbmkhaaaGreatDoor
section
set_option linter.unusedVariables false
open Go.RowKit Go.Deep

/-- what digits spell -/
def valA : Nat → List UInt8 → Nat
  | acc, [] => acc
  | acc, c :: r => valA (acc * 10 + (c.toNat - 48)) r
theorem valA_nil (acc : Nat) : valA acc [] = acc := by unfold valA; rfl
theorem valA_cons (acc : Nat) (c : UInt8) (r : List UInt8) : valA acc (c :: r) = valA (acc * 10 + (c.toNat - 48)) r := by conv => lhs; unfold valA
def isDg (c : UInt8) : Prop := 48 ≤ c.toNat ∧ c.toNat ≤ 57
theorem valA_le : ∀ (l : List UInt8) (acc : Nat), acc ≤ valA acc l
  | [], acc => by rw [valA_nil]; exact Nat.le_refl _
  | c :: r, acc => by
    have := valA_le r (acc * 10 + (c.toNat - 48))
    rw [valA_cons]
    omega
theorem valA_snoc : ∀ (l : List UInt8) (acc : Nat) (c : UInt8), valA acc (l ++ [c]) = valA acc l * 10 + (c.toNat - 48)
  | [], acc, c => by rw [List.nil_append, valA_cons, valA_nil, valA_nil]
  | d :: r, acc, c => by rw [List.cons_append, valA_cons, valA_cons, valA_snoc r]
theorem dg_nat {n : Nat} (h : n < 10) : (UInt8.ofNat (48 + n)).toNat = 48 + n := by
  match n, h with
  | 0, _ => rfl
  | 1, _ => rfl
  | 2, _ => rfl
  | 3, _ => rfl
  | 4, _ => rfl
  | 5, _ => rfl
  | 6, _ => rfl
  | 7, _ => rfl
  | 8, _ => rfl
  | 9, _ => rfl
theorem dec_all : ∀ n : Nat, (∀ c ∈ Lib.decDigits n, isDg c) ∧ valA 0 (Lib.decDigits n) = n ∧ Lib.decDigits n ≠ [] := by
  intro n
  induction n using Nat.strongRecOn with
  | _ n ih =>
    by_cases h : n < 10
    · rw [Lib.decDigits_one h]
      refine ⟨fun c hc => ?_, ?_, by simp⟩
      · rw [List.mem_singleton] at hc
        subst hc
        have := dg_nat h
        unfold isDg
        omega
      · rw [valA_cons, valA_nil, dg_nat h]
        omega
    · obtain ⟨i1, i2, i3⟩ := ih (n / 10) (by omega)
      have e : Lib.decDigits n = Lib.decDigits (n / 10) ++ [UInt8.ofNat (48 + n % 10)] := by
        conv => lhs; rw [Lib.decDigits]
        rw [dif_neg h]
      have hd := dg_nat (n := n % 10) (by omega)
      rw [e]
      refine ⟨fun c hc => ?_, ?_, by simp⟩
      · rcases List.mem_append.1 hc with g | g
        · exact i1 c g
        · rw [List.mem_singleton] at g
          subst g
          unfold isDg
          omega
      · rw [valA_snoc, i2, hd]
        omega
theorem dec_inj {a b : Nat} (h : Lib.decDigits a = Lib.decDigits b) : a = b := by
  have := (dec_all a).2.1
  rw [h, (dec_all b).2.1] at this
  exact this.symm
theorem parseM_ok : ∀ (l : List UInt8) (M acc : Nat), (∀ c ∈ l, isDg c) → valA acc l ≤ 9223372036854775808 → 9223372036854775808 ≤ M → Lib.parseUintM M acc l = .ok (valA acc l)
  | [], M, acc, _, _, _ => by rw [valA_nil]; rfl
  | c :: r, M, acc, hd, hv, hM => by
    obtain ⟨d1, d2⟩ := hd c (by simp)
    have hm := valA_le r (acc * 10 + (c.toNat - 48))
    rw [valA_cons] at hv ⊢
    simp only [Lib.parseUintM]
    rw [if_pos ⟨d1, d2⟩, if_neg (by omega), if_neg (by omega)]
    exact parseM_ok r M _ (fun x hx => hd x (by simp [hx])) hv hM
theorem parse_dec {n : Nat} (h : n < 9223372036854775808) : Lib.parseIntB 64 (Lib.decDigits n) = .ok (n : Int) := by
  obtain ⟨h1, h2, h3⟩ := dec_all n
  match hl : Lib.decDigits n with
  | [] => exact absurd hl h3
  | c :: r =>
    rw [hl] at h1 h2
    obtain ⟨d1, d2⟩ := h1 c (by simp)
    have hp : Lib.parseUintB 64 (c :: r) = .ok n := by
      unfold Lib.parseUintB
      rw [if_neg (by simp), parseM_ok _ _ _ h1 (by rw [h2]; omega) (by decide), h2]
    simp only [Lib.parseIntB]
    rw [if_neg (by omega), hp]
    simp only
    have d3 : ¬ c.toNat = 45 := by omega
    simp only [d3, not_false_eq_true, true_and, false_and, if_false]
    rw [if_neg (by omega)]
theorem parse_neg {n : Nat} (h1 : 1 ≤ n) (h : n ≤ 9223372036854775808) : Lib.parseIntB 64 (45 :: Lib.decDigits n) = .ok (-(n : Int)) := by
  obtain ⟨h1, h2, h3⟩ := dec_all n
  have hp : Lib.parseUintB 64 (Lib.decDigits n) = .ok n := by
    unfold Lib.parseUintB
    rw [if_neg h3, parseM_ok _ _ _ h1 (by rw [h2]; omega) (by decide), h2]
  simp only [Lib.parseIntB]
  rw [if_pos (.inr (by decide)), hp]
  have d3 : (45 : UInt8).toNat = 45 := rfl
  simp only [d3, not_true_eq_false, true_and, false_and, if_false, if_true]
  rw [if_neg (by omega)]
theorem last_len (n k : Nat) : (lastD n k).length = k := lastD_len n k
theorem last_dg (n : Nat) : ∀ k, ∀ c ∈ lastD n k, isDg c
  | 0, c, h => by simp [lastD] at h
  | k + 1, c, h => by
    simp only [lastD, List.mem_cons] at h
    rcases h with rfl | h
    · have := dg_nat (n := n / 10 ^ k % 10) (by omega)
      unfold isDg
      omega
    · exact last_dg n k c h
theorem vlast2 {n : Nat} (h : n < 100) : valA 0 (lastD n 2) = n := by
  have a := dg_nat (n := n / 10 ^ 1 % 10) (by omega)
  have b := dg_nat (n := n / 10 ^ 0 % 10) (by omega)
  simp only [lastD, valA_cons, valA_nil, a, b]
  omega
theorem vlast3 {n : Nat} (h : n < 1000) : valA 0 (lastD n 3) = n := by
  have a := dg_nat (n := n / 10 ^ 2 % 10) (by omega)
  have b := dg_nat (n := n / 10 ^ 1 % 10) (by omega)
  have c := dg_nat (n := n / 10 ^ 0 % 10) (by omega)
  simp only [lastD, valA_cons, valA_nil, a, b, c]
  omega
/-- the text of a time, as a list of bytes -/
theorem ttB_list (n : Nat) : (ttB n).data.toList = Lib.decDigits (n / 60000) ++ (58 :: (lastD (n / 1000 % 60) 2 ++ 46 :: lastD (n % 1000) 3)) := by
  simp [ttB, dgB, lastB, ByteArray.data_append]
theorem ttB_inj {a b : Nat} (h : ttB a = ttB b) : a = b := by
  have e := congrArg (fun x : ByteArray => x.data.toList) h
  simp only [ttB_list] at e
  obtain ⟨e1, e2⟩ := List.append_inj' e (by simp [last_len])
  have e3 := dec_inj e1
  simp only [List.cons.injEq, true_and] at e2
  obtain ⟨e4, e5⟩ := List.append_inj' e2 (by simp [last_len])
  simp only [List.cons.injEq, true_and] at e5
  have f1 := vlast2 (n := a / 1000 % 60) (by omega)
  have f2 := vlast3 (n := a % 1000) (by omega)
  rw [e4, vlast2 (n := b / 1000 % 60) (by omega)] at f1
  rw [e5, vlast3 (n := b % 1000) (by omega)] at f2
  omega
end

section
set_option linter.unusedVariables false
open Go.RowKit Go.Deep

/-- what a reader of numbers answers: a number whose text this is, and every short number's text is read -/
def LvP (s : ByteArray) (n : Int) (ok : Bool) : Prop := (ok = true → s = sgB n) ∧ (ok = false → n = 0) ∧ ∀ m : Int, -1000000000000000 < m → m < 1000000000000000 → s = sgB m → ok = true ∧ n = m
def LvE (s : ByteArray) (e : Ending) : Prop := ∃ (n : Int) (ok : Bool), LvP s n ok ∧ e = .returned (.tuple #[.int .i64 n, .bool ok])
theorem lv_no {s : ByteArray} (h : ∀ m : Int, -1000000000000000 < m → m < 1000000000000000 → s ≠ sgB m) : LvE s (.returned (.tuple #[.int .i64 0, .bool false])) := ⟨0, false, ⟨fun e => (by cases e), fun _ => rfl, fun m h1 h2 h3 => absurd h3 (h m h1 h2)⟩, rfl⟩
theorem lv_yes {s : ByteArray} {n : Int} (h : s = sgB n) (hi : ∀ m : Int, s = sgB m → n = m) : LvE s (.returned (.tuple #[.int .i64 n, .bool true])) := ⟨n, true, ⟨fun _ => h, fun e => (by cases e), fun m _ _ h3 => ⟨rfl, hi m h3⟩⟩, rfl⟩
def bytR (s : ByteArray) (k : Nat) : UInt8 := s.data.toList.getD k 0
theorem bytR_at (s : ByteArray) (k : Nat) (h : k < s.size) : (s[k]'h) = bytR s k := by
  obtain ⟨⟨l⟩⟩ := s
  have h' : k < l.length := h
  show l[k] = l.getD k 0
  rw [List.getD_eq_getElem?_getD, List.getElem?_eq_getElem h']; rfl
theorem sg_list (m : Int) : (sgB m).data.toList = if 0 ≤ m then Lib.decDigits m.toNat else 45 :: Lib.decDigits (-m).toNat := by
  split
  · rename_i h
    obtain ⟨n, rfl⟩ := Int.eq_ofNat_of_zero_le h
    rw [sgB_nat]
    rfl
  · rename_i h
    obtain ⟨n, rfl⟩ : ∃ n : Nat, m = -(n : Int) := ⟨(-m).toNat, by omega⟩
    rw [← sgB_neg (by omega)]
    simp [dgB, ByteArray.data_append]
/-- the bytes behind position d are digits that spell n -/
def Spell (s : ByteArray) (d k : Nat) (n : Int) : Prop := n = (valA 0 ((s.data.toList.drop d).take k) : Nat) ∧ ∀ c ∈ (s.data.toList.drop d).take k, isDg c
theorem spell_0 (s : ByteArray) (d : Nat) : Spell s d 0 0 := ⟨by simp [valA_nil], fun c h => by simp at h⟩
theorem size_list (s : ByteArray) : s.data.toList.length = s.size := rfl
theorem spell_step {s : ByteArray} {d k : Nat} {n : Int} (h : Spell s d k n) (hk : d + k < s.size) (hd : isDg (bytR s (d + k))) : Spell s d (k + 1) (n * 10 + ((bytR s (d + k)).toNat - 48 : Nat)) := by
  have e : (s.data.toList.drop d).take (k + 1) = (s.data.toList.drop d).take k ++ [bytR s (d + k)] := by
    have hl : k < (s.data.toList.drop d).length := by rw [List.length_drop, size_list]; omega
    rw [List.take_add_one, List.getElem?_eq_getElem hl]
    simp only [Option.toList, List.getElem_drop]
    congr 2
    unfold bytR
    rw [List.getD_eq_getElem?_getD, List.getElem?_eq_getElem (by rw [size_list]; omega)]; rfl
  obtain ⟨h1, h2⟩ := h
  refine ⟨?_, fun c hc => ?_⟩
  · rw [e, valA_snoc, h1]
    push_cast
    rfl
  · rw [e] at hc
    rcases List.mem_append.1 hc with g | g
    · exact h2 c g
    · rw [List.mem_singleton] at g
      rw [g]; exact hd
theorem valA_bound : ∀ (l : List UInt8) (acc : Nat), (∀ c ∈ l, isDg c) → valA acc l < (acc + 1) * 10 ^ l.length
  | [], acc, _ => by rw [valA_nil]; simp
  | c :: r, acc, h => by
    obtain ⟨h1, h2⟩ := h c (by simp)
    have := valA_bound r (acc * 10 + (c.toNat - 48)) (fun x hx => h x (by simp [hx]))
    rw [valA_cons]
    refine Nat.lt_of_lt_of_le this ?_
    rw [List.length_cons, Nat.pow_succ, Nat.mul_comm (10 ^ r.length) 10, ← Nat.mul_assoc]
    exact Nat.mul_le_mul_right _ (by omega)
theorem spell_bound {s : ByteArray} {d k : Nat} {n : Int} (h : Spell s d k n) (hk : k ≤ 15) : 0 ≤ n ∧ n < 1000000000000000 := by
  obtain ⟨h1, h2⟩ := h
  have := valA_bound _ 0 h2
  have hl : ((s.data.toList.drop d).take k).length ≤ 15 := by rw [List.length_take]; omega
  have hp : 10 ^ ((s.data.toList.drop d).take k).length ≤ 10 ^ 15 := Nat.pow_le_pow_right (by decide) hl
  omega
theorem spell_all {s : ByteArray} {d k : Nat} {n : Int} (h : Spell s d k n) (hk : d + k = s.size) : n = (valA 0 (s.data.toList.drop d) : Nat) := by
  have e : (s.data.toList.drop d).take k = s.data.toList.drop d := List.take_of_length_le (by rw [List.length_drop, size_list]; omega)
  rw [← e]; exact h.1
theorem lv_low {s : ByteArray} (h : s.size = 0) : ∀ m : Int, -1000000000000000 < m → m < 1000000000000000 → s ≠ sgB m := fun m _ _ e => by
  have h1 : s.data.toList.length = 0 := h
  rw [e, sg_list] at h1
  split at h1
  · exact (dec_all _).2.2 (List.eq_nil_of_length_eq_zero h1)
  · simp at h1
theorem ext_at (s : ByteArray) (k : Nat) (h : k < (s.extract 1 s.size).size) : ((s.extract 1 s.size)[k]'h) = bytR s (1 + k) := by
  have h2 : 1 + k < s.size := by rw [ByteArray.size_extract] at h; omega
  rw [← bytR_at s (1 + k) h2]
  simp [ByteArray.getElem_extract]
theorem sg_neg {s : ByteArray} {m : Int} (e : s = sgB m) (h0 : 0 < s.size) (h : (bytR s 0).toNat = 45) : m < 0 ∧ s.data.toList.drop 1 = Lib.decDigits (-m).toNat := by
  have hl := sg_list m
  rw [← e] at hl
  split at hl
  · exfalso
    obtain ⟨d1, _, d3⟩ := dec_all m.toNat
    rw [← hl] at d1 d3
    have : bytR s 0 ∈ s.data.toList := by
      unfold bytR
      rw [List.getD_eq_getElem?_getD, List.getElem?_eq_getElem (show 0 < s.data.toList.length from h0)]
      exact List.getElem_mem _
    have := (d1 _ this).1
    omega
  · exact ⟨by omega, by rw [hl]; rfl⟩
theorem sg_pos {s : ByteArray} {m : Int} (e : s = sgB m) (h0 : 0 < s.size) (h : ¬ (bytR s 0).toNat = 45) : 0 ≤ m ∧ s.data.toList.drop 0 = Lib.decDigits m.toNat := by
  have hl := sg_list m
  rw [← e] at hl
  split at hl
  · exact ⟨by assumption, hl⟩
  · exfalso
    refine h ?_
    unfold bytR
    rw [hl]
    rfl
theorem drop_dg {s : ByteArray} {d n : Nat} (h : s.data.toList.drop d = Lib.decDigits n) {k : Nat} (hk : d + k < s.size) : isDg (bytR s (d + k)) := by
  refine (dec_all n).1 _ ?_
  rw [← h]
  have hl : k < (s.data.toList.drop d).length := by rw [List.length_drop, size_list]; omega
  have e : bytR s (d + k) = (s.data.toList.drop d)[k] := by
    rw [List.getElem_drop]
    unfold bytR
    rw [List.getD_eq_getElem?_getD, List.getElem?_eq_getElem (by rw [size_list]; omega)]; rfl
  rw [e]
  exact List.getElem_mem _
theorem drop_len {s : ByteArray} {d n : Nat} (h : s.data.toList.drop d = Lib.decDigits n) : s.size - d = (Lib.decDigits n).length := by
  rw [← h, List.length_drop, size_list]
theorem pow_bound : ∀ (k : Nat) (n : Nat), n < 10 ^ k → 1 ≤ k → (Lib.decDigits n).length ≤ k
  | 0, n, _, h => by omega
  | k + 1, n, hn, _ => by
    by_cases h : n < 10
    · rw [Lib.decDigits_one h]; simp
    · have e : Lib.decDigits n = Lib.decDigits (n / 10) ++ [UInt8.ofNat (48 + n % 10)] := by
        conv => lhs; rw [Lib.decDigits]
        rw [dif_neg h]
      have hk : 1 ≤ k := by
        rcases Nat.eq_zero_or_pos k with g | g
        · subst g; simp at hn; omega
        · exact g
      have := pow_bound k (n / 10) (by rw [Nat.pow_succ] at hn; exact Nat.div_lt_of_lt_mul (by rw [Nat.mul_comm]; exact hn)) hk
      rw [e, List.length_append]
      simp
      omega
theorem str_beqR (a b : ByteArray) : (a.toList == b.toList) = true ↔ a = b := by
  rw [← beq_toListBytes]
  obtain ⟨x⟩ := a
  obtain ⟨y⟩ := b
  constructor
  · intro h
    have e : x = y := by simpa using (show (x == y) = true from h)
    rw [e]
  · intro h
    cases h
    show (x == x) = true
    simp
theorem str_same {a b : ByteArray} (h : a.toList = b.toList) : a = b := (str_beqR a b).1 (by rw [h]; simp)
set_option maxRecDepth 100000 in
set_option maxHeartbeats 16000000 in
theorem l01Value_c (s : ByteArray) (w : World) (hs : s.size ≤ 1048576) : Calls Tryz.prog 20 #[.string s] w fun e w' => LvE s e ∧ Below w.heap.size w w' := by
  by_cases h0 : 0 < s.size
  case neg =>
    have hz : s.size = 0 := by omega
    have h0' : ¬ (0 : Int) < (s.size : Int) := by omega
    have h1' : (s.size : Int) < 1 := by omega
    have HN := Lib.hid (lv_no (lv_low hz))
    clear hz
    go_enter Tryz.func20, Tryz.ntmps20
    go_wp2_with fail
    go_ret2
    exact ⟨HN.out, Below.refl _ _⟩
  case pos =>
    have h0' : (0 : Int) < (s.size : Int) := by omega
    have eb := bytR_at s 0 h0
    by_cases h45 : (bytR s 0).toNat = 45
    case pos =>
      have e45 : (((s[0]'h0).toNat : Int) == 45) = true := by rw [eb]; simp [h45]
      by_cases hsz : 2 ≤ s.size ∧ s.size ≤ 16
      case neg =>
        have HN := Lib.hid (lv_no (s := s) (fun m g1 g2 e => by
          obtain ⟨m0, hl⟩ := sg_neg e h0 h45
          have hlen := drop_len hl
          have hb := pow_bound 15 (-m).toNat (by omega) (by decide)
          have h3 := (dec_all (-m).toNat).2.2
          have h4 : 0 < (Lib.decDigits (-m).toNat).length := List.length_pos_iff.2 h3
          omega))
        have l3 : (((s.size - 1 : Nat) : Nat) : Int) < 1 ∨ ¬ (((s.size - 1 : Nat) : Nat) : Int) < 1 ∧ (15 : Int) < (((s.size - 1 : Nat) : Nat) : Int) := by omega
        rcases l3 with l3 | ⟨l3, l4⟩
        · go_enter Tryz.func20, Tryz.ntmps20
          go_wp2_with fail
          all_goals (go_ret2; exact ⟨HN.out, Below.refl _ _⟩)
        · go_enter Tryz.func20, Tryz.ntmps20
          go_wp2_with fail
          go_ret2
          exact ⟨HN.out, Below.refl _ _⟩
      case pos =>
        have l1 : ¬ (((s.size - 1 : Nat) : Nat) : Int) < 1 := by omega
        have l2 : ¬ (15 : Int) < (((s.size - 1 : Nat) : Nat) : Int) := by omega
        go_enter Tryz.func20, Tryz.ntmps20
        go_wp2_with fail
        go_loopw [5, 6] (fun x i wr => ∃ (k : Nat) (n : Int), x = .int .i64 n ∧ i = .int .i64 k ∧ 1 + k ≤ s.size ∧ Hid (Spell s 1 k n) ∧ w = wr) (fun _ i _ => s.size - (intOf i).toNat)
        case atStart => exact ⟨0, 0, rfl, rfl, by omega, Lib.hid (spell_0 _ _), rfl⟩
        case round =>
          obtain ⟨k, n, rfl, rfl, hk, hS, rfl⟩ := hrel
          have hb := spell_bound hS.out (by omega)
          by_cases h : 1 + k < s.size
          · have h' : (k : Int) < (((s.size - 1 : Nat) : Nat) : Int) := by omega
            have hx : k < (s.size - 1 : Nat) := by omega
            go_wp2_with fail
            all_goals first
              | (go_ret2; simp only [ext_at] at *; exact ⟨lv_no (fun m _ _ e => (by have g := drop_dg (sg_neg e h0 h45).2 (k := k) (by omega); unfold isDg at g; omega)), Below.refl _ _⟩)
              | (simp only [ext_at] at *; have hd : isDg (bytR s (1 + k)) := ⟨by omega, by omega⟩; have e1 : wrap64 (wrap64 (10 * n) + (((bytR s (1 + k)).toNat : Int) - 48)) = n * 10 + (((bytR s (1 + k)).toNat - 48 : Nat) : Int) := (by have g1 := hd.1; have g2 := hd.2; unfold wrap64; omega); exact ⟨⟨k + 1, n * 10 + (((bytR s (1 + k)).toNat - 48 : Nat) : Int), (by first | rw [e1] | exact congrArg (Value.int .i64) (by have g1 := hd.1; omega)), by simp, by omega, Lib.hid (spell_step hS.out (by omega) hd), trivial⟩, by simp [intOf]; omega⟩)
          · have h' : ¬ (k : Int) < (((s.size - 1 : Nat) : Nat) : Int) := by omega
            have hw : wrap64 (-n) = -n := by unfold wrap64; omega
            have hv := Lib.hid (spell_all hS.out (by omega))
            go_wp2_with fail
            refine (l01Signed_c (-n) _ (by omega) (by omega)).mono ?_
            rintro e w1 ⟨rfl, hb9⟩
            by_cases hq : s = sgB (-n)
            · have HY := Lib.hid (lv_yes hq (fun m e => by
                obtain ⟨m0, hl⟩ := sg_neg e h0 h45
                have hv := hv.out
                rw [hl, (dec_all _).2.1] at hv
                omega))
              rw [← hq]
              clear hq
              go_wp2_with fail
              all_goals (go_ret2; exact ⟨HY.out, hb9⟩)
            · have HV := Lib.hid hq
              clear hq
              go_wp2_with fail
              all_goals first
                | (go_ret2; exact ⟨lv_no (fun m _ _ e => HV.out (by
                    obtain ⟨m0, hl⟩ := sg_neg e h0 h45
                    have hv := hv.out
                    rw [hl, (dec_all _).2.1] at hv
                    rw [e]
                    congr 1
                    omega)), hb9⟩)
                | (exfalso; rename_i hh; exact HV.out (str_same (by simpa using hh)).symm)
    case neg =>
      have e45 : (((s[0]'h0).toNat : Int) == 45) = false := by rw [eb]; simp; omega
      by_cases hsz : 1 ≤ s.size ∧ s.size ≤ 15
      case neg =>
        have HN := Lib.hid (lv_no (s := s) (fun m g1 g2 e => by
          obtain ⟨m0, hl⟩ := sg_pos e h0 h45
          have hlen := drop_len hl
          have hb := pow_bound 15 m.toNat (by omega) (by decide)
          have h3 := (dec_all m.toNat).2.2
          have h4 : 0 < (Lib.decDigits m.toNat).length := List.length_pos_iff.2 h3
          omega))
        have l3 : ((s.size : Nat) : Int) < 1 ∨ ¬ ((s.size : Nat) : Int) < 1 ∧ (15 : Int) < ((s.size : Nat) : Int) := by omega
        rcases l3 with l3 | ⟨l3, l4⟩
        · go_enter Tryz.func20, Tryz.ntmps20
          go_wp2_with fail
          all_goals (go_ret2; exact ⟨HN.out, Below.refl _ _⟩)
        · go_enter Tryz.func20, Tryz.ntmps20
          go_wp2_with fail
          go_ret2
          exact ⟨HN.out, Below.refl _ _⟩
      case pos =>
        have l1 : ¬ ((s.size : Nat) : Int) < 1 := by omega
        have l2 : ¬ (15 : Int) < ((s.size : Nat) : Int) := by omega
        go_enter Tryz.func20, Tryz.ntmps20
        go_wp2_with fail
        go_loopw [5, 6] (fun x i wr => ∃ (k : Nat) (n : Int), x = .int .i64 n ∧ i = .int .i64 k ∧ 0 + k ≤ s.size ∧ Hid (Spell s 0 k n) ∧ w = wr) (fun _ i _ => s.size - (intOf i).toNat)
        case atStart => exact ⟨0, 0, rfl, rfl, by omega, Lib.hid (spell_0 _ _), rfl⟩
        case round =>
          obtain ⟨k, n, rfl, rfl, hk, hS, rfl⟩ := hrel
          have hb := spell_bound hS.out (by omega)
          by_cases h : 0 + k < s.size
          · have h' : (k : Int) < ((s.size : Nat) : Int) := by omega
            have hx : k < s.size := by omega
            go_wp2_with fail
            all_goals first
              | (go_ret2; simp only [bytR_at] at *; exact ⟨lv_no (fun m _ _ e => (by have g := drop_dg (sg_pos e h0 h45).2 (k := k) (by omega); rw [Nat.zero_add] at g; unfold isDg at g; omega)), Below.refl _ _⟩)
              | (simp only [bytR_at] at *; have hd : isDg (bytR s k) := ⟨by omega, by omega⟩; have e1 : wrap64 (wrap64 (10 * n) + (((bytR s k).toNat : Int) - 48)) = n * 10 + (((bytR s k).toNat - 48 : Nat) : Int) := (by have g1 := hd.1; have g2 := hd.2; unfold wrap64; omega); exact ⟨⟨k + 1, n * 10 + (((bytR s k).toNat - 48 : Nat) : Int), (by first | rw [e1] | exact congrArg (Value.int .i64) (by have g1 := hd.1; omega)), by simp, by omega, Lib.hid (by have g := spell_step hS.out (show 0 + k < s.size by omega) (by rw [Nat.zero_add]; exact hd); rw [Nat.zero_add] at g; exact g), trivial⟩, by simp [intOf]; omega⟩)
          · have h' : ¬ (k : Int) < ((s.size : Nat) : Int) := by omega
            have hw : wrap64 (-n) = -n := by unfold wrap64; omega
            have hv := Lib.hid (spell_all hS.out (by omega))
            go_wp2_with fail
            refine (l01Signed_c n _ (by omega) (by omega)).mono ?_
            rintro e w1 ⟨rfl, hb9⟩
            by_cases hq : s = sgB n
            · have HY := Lib.hid (lv_yes hq (fun m e => by
                obtain ⟨m0, hl⟩ := sg_pos e h0 h45
                have hv := hv.out
                rw [hl, (dec_all _).2.1] at hv
                omega))
              rw [← hq]
              clear hq
              go_wp2_with fail
              all_goals (go_ret2; exact ⟨HY.out, hb9⟩)
            · have HV := Lib.hid hq
              clear hq
              go_wp2_with fail
              all_goals first
                | (go_ret2; exact ⟨lv_no (fun m _ _ e => HV.out (by
                    obtain ⟨m0, hl⟩ := sg_pos e h0 h45
                    have hv := hv.out
                    rw [hl, (dec_all _).2.1] at hv
                    rw [e]
                    congr 1
                    omega)), hb9⟩)
                | (exfalso; rename_i hh; exact HV.out (str_same (by simpa using hh)).symm)
end

section
set_option linter.unusedVariables false
open Go.RowKit Go.Deep

/-- what a reader of times answers: a time whose text this is, and every time's text is read -/
def RdP (s : ByteArray) (t : Int) (ok : Bool) : Prop := (ok = true → 0 ≤ t ∧ t ≤ 1000000000 ∧ s = ttB t.toNat) ∧ (ok = false → t = 0) ∧ ∀ m : Nat, m ≤ 1000000000 → s = ttB m → ok = true ∧ t = m
def RdE (s : ByteArray) (e : Ending) : Prop := ∃ (t : Int) (ok : Bool), RdP s t ok ∧ e = .returned (.tuple #[.int .i64 t, .bool ok])
theorem rdt_same {s : ByteArray} {t u : Int} {a b : Bool} (h : RdP s t a) (k : RdP s u b) : t = u ∧ a = b := by
  obtain ⟨h1, h2, h3⟩ := h
  obtain ⟨k1, k2, k3⟩ := k
  cases a
  · cases b
    · exact ⟨by rw [h2 rfl, k2 rfl], rfl⟩
    · obtain ⟨g0, g1, g2⟩ := k1 rfl
      have := (h3 u.toNat (by omega) g2).1
      cases this
  · obtain ⟨g0, g1, g2⟩ := h1 rfl
    obtain ⟨e1, e2⟩ := k3 t.toNat (by omega) g2
    exact ⟨by omega, e1.symm⟩
theorem rd_no {s : ByteArray} (h : ∀ m : Nat, m ≤ 1000000000 → s ≠ ttB m) : RdE s (.returned (.tuple #[.int .i64 0, .bool false])) := ⟨0, false, ⟨fun e => (by cases e), fun _ => rfl, fun m h1 h2 => absurd h2 (h m h1)⟩, rfl⟩
theorem rd_yes {s : ByteArray} {t : Int} (h0 : 0 ≤ t) (h1 : t ≤ 1000000000) (h : s = ttB t.toNat) : RdE s (.returned (.tuple #[.int .i64 t, .bool true])) := ⟨t, true, ⟨fun _ => ⟨h0, h1, h⟩, fun e => (by cases e), fun m _ h3 => ⟨rfl, by have := ttB_inj (h.symm.trans h3); omega⟩⟩, rfl⟩
theorem tt_size (m : Nat) : (ttB m).size = (Lib.decDigits (m / 60000)).length + 7 := by
  have := congrArg List.length (ttB_list m)
  rw [show (ttB m).data.toList.length = (ttB m).size from rfl] at this
  rw [this]
  simp [last_len]
theorem tt_size_bd {m : Nat} (h : m ≤ 1000000000) : 8 ≤ (ttB m).size ∧ (ttB m).size ≤ 12 := by
  rw [tt_size]
  have h1 := pow_bound 5 (m / 60000) (by omega) (by decide)
  have h2 := List.length_pos_iff.2 (dec_all (m / 60000)).2.2
  omega
end

section
set_option linter.unusedVariables false
open Go.RowKit Go.Deep

theorem valA_app : ∀ (a b : List UInt8) (acc : Nat), valA acc (a ++ b) = valA (valA acc a) b
  | [], b, acc => by rw [List.nil_append, valA_nil]
  | c :: r, b, acc => by rw [List.cons_append, valA_cons, valA_cons, valA_app r b]
theorem parse_dg {l : List UInt8} (h : ∀ c ∈ l, isDg c) (h0 : l ≠ []) (hv : valA 0 l < 9223372036854775808) : Lib.parseIntB 64 l = .ok (valA 0 l : Int) := by
  match hl : l with
  | [] => exact absurd rfl h0
  | c :: r =>
    obtain ⟨d1, d2⟩ := h c (by simp)
    have hp : Lib.parseUintB 64 (c :: r) = .ok (valA 0 (c :: r)) := by
      unfold Lib.parseUintB
      rw [if_neg (by simp), parseM_ok _ _ _ h (by omega) (by decide)]
    simp only [Lib.parseIntB]
    rw [if_neg (by omega), hp]
    simp only
    have d3 : ¬ c.toNat = 45 := by omega
    simp only [d3, not_false_eq_true, true_and, false_and, if_false]
    rw [if_neg (by omega)]
theorem ext_list (s : ByteArray) (a b : Nat) : (s.extract a b).data.toList = (s.data.toList.drop a).take (b - a) := by
  simp [ByteArray.data_extract]
theorem ba_list (s : ByteArray) : s = ⟨s.data.toList.toArray⟩ := by
  apply ByteArray.ext
  simp
/-- the text of a number, cut by its length -/
theorem tt_min {s : ByteArray} {m : Nat} (e : s = ttB m) : s.extract 0 (s.size - 7) = dgB (m / 60000) := by
  have hl := ttB_list m
  have hz := tt_size m
  rw [← e] at hl hz
  have h := ext_list s 0 (s.size - 7)
  rw [ba_list (s.extract 0 (s.size - 7)), h, hl, hz]
  unfold dgB
  simp
theorem tt_dig {s : ByteArray} {m : Nat} (e : s = ttB m) : (s.extract (s.size - 6) (s.size - 4) ++ s.extract (s.size - 3) s.size).data.toList = lastD (m / 1000 % 60) 2 ++ lastD (m % 1000) 3 := by
  have hl := ttB_list m
  have hz := tt_size m
  rw [← e] at hl hz
  generalize Lib.decDigits (m / 60000) = A at *
  have e1 : s.data.toList = (A ++ [58]) ++ (lastD (m / 1000 % 60) 2 ++ (46 :: lastD (m % 1000) 3)) := by rw [hl]; simp
  have e2 : s.data.toList = (A ++ [58] ++ lastD (m / 1000 % 60) 2 ++ [46]) ++ lastD (m % 1000) 3 := by rw [hl]; simp
  have l2 := last_len (m / 1000 % 60) 2
  have l3 := last_len (m % 1000) 3
  have e3 : (s.extract (s.size - 6) (s.size - 4)).data.toList = lastD (m / 1000 % 60) 2 := by
    rw [ext_list, e1, List.drop_append_of_le_length (by simp; omega), List.drop_of_length_le (by simp; omega), List.nil_append, show s.size - 4 - (s.size - 6) = (lastD (m / 1000 % 60) 2).length by omega, List.take_left']
    rfl
  have e4 : (s.extract (s.size - 3) s.size).data.toList = lastD (m % 1000) 3 := by
    rw [ext_list, e2, List.drop_append_of_le_length (by simp; omega), List.drop_of_length_le (by simp; omega), List.nil_append, List.take_of_length_le (by omega)]
  rw [ByteArray.data_append, Array.toList_append, e3, e4]
theorem vdig (m : Nat) : valA 0 (lastD (m / 1000 % 60) 2 ++ lastD (m % 1000) 3) = (m / 1000 % 60) * 1000 + m % 1000 := by
  have a := dg_nat (n := m / 1000 % 60 / 10 ^ 1 % 10) (by omega)
  have b := dg_nat (n := m / 1000 % 60 / 10 ^ 0 % 10) (by omega)
  have c := dg_nat (n := m % 1000 / 10 ^ 2 % 10) (by omega)
  have d := dg_nat (n := m % 1000 / 10 ^ 1 % 10) (by omega)
  have e := dg_nat (n := m % 1000 / 10 ^ 0 % 10) (by omega)
  simp only [lastD, valA_app, valA_cons, valA_nil, a, b, c, d, e]
  omega
theorem tt_sum {m : Nat} (hm : m ≤ 1000000000) : wrap64 (wrap64 (60000 * ((m / 60000 : Nat) : Int)) + ((m / 1000 % 60 * 1000 + m % 1000 : Nat) : Int)) = (m : Int) := by
  have e1 : wrap64 (60000 * ((m / 60000 : Nat) : Int)) = 60000 * ((m / 60000 : Nat) : Int) := by unfold wrap64; omega
  have e2 : 60000 * ((m / 60000 : Nat) : Int) + ((m / 1000 % 60 * 1000 + m % 1000 : Nat) : Int) = (m : Int) := by omega
  rw [e1, e2]
  unfold wrap64
  omega
theorem mem_bytR {s : ByteArray} {k : Nat} (h : k < s.size) : bytR s k ∈ s.data.toList := by
  unfold bytR
  rw [List.getD_eq_getElem?_getD, List.getElem?_eq_getElem (show k < s.data.toList.length from h)]
  exact List.getElem_mem _
theorem dig_dg (m : Nat) : ∀ c ∈ lastD (m / 1000 % 60) 2 ++ lastD (m % 1000) 3, isDg c := by
  intro c hc
  rcases List.mem_append.1 hc with g | g
  · exact last_dg _ _ c g
  · exact last_dg _ _ c g
theorem ttR_no {m : Nat} (h : m ≤ 1000000000) : ttR (m : Int) = ttB m := by
  have : inR (m : Int) 0 1000000000 = true := by unfold inR; simp; omega
  unfold ttR
  rw [if_pos this]; rfl
theorem ttR_yes {t : Int} {s : ByteArray} (h : s = ttR t) (hs : 1 ≤ s.size) : 0 ≤ t ∧ t ≤ 1000000000 ∧ s = ttB t.toNat := by
  cases hr : inR t 0 1000000000
  · exfalso
    have : ttR t = ⟨#[]⟩ := by unfold ttR; rw [hr, if_neg (by decide)]
    rw [h, this] at hs
    exact absurd hs (by decide)
  · obtain ⟨h0, h1⟩ := inR_true hr
    refine ⟨h0, h1, ?_⟩
    rw [h]; unfold ttR; rw [hr, if_pos rfl]
theorem index_byte_app (a b : List UInt8) (c : UInt8) (h : ∀ x ∈ a, x ≠ c) : Lib.indexByte (a ++ c :: b) c = a.length := by
  induction a with
  | nil => unfold Lib.indexByte; simp
  | cons x r ih =>
    have h1 := h x (by simp)
    have h2 := ih (fun y hy => h y (by simp [hy]))
    rw [List.cons_append]
    unfold Lib.indexByte
    rw [h2, if_neg (by simpa using h1), if_neg (by simp)]
    simp
/-- a cut of a time's text -/
theorem tt_cut {s : ByteArray} {m : Nat} (e : s = ttB m) : Lib.cut s.data.toList (⟨#[58]⟩ : ByteArray).data.toList = (Lib.decDigits (m / 60000), lastD (m / 1000 % 60) 2 ++ 46 :: lastD (m % 1000) 3, true) := by
  have hl := ttB_list m
  rw [← e] at hl
  rw [hl]
  show Lib.cut _ [58] = _
  unfold Lib.cut
  have hi : Lib.index (Lib.decDigits (m / 60000) ++ (58 :: (lastD (m / 1000 % 60) 2 ++ 46 :: lastD (m % 1000) 3))) [58] = (Lib.decDigits (m / 60000)).length := by
    rw [Lib.index_one]
    refine index_byte_app _ _ _ (fun x hx hc => ?_)
    have := (dec_all _).1 x hx
    subst hc
    exact absurd this.2 (by decide)
  rw [hi, if_pos (by omega)]
  refine Prod.ext ?_ (Prod.ext ?_ rfl)
  · simp
  · show List.drop _ _ = _
    rw [show ((Lib.decDigits (m / 60000)).length : Int).toNat + ([58] : List UInt8).length = (Lib.decDigits (m / 60000) ++ [58]).length by simp]
    rw [show Lib.decDigits (m / 60000) ++ 58 :: (lastD (m / 1000 % 60) 2 ++ 46 :: lastD (m % 1000) 3) = (Lib.decDigits (m / 60000) ++ [58]) ++ (lastD (m / 1000 % 60) 2 ++ 46 :: lastD (m % 1000) 3) by simp]
    rw [List.drop_left']
    rfl
end
end Go.Proofs.YtjgndfphbmkhaaaGreatDoor
