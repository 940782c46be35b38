/-
  The texts of times, both sides. Conditions stand with each; a table of the library's is laid in the world.
-/
import Derived.Test.YtjgndfphbmkhaaaDoorTxt
import Derived.Lib.LaidTab
namespace Go.Proofs.YtjgndfphbmkhaaaDoor
set_option linter.unusedVariables false
open Go.RowKit Go.Deep

theorem lastD_snoc (n : Nat) : ∀ k, lastD n (k + 1) = lastD (n / 10) k ++ [UInt8.ofNat (48 + n % 10)]
  | 0 => by simp [lastD]
  | k + 1 => by
    rw [lastD, lastD_snoc n k, lastD, Nat.pow_succ, Nat.mul_comm, ← Nat.div_div_eq_div_mul]; rfl
theorem pad_eq : ∀ (d n : Nat), n < 10 ^ (d + 1) → List.replicate (d + 1 - (Lib.decDigits n).length) (48 : UInt8) ++ Lib.decDigits n = lastD n (d + 1)
  | 0, n, h => by
    have h : n < 10 := by simpa using h
    rw [Lib.decDigits_one h, lastD_snoc]
    simp [lastD, Nat.mod_eq_of_lt h]
  | d + 1, n, h => by
    have hq : n / 10 < 10 ^ (d + 1) := by rw [Nat.pow_succ] at h; omega
    have ih := pad_eq d (n / 10) hq
    rw [lastD_snoc, ← ih]
    by_cases hn : n < 10
    · rw [show n / 10 = 0 by omega, Lib.decDigits_one hn, Lib.decDigits_one (by omega), Nat.mod_eq_of_lt hn]
      simp only [List.length_cons, List.length_nil, Nat.zero_add, Nat.add_sub_cancel]
      rw [List.replicate_succ', List.append_assoc, List.append_assoc]; rfl
    · have e : Lib.decDigits n = Lib.decDigits (n / 10) ++ [UInt8.ofNat (48 + n % 10)] := by
        conv => lhs; rw [Lib.decDigits]
        rw [dif_neg hn]
      rw [e, List.length_append, List.length_singleton, ← List.append_assoc]
      congr 3
      omega
theorem rep_one : ∀ c, Lib.repeatL [48] c = List.replicate c (48 : UInt8)
  | 0 => rfl
  | c + 1 => by rw [Lib.repeatL, rep_one c, List.replicate_succ]; rfl
theorem pad_B {n d : Nat} (h : n < 10 ^ (d + 1)) : (⟨(Lib.repeatL ((⟨#[48]⟩ : ByteArray).data.toList) (d + 1 - (dgB n).size)).toArray⟩ : ByteArray) ++ dgB n = lastB n (d + 1) := by
  have e : (dgB n).size = (Lib.decDigits n).length := by simp [dgB, ByteArray.size]
  have e2 : (⟨#[48]⟩ : ByteArray).data.toList = [48] := rfl
  rw [e, e2, rep_one, dgB, ba_append, pad_eq d n h, lastB]
theorem rep_size (c : Nat) : (⟨(Lib.repeatL ((⟨#[48]⟩ : ByteArray).data.toList) c).toArray⟩ : ByteArray).size = c := by
  have e2 : (⟨#[48]⟩ : ByteArray).data.toList = [48] := rfl
  rw [e2, rep_one]
  simp [ByteArray.size]
theorem last3 (n : Nat) : lastB n 3 = lastB (n % 1000) 3 := by
  have h1 : n % 10 = n % 1000 % 10 := by omega
  have h2 : n / 10 % 10 = n % 1000 / 10 % 10 := by omega
  have h3 : n / 100 % 10 = n % 1000 / 100 % 10 := by omega
  simp only [lastB, lastD, show (10 : Nat) ^ 2 = 100 from rfl, show (10 : Nat) ^ 1 = 10 from rfl, show (10 : Nat) ^ 0 = 1 from rfl, Nat.div_one]
  rw [h1, h2, h3]
/-- the table of the powers of ten, as the library lays it -/
def Tab (w : World) : Prop := Lib.TabIs Tryd.prog w "internal/strconv.uint64pow10" .u64 Lib.pow10Tab
theorem Tab.below {w w' : World} (h : Tab w) (hb : Below w.heap.size w w') : Tab w' := by
  have hgn : Tryd.prog.globalNamed "internal/strconv.uint64pow10" = some 3 := by kernel_rfl
  unfold Tab Lib.TabIs World.var? at h ⊢
  rw [hgn] at h ⊢
  simp only [Option.bind_some] at h ⊢
  have hlt : 3 < w.heap.size := by
    rcases Nat.lt_or_ge 3 w.heap.size with h' | h'
    · exact h'
    · rw [Array.getElem?_eq_none h'] at h; cases h
  rw [hb.block _ hlt]
  exact h
theorem below_lib {w : World} (k : Nat) (os : Array Obj) : Below w.heap.size w (Go.Sort.grow (w.drewN k) os) :=
  ⟨rfl, rfl, rfl, by simp [Go.Sort.grow], fun b hb => by
    show (w.heap ++ os)[b]? = w.heap[b]?
    rw [Array.getElem?_append_left hb]⟩
set_option maxHeartbeats 400000 in
theorem text_c (n : Nat) (w : World) (hn : n ≤ 9223372036854775807) (ht : Tab w) : Calls Tryd.prog 23 #[.int .i64 (n : Int)] w fun e w' => e = .returned (.string (dgB n)) ∧ Below w.heap.size w w' := by
  have CT := Lib.hid (Tryd.strconv_FormatInt_10 (n : Int) (by omega) (by omega) w ht)
  have HE := Lib.hid (show (⟨(Lib.itoa (n : Int)).toArray⟩ : ByteArray) = dgB n by rw [Lib.itoa_nonneg]; rfl)
  clear ht
  generalize (⟨(Lib.itoa (n : Int)).toArray⟩ : ByteArray) = S at *
  go_enter Tryd.func23, Tryd.ntmps23
  go_wp2_with (go_at_call 44; refine CT.out.mono ?_; rintro e w' ⟨rfl, k, os, rfl⟩; have hb := below_lib (w := w) k os)
  go_ret
  exact ⟨by rw [← HE.out]; rfl, below_lib _ _⟩
set_option maxHeartbeats 1000000 in
theorem digits_c (n d : Nat) (w : World) (hn : n < 10 ^ (d + 1)) (hn2 : n ≤ 9223372036854775807) (hd : d ≤ 10) (ht : Tab w) : Calls Tryd.prog 24 #[.int .i64 (n : Int), .int .i64 ((d + 1 : Nat) : Int)] w fun e w' => e = .returned (.string (lastB n (d + 1))) ∧ Below w.heap.size w w' := by
  have CT := Lib.hid (text_c n w hn2 ht)
  have HE := Lib.hid (pad_B hn)
  have hz := dgB_size hn2
  have hz9 := rep_size (d + 1 - (dgB n).size)
  have CR := Lib.hid (fun (c : Nat) (w : World) (hc : c ≤ 100) => Tryd.strings_Repeat (⟨#[48]⟩ : ByteArray) c w (by omega) (by rw [show (⟨#[48]⟩ : ByteArray).size = 1 from rfl]; omega))
  clear ht hn
  generalize dgB n = S at *
  have hw : IntKind.i64.wrap (((d + 1 : Nat) : Int) - (S.size : Int)) = ((d + 1 : Nat) : Int) - (S.size : Int) := by rw [IntKind.wrap_i64]; omega
  obtain ⟨c, hc⟩ : ∃ c, c = d + 1 - S.size := ⟨_, rfl⟩
  have hm : max 0 (((d + 1 : Nat) : Int) - (S.size : Int)) = (c : Int) := by omega
  have hc9 : c ≤ 100 := by omega
  rw [← hc] at HE hz9
  have CR2 := Lib.hid (fun w => CR.out c w hc9)
  clear CR
  replace hc := Lib.hid hc
  generalize (⟨(Lib.repeatL ((⟨#[48]⟩ : ByteArray).data.toList) c).toArray⟩ : ByteArray) = R at *
  generalize ((d + 1 : Nat) : Int) = D at *
  go_enter Tryd.func24, Tryd.ntmps24
  go_wp2_with (first | (go_at_call 23; refine CT.out.mono ?_; rintro e w1 ⟨rfl, hb1⟩) | (go_at_call 45; refine (CR2.out _).mono ?_; rintro e w2 ⟨rfl, hb2⟩))
  go_ret
  exact ⟨by rw [← HE.out]; rfl, hb1.trans (hb2.mono hb1.size)⟩
end Go.Proofs.YtjgndfphbmkhaaaDoor
