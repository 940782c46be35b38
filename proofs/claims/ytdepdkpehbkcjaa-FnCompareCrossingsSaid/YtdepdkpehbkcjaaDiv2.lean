/-
  bits.Div64 where the quotient is below 2^31. Conditions stand with each.
-/
import Derived.Test.YtdepdkpehbkcjaaDiv
namespace Go.Proofs.Ytdepdkpehbkcjaa
set_option linter.unusedVariables false
open Go.RowKit Go.Deep Go.Lib Go.Shelf

set_option maxRecDepth 100000 in
theorem dv_start {A B U c1 c0 V N Y X : Nat} (hA : 2147483648 ≤ A) (hA2 : A ≤ 4294967295) (hY : Y = A * 4294967296 + B) (hN : N = U * 18446744073709551616 + V) (hV : V = c1 * 4294967296 + c0) (hX : U * 4294967296 + c1 = X) (hc : c0 < 4294967296) (hB : B < 4294967296) (hq : N < 2147483648 * Y) :
    X / A * A + X % A = X ∧ N / Y ≤ X / A ∧ X / A < 4294967296 ∧ X % A < 4294967296 := by
  have hNX : N = X * 4294967296 + c0 := by rw [hN, hV, ← hX]; grind
  refine ⟨Nat.div_add_mod' X A, ?_, ?_, Nat.lt_of_lt_of_le (Nat.mod_lt X (by omega)) (by omega)⟩
  · rw [Nat.le_div_iff_mul_le (by omega)]
    have h1 := Nat.div_mul_le_self N Y
    generalize N / Y = Q at *
    have h2 : Q * A * 4294967296 ≤ Q * Y := by
      rw [hY, Nat.mul_add, Nat.mul_assoc]; omega
    omega
  · apply Nat.div_lt_of_lt_mul
    omega
set_option maxRecDepth 100000 in
theorem dv_gt {A B c0 N Y X q r : Nat} (hY : Y = A * 4294967296 + B) (hN : N = X * 4294967296 + c0) (hq : q * A + r = X) (h : 4294967296 * r + c0 < q * B) : N / Y < q := by
  apply Nat.div_lt_of_lt_mul
  have : Y * q = q * A * 4294967296 + q * B := by rw [hY]; grind
  omega
set_option maxRecDepth 100000 in
theorem dv_le {A B c0 N Y X q r : Nat} (h0 : 0 < Y) (hY : Y = A * 4294967296 + B) (hN : N = X * 4294967296 + c0) (hq : q * A + r = X) (hQ : N / Y ≤ q) (h : q * B ≤ 4294967296 * r + c0) : N / Y = q := by
  have : q * Y = q * A * 4294967296 + q * B := by rw [hY]; grind
  have h2 : q ≤ N / Y := by
    rw [Nat.le_div_iff_mul_le h0]; omega
  omega
set_option maxRecDepth 100000 in
theorem dv_N {U c1 c0 V N X : Nat} (hN : N = U * 18446744073709551616 + V) (hV : V = c1 * 4294967296 + c0) (hX : U * 4294967296 + c1 = X) : N = X * 4294967296 + c0 := by
  rw [hN, hV, ← hX]; grind
theorem dv_end {c0 N Y X Q s : Nat} (h0 : 0 < Y) (h1 : Y < 18446744073709551616) (hN : N = X * 4294967296 + c0) (hQ : N / Y = Q) (hq : Q < 4294967296) (hs : s ≤ 63) :
    IntKind.u64.wrap (Q : Int) = ((N / Y : Nat) : Int) ∧
    IntKind.u64.wrap (IntKind.u64.wrap (IntKind.u64.wrap ((X : Int) * 4294967296) + (c0 : Int)) - IntKind.u64.wrap ((Q : Int) * (Y : Int))) / 2 ^ s = ((N % Y / 2 ^ s : Nat) : Int) := by
  have hm := Nat.div_add_mod' N Y
  have hr := Nat.mod_lt N h0
  refine ⟨by rw [hQ]; exact Mul64.wrapN _ (by omega), ?_⟩
  rw [pow_cast, Int.natCast_ediv]
  congr 1
  rw [hQ] at hm
  rw [Mul64.mulN]
  generalize Q * Y = Z at *
  generalize N % Y = R at *
  simp only [IntKind.wrap_u64]
  omega
theorem mul_lt64 {q B : Nat} (h : q < 4294967296) (h2 : B < 4294967296) : q * B < 18446744073709551616 := by
  have := Nat.mul_le_mul (show q ≤ 4294967295 by omega) (show B ≤ 4294967295 by omega)
  omega
theorem small_hi {T Y M N : Nat} (hN : N < 2147483648 * Y) (hN1 : N = T * 18446744073709551616 + M) (n1 : Y < 18446744073709551616) : T < 2147483648 := by omega
set_option maxRecDepth 100000 in
set_option maxHeartbeats 4000000 in
theorem Div64_big (hi lo y s : Nat) (w : World) (h0 : 0 < hi) (hlo : lo < 18446744073709551616) (hy : y < 9223372036854775808) (hyh : hi < y)
    (hs : s ≤ 63) (hs2 : (s : Int) = 64 - (Lib.bitLen y : Int)) (n0 : 9223372036854775808 ≤ y * 2 ^ s) (n1 : y * 2 ^ s < 18446744073709551616) (hq : hi * 18446744073709551616 + lo < 2147483648 * y) :
    Calls Try.prog 130 #[.int .u64 hi, .int .u64 lo, .int .u64 y] w fun e w' => e = .returned (.tuple #[.int .u64 (((hi * 18446744073709551616 + lo) / y : Nat) : Int), .int .u64 (((hi * 18446744073709551616 + lo) % y : Nat) : Int)]) ∧ w = w' := by
  have CL := Lib.hid (fun w => hs2 ▸ LeadingZeros64_c y w (by omega))
  clear hs2
  have g1 : ¬ (y : Int) = 0 := by omega
  have g2 : ¬ (y : Int) ≤ (hi : Int) := by omega
  have g3 : ¬ (hi : Int) = 0 := by omega
  have hp := Nat.two_pow_pos s
  -- the shifted numbers
  have hN : (hi * 18446744073709551616 + lo) * 2 ^ s < 2147483648 * (y * 2 ^ s) := by
    rw [← Nat.mul_assoc]; exact Nat.mul_lt_mul_of_pos_right hq hp
  have hN1 : (hi * 18446744073709551616 + lo) * 2 ^ s = (hi * 2 ^ s) * 18446744073709551616 + lo * 2 ^ s := by
    rw [Nat.add_mul, Nat.mul_right_comm]
  have hsp := low_split lo s hs
  have hhs : hi * 2 ^ s < 2147483648 := small_hi hN hN1 n1
  have e4 := div_or hi lo s hs hlo hhs
  have hll := low_lt lo s hs hlo
  have dq : (hi * 18446744073709551616 + lo) / y = (hi * 18446744073709551616 + lo) * 2 ^ s / (y * 2 ^ s) := (Nat.mul_div_mul_right _ _ hp).symm
  have dr : (hi * 18446744073709551616 + lo) % y = ((hi * 18446744073709551616 + lo) * 2 ^ s % (y * 2 ^ s)) / 2 ^ s := by
    rw [Nat.mul_mod_mul_right, Nat.mul_div_cancel _ hp]
  rw [dq, dr]
  clear dq dr hq
  have e1 : IntKind.u64.wrap ((y : Int) * 2 ^ s) = ((y * 2 ^ s : Nat) : Int) := by
    rw [pow_cast, Mul64.mulN, Mul64.wrapN _ n1]
  have e5 : IntKind.u64.wrap ((lo : Int) * 2 ^ s) = ((lo * 2 ^ s % 18446744073709551616 : Nat) : Int) := by
    rw [pow_cast, Mul64.mulN, Mul64.wrapM]
  have hV : lo * 2 ^ s % 18446744073709551616 < 18446744073709551616 := Nat.mod_lt _ (by omega)
  generalize (hi * 18446744073709551616 + lo) * 2 ^ s = N at *
  generalize y * 2 ^ s = Y at *
  generalize hi * 2 ^ s = T at *
  generalize lo / 2 ^ (64 - s) = L at *
  generalize lo * 2 ^ s = M at *
  generalize M % 18446744073709551616 = V at *
  have hNU : N = (T + L) * 18446744073709551616 + V := by rw [hN1, hsp]; omega
  generalize hUU : T + L = U at *
  clear hN1 hsp
  have hdiv : ∀ z : Nat, ((z : Int) / 2 ^ s) = ((z / 2 ^ s : Nat) : Int) := fun z => by rw [pow_cast]; exact (Int.natCast_ediv _ _).symm
  have e2 := Mul64.divN Y
  have e3 := Mul64.maskN Y n1
  have e6 := Mul64.divN V
  have e7 := Mul64.maskN V hV
  have hA : 2147483648 ≤ Y / 4294967296 := by omega
  have hB : Y % 4294967296 < 4294967296 := by omega
  have hAB : Y = Y / 4294967296 * 4294967296 + Y % 4294967296 := by omega
  have hc : V / 4294967296 < 4294967296 := by omega
  have hd : V % 4294967296 < 4294967296 := by omega
  have hcd : V = V / 4294967296 * 4294967296 + V % 4294967296 := by omega
  generalize Y / 4294967296 = A at *
  generalize Y % 4294967296 = B at *
  generalize V / 4294967296 = c1 at *
  generalize V % 4294967296 = c0 at *
  have hU : U < 2147483648 := by omega
  have hUA : (U : Int) / (A : Int) = 0 := Int.ediv_eq_zero_of_lt (by omega) (by omega)
  have hA0 : ¬ (A : Int) = 0 := by omega
  have b1 : (A : Int) ≤ 4294967295 := by omega
  have b2 : (2147483648 : Int) ≤ (A : Int) := by omega
  have b3 : (U : Int) < 2147483648 := by omega
  have b4 : (c1 : Int) < 4294967296 := by omega
  have b5 : (c0 : Int) < 4294967296 := by omega
  have b6 : (B : Int) < 4294967296 := by omega
  have HNU := Lib.hid hNU
  have HAB := Lib.hid hAB
  have HCD := Lib.hid hcd
  have HN := Lib.hid hN
  have HY := Lib.hid n0
  have HY1 := Lib.hid n1
  have HD := Lib.hid hdiv
  clear hNU hAB hcd hUU hdiv
  have E := Lib.hid (And.intro e1 (And.intro e2 (And.intro e3 (And.intro e4 (And.intro e5 (And.intro e6 e7))))))
  have F := Lib.hid (And.intro hUA (And.intro hA0 (And.intro b1 (And.intro b2 (And.intro b3 (And.intro b4 (And.intro b5 b6)))))))
  clear e1 e2 e3 e4 e5 e6 e7 hUA hA0 b1 b2 b3 b4 b5 b6 hA hB hc hd hU hV
  go_enter Try.func130, Try.ntmps130
  go_upto_region 15 with (first | (go_at_call 139; refine (CL.out _).mono ?_; rintro e w' ⟨rfl, rfl⟩))
  obtain ⟨e1, e2, e3, e4, e5, e6, e7⟩ := E.out
  simp only [e1, e2, e3, e4, e5, e6, e7]
  clear e1 e2 e3 e4 e5 e6 e7 E CL
  obtain ⟨hUA, hA0, b1, b2, b3, b4, b5, b6⟩ := F.out
  go_wp2
  go_loopw [15, 16] (fun a b wr => a = .int .u64 0 ∧ b = .int .u64 (U : Int) ∧ wr = w) (fun _ _ _ => 0)
  case atStart => exact ⟨rfl, rfl, rfl⟩
  case round =>
    obtain ⟨rfl, rfl, rfl⟩ := hrel
    clear hUA b1 b2 b3 b4 b5 b6 hA0 g1 g2 g3 h0 hlo hy hyh hp hhs hll n0 n1 hN
    go_upto_region 22 with fail
    obtain ⟨hUA, hA0, b1, b2, b3, b4, b5, b6⟩ := F.out
    obtain ⟨X, hX⟩ : ∃ X : Nat, U * 4294967296 + c1 = X := ⟨_, rfl⟩
    have x0 : IntKind.u64.wrap ((U : Int) * 4294967296) = ((U * 4294967296 : Nat) : Int) := by rw [IntKind.wrap_u64]; omega
    have x1 : IntKind.u64.wrap (((U * 4294967296 : Nat) : Int) + (c1 : Int)) = (X : Int) := by rw [IntKind.wrap_u64]; omega
    have x2 : IntKind.u64.wrap (X : Int) = (X : Int) := by rw [IntKind.wrap_u64]; omega
    simp only [x0, x1, x2]
    clear hUA b1 b2 b3 b4 b5 b6 x0 x1 x2
    have HX := Lib.hid hX
    clear hX
    go_wp2_with fail
    obtain ⟨hUA, _, b1, b2, b3, b4, b5, b6⟩ := F.out
    have ST := dv_start (A := A) (B := B) (by omega) (by omega) HAB.out HNU.out HCD.out HX.out (by omega) (by omega) HN.out
    have HNX := Lib.hid (dv_N HNU.out HCD.out HX.out)
    have hY0 := HY.out
    have hAN : 2147483648 ≤ A := by omega
    have hAN2 : A ≤ 4294967295 := by omega
    have hcN : c0 < 4294967296 := by omega
    have hBN : B < 4294967296 := by omega
    have NUM := Lib.hid (And.intro hAN (And.intro hAN2 (And.intro hcN (And.intro hBN hY0))))
    have ST0 := Lib.hid ST
    clear hUA b1 b2 b3 b4 b5 b6 ST hAN hAN2 hcN hBN hY0
    go_loopw [18, 16] (fun a b w2 => ∃ q r : Nat, a = .int .u64 q ∧ b = .int .u64 r ∧ Hid (q * A + r = X ∧ N / Y ≤ q ∧ q < 4294967296 ∧ r < 4294967296) ∧ w2 = wr) (fun a _ _ => (RowKit.intOf a).toNat)
    case atStart =>
      obtain ⟨s1, s2, s3, s4⟩ := ST0.out
      obtain ⟨m1, m2, m3, m4, m5⟩ := NUM.out
      have e1 : IntKind.u64.wrap ((X : Int) / (A : Int)) = ((X / A : Nat) : Int) := by
        rw [← Int.natCast_ediv]; exact Mul64.wrapN _ (by omega)
      have hx : X < 18446744073709551616 := by
        have := Nat.mul_le_mul (show X / A ≤ 4294967295 by omega) m2
        omega
      refine ⟨X / A, X % A, by rw [e1], ?_, Lib.hid ⟨s1, s2, s3, s4⟩, rfl⟩
      rw [e1, Mul64.mulN, Mul64.wrapN (X / A * A) (by omega), show (X : Int) - ((X / A * A : Nat) : Int) = ((X % A : Nat) : Int) by omega, Mul64.wrapN _ (by omega)]
    case round =>
      obtain ⟨q, r, rfl, rfl, hR, rfl⟩ := hrel
      obtain ⟨r1, r2, r3, r4⟩ := hR.out
      obtain ⟨m1, m2, m3, m4, m5⟩ := NUM.out
      have hP4 := mul_lt64 r3 m4
      obtain ⟨P, hP⟩ : ∃ P : Int, ((q * B : Nat) : Int) = P := ⟨_, rfl⟩
      obtain ⟨S, hS⟩ : ∃ S : Int, 4294967296 * (r : Int) + (c0 : Int) = S := ⟨_, rfl⟩
      obtain ⟨R2, hR2⟩ : ∃ R2 : Int, 4294967296 * (r : Int) = R2 := ⟨_, rfl⟩
      have y0 : IntKind.u64.wrap ((q : Int) * (B : Int)) = P := by rw [Mul64.mulN, Mul64.wrapN _ (by omega), hP]
      have y1 : IntKind.u64.wrap (4294967296 * (r : Int)) = R2 := by rw [IntKind.wrap_u64]; omega
      have y2 : IntKind.u64.wrap (R2 + (c0 : Int)) = S := by rw [IntKind.wrap_u64]; omega
      have q1 : (q : Int) < 4294967296 := by omega
      by_cases hgt : S < P
      · have hlt := dv_gt HAB.out HNX.out r1 (by omega)
        have y5 : S < P := hgt
        have hq0 : 0 < q := Nat.lt_of_le_of_lt (Nat.zero_le _) hlt
        obtain ⟨k, hk⟩ : ∃ k : Nat, q = k + 1 := ⟨q - 1, by omega⟩
        obtain ⟨r5, hr5⟩ : ∃ r5 : Nat, r + A = r5 := ⟨_, rfl⟩
        have y3 : IntKind.u64.wrap ((q : Int) - 1) = (k : Int) := by rw [IntKind.wrap_u64]; omega
        have y4 : IntKind.u64.wrap ((r : Int) + (A : Int)) = (r5 : Int) := by rw [IntKind.wrap_u64]; omega
        have hkA : k * A + r5 = X := by rw [hk, Nat.add_mul, Nat.one_mul] at r1; omega
        have HK := Lib.hid hkA
        have HK2 := Lib.hid hk
        have HR5 := Lib.hid hr5
        have HL := Lib.hid hlt
        clear hq0 hkA hk hr5 hlt hP hS hR2 hP4 r1 r2 m1 m2 m3 m4 m5 hgt
        by_cases hbig : (4294967296 : Int) ≤ (r5 : Int)
        · go_wp2_with fail
          have f1 := HK2.out
          have f2 := HL.out
          have f3 := HR5.out
          obtain ⟨m1, m2, m3, m4, m5⟩ := NUM.out
          have f4 := dv_le (by omega) HAB.out HNX.out HK.out (Nat.le_of_lt_succ (Nat.lt_of_lt_of_eq f2 f1)) (by have := mul_lt64 (q := k) (B := B) (by omega) m4; omega)
          have f5 := dv_end (s := s) (by omega) HY1.out HNX.out f4 (by omega) hs
          go_ret2
          exact ⟨by rw [← f5.1, ← f5.2]; rfl, rfl⟩
        · go_wp2_with fail
          have f1 := HK2.out
          have f2 := HL.out
          exact ⟨⟨k, rfl, r5, rfl, Lib.hid ⟨HK.out, Nat.le_of_lt_succ (Nat.lt_of_lt_of_eq f2 f1), by omega, by omega⟩⟩, by simp [RowKit.intOf]; omega⟩
      · have heq := dv_le (by omega) HAB.out HNX.out r1 r2 (by omega)
        have HEQ := Lib.hid heq
        have y5 : ¬ S < P := hgt
        obtain ⟨K, y3⟩ : ∃ K : Int, IntKind.u64.wrap ((q : Int) - 1) = K := ⟨_, rfl⟩
        obtain ⟨r5, y4⟩ : ∃ K : Int, IntKind.u64.wrap ((r : Int) + (A : Int)) = K := ⟨_, rfl⟩
        clear hP hS hR2 hP4 r1 r2 m1 m2 m3 m4 m5 hgt heq
        go_upto_if 113 with fail
        have q2 : ¬ (4294967296 : Int) ≤ (q : Int) := by omega
        clear y0 y1 y2 y3 y4 y5 q1 r4 hA0
        refine wp_cond_split rfl (fun h => absurd (of_decide_eq_true h) q2) (fun h => ?_)
        clear h q2
        go_wp2_with fail
        obtain ⟨m1, m2, m3, m4, m5⟩ := NUM.out
        have f5 := dv_end (s := s) (by omega) HY1.out HNX.out HEQ.out (by omega) hs
        go_ret2
        exact ⟨by rw [← f5.2, HEQ.out]; rfl, rfl⟩
end Go.Proofs.Ytdepdkpehbkcjaa
