/-
  The position on a track, the reference's. Conditions: the cells lie in the world; what else stands with each.
-/
import Derived.Test.YtdepdkpehbkcjaaL03k
import Derived.Test.YtdepdkpehbkcjaaH4
namespace Go.Proofs.Ytdepdkpehbkcjaa
set_option linter.unusedVariables false
open Go.RowKit Go.Deep

set_option maxHeartbeats 1600000 in
theorem l02At_c (a b n m : Int) (w : World) (a1 : -1000000 ≤ a) (a2 : a ≤ 1000000) (b1 : -1000000 ≤ b) (b2 : b ≤ 1000000) (h0 : 0 ≤ n) (h1 : n ≤ m) (hm : 1 ≤ m) (hm2 : m ≤ 100000000000000) : Calls Try.prog 91 #[.int .i64 a, .int .i64 b, .agg #[.int .i64 n, .int .i64 m]] w fun e w' => e = .returned (.int .i64 (a + (b - a) * n / m)) ∧ Below w.heap.size w w' := by
  have E := Lib.hid (@split_div (b - a) n m hm)
  obtain ⟨d, hd⟩ : ∃ d, b - a = d := ⟨_, rfl⟩
  rw [hd] at E ⊢
  have d1 : -2000000 ≤ d := by omega
  have d2 : d ≤ 2000000 := by omega
  have k1 : -2000 ≤ d / 1000 := by omega
  have k2 : d / 1000 ≤ 2000 := by omega
  have k3 : 0 ≤ d - 1000 * (d / 1000) := by omega
  have k4 : d - 1000 * (d / 1000) ≤ 999 := by omega
  have f1 := fun w => l01Floor_c d 1000 w (by omega) (by omega) (by omega) (by omega)
  generalize d / 1000 = h at *
  have m1 := mul_bd (a := h) (b := n) (m := 2000) (n := 100000000000000) (by omega) (by omega) (by omega) (by omega)
  have q1 := place_bd hm h0 h1 (k := 2000) (by omega) k1 k2
  obtain ⟨p, hp⟩ : ∃ p, h * n = p := ⟨_, rfl⟩
  rw [hp] at E m1 q1
  have f2 := fun w => l01Floor_c p m w (by omega) (by omega) (by omega) (by omega)
  obtain ⟨r1, r2⟩ := div_parts' p m hm
  generalize p / m = q at *
  have m2 := mul_bd (a := q) (b := m) (m := 2000) (n := 100000000000000) (by omega) (by omega) (by omega) (by omega)
  obtain ⟨s, hs⟩ : ∃ s, q * m = s := ⟨_, rfl⟩
  rw [hs] at E r1 r2 m2
  obtain ⟨g, hg⟩ : ∃ g, d - 1000 * h = g := ⟨_, rfl⟩
  rw [hg] at E k3 k4
  have m3 := mul_bd (a := g) (b := n) (m := 999) (n := 100000000000000) (by omega) (by omega) (by omega) (by omega)
  have v0 := Int.mul_nonneg k3 h0
  obtain ⟨v, hv⟩ : ∃ v, g * n = v := ⟨_, rfl⟩
  rw [hv] at E m3 v0
  have f3 := fun w => l01Floor_c (1000 * (p - s) + v) m w (by omega) (by omega) (by omega) (by omega)
  have z1 := div_bd (a := 1000 * (p - s) + v) hm
  have z2 := z1.1 (by omega)
  clear z1
  generalize (1000 * (p - s) + v) / m = z at *
  obtain ⟨m1a, m1b⟩ := m1
  obtain ⟨m2a, m2b⟩ := m2
  obtain ⟨m3a, m3b⟩ := m3
  obtain ⟨q1a, q1b⟩ := q1
  obtain ⟨z2a, z2b⟩ := z2
  have F1 := Lib.hid f1
  have F2 := Lib.hid f2
  have F3 := Lib.hid f3
  clear f1 f2 f3
  go_enter Try.func91, Try.ntmps91
  go_wp2_with (first | (go_at_call_of 120 v; refine (F3.out _).mono ?_; rintro e w' ⟨rfl, rfl⟩) | (go_at_call_of 120 d; refine (F1.out _).mono ?_; rintro e w' ⟨rfl, rfl⟩) | (go_at_call_of 120 p; refine (F2.out _).mono ?_; rintro e w' ⟨rfl, rfl⟩))
  go_ret
  exact ⟨ret_int (by rw [E.out]; omega), (by repeat (first | with_reducible exact Below.refl _ _ | with_reducible assumption | with_reducible refine Below.drew ?_ | with_reducible refine Below.alloc ?_ (by first | exact Nat.le_refl _ | (simp; done) | (simp; omega) | omega) _ | with_reducible refine Below.setCell ?_ (by first | exact Nat.le_refl _ | (simp; done) | (simp; omega) | omega) _ | with_reducible refine Below.trans ?_ (Below.mono (by with_reducible assumption) (by first | exact Nat.le_refl _ | (simp; done) | (simp; omega) | omega))))⟩
set_option maxHeartbeats 4000000 in
theorem l03At_c (a : Option Addr) (cap : Nat) (l : List Fx) (t : Int) (w : World) (hl : l.length ≤ 4611686018427387904) (e1 : isTrk l = true) (e2 : lastsB l t = true) (hf : FixAt w a l) : Calls Try.prog 70 #[.agg #[.slice a l.length cap], .int .i64 t] w fun e w' => e = .returned (.agg #[.int .i64 (posX l t), .int .i64 (posY l t)]) ∧ Below w.heap.size w w' := by
  have h2 := (isTrk_true e1).1
  have hk := legN_lt t h2
  obtain ⟨hp, hq, t0, t1, t2⟩ := leg_facts e1 hk
  obtain ⟨u1, u2⟩ := legN_times e1 e2
  have HL := Lib.hid (fun w h => l03Leg_c a cap l t w hl h2 h)
  unfold posX posY placeZ
  generalize legN l t = k at *
  obtain ⟨p1, p2, p3, p4⟩ := isPt_true hp
  obtain ⟨q1, q2, q3, q4⟩ := isPt_true hq
  have hF0 := Lib.hid hf
  obtain ⟨b, off, rfl, hlt, hcs⟩ := hf.head (by omega)
  obtain ⟨c0, c1, c2⟩ := hcs k (by omega)
  obtain ⟨m, hm⟩ : ∃ m, m = k + 1 := ⟨_, rfl⟩
  obtain ⟨d0, d1, d2⟩ := hcs m (by omega)
  clear hcs hf hp hq e1 e2
  have g1 : (k : Int) < (l.length : Int) := by omega
  have g2 : (m : Int) < (l.length : Int) := by omega
  have g3 : (k : Int) + 1 = (m : Int) := by omega
  have g4 : IntKind.i64.wrap (m : Int) = (m : Int) := by rw [IntKind.wrap_i64]; omega
  simp only [← hm] at *
  clear hm
  generalize fx l k = fk at *
  generalize fx l m = fm at *
  have x1 := mul_bd (a := fm.x - fk.x) (b := t - fk.t) (m := 2000000) (n := 1000000000) (by omega) (by omega) (by omega) (by omega)
  have y1 := mul_bd (a := fm.y - fk.y) (b := t - fk.t) (m := 2000000) (n := 1000000000) (by omega) (by omega) (by omega) (by omega)
  have x2 := place_bd (d := fm.x - fk.x) (n := t - fk.t) (m := fm.t - fk.t) (k := 2000000) (by omega) (by omega) (by omega) (by omega) (by omega) (by omega)
  have y2 := place_bd (d := fm.y - fk.y) (n := t - fk.t) (m := fm.t - fk.t) (k := 2000000) (by omega) (by omega) (by omega) (by omega) (by omega) (by omega)
  have x1a : -2000000000000000 ≤ (fm.x - fk.x) * (t - fk.t) := by omega
  have x1b : (fm.x - fk.x) * (t - fk.t) ≤ 2000000000000000 := by omega
  have y1a : -2000000000000000 ≤ (fm.y - fk.y) * (t - fk.t) := by omega
  have y1b : (fm.y - fk.y) * (t - fk.t) ≤ 2000000000000000 := by omega
  clear x1 y1
  obtain ⟨x2a, x2b⟩ := x2
  obtain ⟨y2a, y2b⟩ := y2
  have FX := Lib.hid (fun w => l02At_c fk.x fm.x (t - fk.t) (fm.t - fk.t) w (by omega) (by omega) (by omega) (by omega) (by omega) (by omega) (by omega) (by omega))
  have FY := Lib.hid (fun w => l02At_c fk.y fm.y (t - fk.t) (fm.t - fk.t) w (by omega) (by omega) (by omega) (by omega) (by omega) (by omega) (by omega) (by omega))
  have hlt1 : b < w.heap.size + 1 := by omega
  have hlt2 : b < w.heap.size + 1 + 1 := by omega
  go_enter Try.func70, Try.ntmps70
  go_upto_region 2 with (go_at_call 108; refine (HL.out _ (FixAt.below hF0.out (by repeat (first | with_reducible exact Below.refl _ _ | with_reducible assumption | with_reducible refine Below.drew ?_ | with_reducible refine Below.alloc ?_ (by first | exact Nat.le_refl _ | (simp; done) | (simp; omega) | omega) _ | with_reducible refine Below.setCell ?_ (by first | exact Nat.le_refl _ | (simp; done) | (simp; omega) | omega) _ | with_reducible refine Below.trans ?_ (Below.mono (by with_reducible assumption) (by first | exact Nat.le_refl _ | (simp; done) | (simp; omega) | omega)))))).mono ?_; rintro e w1 ⟨rfl, hb⟩; (try replace hb := below_trans (by with_reducible assumption) hb); obtain ⟨hc, hf⟩ := bcell hb; have hz := hb.size; (try simp at hz); (try have hz0 : w.heap.size ≤ w1.heap.size := by omega); (try have hz1 : w.heap.size < w1.heap.size := by omega); (try have hz2 : w.heap.size + 1 < w1.heap.size := by omega); (try have hz3 : w.heap.size + 1 + 1 < w1.heap.size := by omega); (try have hz4 : w.heap.size + 1 + 1 + 1 < w1.heap.size := by omega))
  obtain ⟨wA, hwA⟩ : ∃ x : World, x = w1 := ⟨_, rfl⟩
  subst hwA
  have HA : Below w.heap.size w wA := (by repeat (first | with_reducible exact Below.refl _ _ | with_reducible assumption | with_reducible refine Below.drew ?_ | with_reducible refine Below.alloc ?_ (by first | exact Nat.le_refl _ | (simp; done) | (simp; omega) | omega) _ | with_reducible refine Below.setCell ?_ (by first | exact Nat.le_refl _ | (simp; done) | (simp; omega) | omega) _ | with_reducible refine Below.trans ?_ (Below.mono (by with_reducible assumption) (by first | exact Nat.le_refl _ | (simp; done) | (simp; omega) | omega))))
  have a1 : w.heap.size < wA.heap.size := by omega
  have a2 : w.heap.size + 1 < wA.heap.size := by omega
  have a3 : b < wA.heap.size := by omega
  have a4 : b < wA.heap.size + 1 := by omega
  have a5 : b < wA.heap.size + 1 + 1 := by omega
  have a6 : w.heap.size < wA.heap.size + 1 := by omega
  have a7 : w.heap.size < wA.heap.size + 1 + 1 := by omega
  have a8 : w.heap.size + 1 < wA.heap.size + 1 := by omega
  have a9 : w.heap.size + 1 < wA.heap.size + 1 + 1 := by omega
  have z0 : wA.cell? ⟨w.heap.size + 1, 0, none⟩ = some (.int .i64 0) := by simp [go_sem, *]
  have z1 : wA.cell? ⟨w.heap.size + 1, 1, none⟩ = some (.int .i64 0) := by simp [go_sem, *]
  have z2 : wA.frozen? ⟨w.heap.size + 1, 0, none⟩ = false := by simp [go_sem, *]
  have z3 : wA.frozen? ⟨w.heap.size + 1, 1, none⟩ = false := by simp [go_sem, *]
  go_cut [6, 7] (fun s6 s7 wx => ∃ B C : Nat, s6 = .pointer (some ⟨B, 0, none⟩) ∧ s7 = .pointer (some ⟨C, 0, none⟩) ∧ wx.cell? ⟨B, 0, none⟩ = some (.int .i64 fk.t) ∧ wx.cell? ⟨B, 1, none⟩ = some (.int .i64 fk.x) ∧ wx.cell? ⟨B, 2, none⟩ = some (.int .i64 fk.y) ∧ wx.cell? ⟨C, 0, none⟩ = some (.int .i64 fm.t) ∧ wx.cell? ⟨C, 1, none⟩ = some (.int .i64 fm.x) ∧ wx.cell? ⟨C, 2, none⟩ = some (.int .i64 fm.y) ∧ wA.heap.size ≤ B ∧ wA.heap.size ≤ C ∧ B < wx.heap.size ∧ C < wx.heap.size ∧ Below wA.heap.size wA wx)
  case first =>
    go_region
    all_goals (go_wp2_with fail)
    all_goals (go_meet; exact ⟨_, _, rfl, rfl, by simp [go_sem, *], by simp [go_sem, *], by simp [go_sem, *], by simp [go_sem, *], by simp [go_sem, *], by simp [go_sem, *], by first | (simp; done) | (simp; omega), by first | (simp; done) | (simp; omega), by first | (simp; done) | (simp; omega), by first | (simp; done) | (simp; omega), (by repeat (first | with_reducible exact Below.refl _ _ | with_reducible assumption | with_reducible refine Below.drew ?_ | with_reducible refine Below.alloc ?_ (by first | exact Nat.le_refl _ | (simp; done) | (simp; omega) | omega) _ | with_reducible refine Below.setCell ?_ (by first | exact Nat.le_refl _ | (simp; done) | (simp; omega) | omega) _ | with_reducible refine Below.trans ?_ (Below.mono (by with_reducible assumption) (by first | exact Nat.le_refl _ | (simp; done) | (simp; omega) | omega))))⟩)
  case rest =>
    obtain ⟨B, C, rfl, rfl, b0, b1, b2, d0, d1, d2, hB, hC, lB, lC, hbc⟩ := hcut
    obtain ⟨hcc, hfc⟩ := bcell hbc
    have hzc := hbc.size
    have y0 := (hcc _ _ a2).trans z0
    have y1 := (hcc _ _ a2).trans z1
    have y2 := (hfc _ 0 a2).trans z2
    have y3 := (hfc _ 1 a2).trans z3
    have nB : B ≠ w.heap.size + 1 := by omega
    have nC : C ≠ w.heap.size + 1 := by omega
    clear hcc hfc a1 a3 a4 a5 a6 a7 a8 a9 z0 z1 z2 z3 c0 c1 c2 hlt hlt1 hlt2
    have HC : Below w.heap.size w wc := HA.trans (hbc.mono HA.size)
    have HD : Below w.heap.size w (wc.alloc (.cells #[.int .i64 (t - fk.t), .int .i64 (fm.t - fk.t)] 55)) := (by repeat (first | with_reducible exact Below.refl _ _ | with_reducible assumption | with_reducible refine Below.drew ?_ | with_reducible refine Below.alloc ?_ (by first | exact Nat.le_refl _ | (simp; done) | (simp; omega) | omega) _ | with_reducible refine Below.setCell ?_ (by first | exact Nat.le_refl _ | (simp; done) | (simp; omega) | omega) _ | with_reducible refine Below.trans ?_ (Below.mono (by with_reducible assumption) (by first | exact Nat.le_refl _ | (simp; done) | (simp; omega) | omega))))
    have a5 : w.heap.size + 1 < wc.heap.size := by omega
    have y0 : (wc.alloc (.cells #[.int .i64 (t - fk.t), .int .i64 (fm.t - fk.t)] 55)).cell? ⟨w.heap.size + 1, 0, none⟩ = some (.int .i64 0) := by simp [go_sem, *]
    have y1 : (wc.alloc (.cells #[.int .i64 (t - fk.t), .int .i64 (fm.t - fk.t)] 55)).cell? ⟨w.heap.size + 1, 1, none⟩ = some (.int .i64 0) := by simp [go_sem, *]
    have y2 : (wc.alloc (.cells #[.int .i64 (t - fk.t), .int .i64 (fm.t - fk.t)] 55)).frozen? ⟨w.heap.size + 1, 0, none⟩ = false := by simp [go_sem, *]
    have y3 : (wc.alloc (.cells #[.int .i64 (t - fk.t), .int .i64 (fm.t - fk.t)] 55)).frozen? ⟨w.heap.size + 1, 1, none⟩ = false := by simp [go_sem, *]
    have hl4 : w.heap.size + 1 < (wc.alloc (.cells #[.int .i64 (t - fk.t), .int .i64 (fm.t - fk.t)] 55)).heap.size := by simp; omega
    have nW : wc.heap.size ≠ w.heap.size + 1 := by omega
    have lB1 : B < wc.heap.size + 1 := by omega
    have lC1 : C < wc.heap.size + 1 := by omega
    have HBC := Lib.hid hbc
    clear hbc
    go_upto_region 4 with fail
    go_region_held3 (fun wx => ((∀ b o, b < (wc.alloc (.cells #[.int .i64 (t - fk.t), .int .i64 (fm.t - fk.t)] 55)).heap.size → b ≠ (w.heap.size + 1) → wx.cell? ⟨b, o, none⟩ = (wc.alloc (.cells #[.int .i64 (t - fk.t), .int .i64 (fm.t - fk.t)] 55)).cell? ⟨b, o, none⟩) ∧ wx.cell? ⟨(w.heap.size + 1), 0, none⟩ = some (.int .i64 (rd wx ⟨(w.heap.size + 1), 0, none⟩)) ∧ wx.cell? ⟨(w.heap.size + 1), 1, none⟩ = some (.int .i64 (rd wx ⟨(w.heap.size + 1), 1, none⟩)) ∧ wx.frozen? ⟨(w.heap.size + 1), 0, none⟩ = false ∧ wx.frozen? ⟨(w.heap.size + 1), 1, none⟩ = false ∧ Kept (w.heap.size + 1) (wc.alloc (.cells #[.int .i64 (t - fk.t), .int .i64 (fm.t - fk.t)] 55)) wx))
      (first | with_reducible assumption | with_reducible exact h4_below (by with_reducible assumption) hl4 hb | with_reducible exact h4_set1 (h4_set0 (by with_reducible assumption) _) _ | exact h4_mk (Kept.refl _ _).drew y0 y1 y2 y3)
      (first | (go_at_call_of 91 (fm.x); refine (FX.out _).mono ?_; rintro e w1 ⟨rfl, hb⟩) | (go_at_call_of 91 (fm.y); refine (FY.out _).mono ?_; rintro e w1 ⟨rfl, hb⟩))
    all_goals go_wp2
    all_goals have hv := h4_vals (by with_reducible assumption)
    all_goals obtain ⟨hv0, hv1⟩ := hv
    all_goals exact bodyPost_ret (v := .agg #[.int .i64 (fk.x + (fm.x - fk.x) * (t - fk.t) / (fm.t - fk.t)), .int .i64 (fk.y + (fm.y - fk.y) * (t - fk.t) / (fm.t - fk.t))]) (by simp [results, Try.results70, go_sem, *]) rfl ⟨rfl, kept_end HD (Nat.le_succ _) (h4_kept (by with_reducible assumption))⟩
end Go.Proofs.Ytdepdkpehbkcjaa
