/-
  What the reference's functions draw: times, damaged texts. Conditions: the code's bytes lie in the world.
-/
import Derived.Test.YtjgndfphbmkhaaaGreatDoorDrawN
import Derived.Test.YtjgndfphbmkhaaaGreatDoorTxt4
namespace Go.Proofs.YtjgndfphbmkhaaaGreatDoor
set_option linter.unusedVariables false
open Go.RowKit Go.Deep

def gs8 : Nat → ByteArray
  | 0 => { data := #[48] }
  | 1 => { data := #[58] }
  | 2 => { data := #[32] }
  | 3 => { data := #[46] }
  | 4 => { data := #[45] }
  | 5 => { data := #[54] }
  | 6 => { data := #[10] }
  | _ => { data := #[120] }
theorem gs8_size (q : Nat) : (gs8 q).size = 1 := by
  unfold gs8
  split <;> rfl
theorem gs8_get {q : Nat} (h : q < 8) : (#[.string { data := #[48] }, .string { data := #[58] }, .string { data := #[32] }, .string { data := #[46] }, .string { data := #[45] }, .string { data := #[54] }, .string { data := #[10] }, .string { data := #[120] }] : Array Value)[q]? = some (.string (gs8 q)) := by
  match q, h with
  | 0, _ => rfl
  | 1, _ => rfl
  | 2, _ => rfl
  | 3, _ => rfl
  | 4, _ => rfl
  | 5, _ => rfl
  | 6, _ => rfl
  | 7, _ => rfl
theorem gs8_cell {q : Nat} (h : q < 8) (Y : World) (T : TypeId) : (Y.alloc (.cells #[.string { data := #[48] }, .string { data := #[58] }, .string { data := #[32] }, .string { data := #[46] }, .string { data := #[45] }, .string { data := #[54] }, .string { data := #[10] }, .string { data := #[120] }] T)).cell? ⟨Y.heap.size, q, none⟩ = some (.string (gs8 q)) := by
  match q, h with
  | 0, _ => simp [go_sem]; rfl
  | 1, _ => simp [go_sem]; rfl
  | 2, _ => simp [go_sem]; rfl
  | 3, _ => simp [go_sem]; rfl
  | 4, _ => simp [go_sem]; rfl
  | 5, _ => simp [go_sem]; rfl
  | 6, _ => simp [go_sem]; rfl
  | 7, _ => simp [go_sem]; rfl
def gz6 : Nat → Int
  | 0 => -1
  | 1 => 0
  | 2 => 1000000000
  | 3 => 1000000001
  | 4 => 59999
  | _ => 60000
theorem gz6_get {q : Nat} (h : q < 6) : (#[.int .i64 (-1), .int .i64 0, .int .i64 1000000000, .int .i64 1000000001, .int .i64 59999, .int .i64 60000] : Array Value)[q]? = some (.int .i64 (gz6 q)) := by
  match q, h with
  | 0, _ => rfl
  | 1, _ => rfl
  | 2, _ => rfl
  | 3, _ => rfl
  | 4, _ => rfl
  | 5, _ => rfl
theorem gz6_cell {q : Nat} (h : q < 6) (Y : World) (T : TypeId) : (Y.alloc (.cells #[.int .i64 (-1), .int .i64 0, .int .i64 1000000000, .int .i64 1000000001, .int .i64 59999, .int .i64 60000] T)).cell? ⟨Y.heap.size, q, none⟩ = some (.int .i64 (gz6 q)) := by
  match q, h with
  | 0, _ => simp [go_sem]; rfl
  | 1, _ => simp [go_sem]; rfl
  | 2, _ => simp [go_sem]; rfl
  | 3, _ => simp [go_sem]; rfl
  | 4, _ => simp [go_sem]; rfl
  | 5, _ => simp [go_sem]; rfl
set_option maxRecDepth 100000 in
set_option maxHeartbeats 4000000 in
theorem l01Damage_c (g : Nat) (a : Option Addr) (n cap : Nat) (t : ByteArray) (w : World) (hn : n ≤ 9223372036854775807) (ht : t.size ≤ 1048575) (hs : Src g a n cap w) : Calls Tryz.prog 39 #[.pointer (some ⟨g, 0, none⟩), .string t] w fun e w' => (∃ u : ByteArray, e = .returned (.string u) ∧ u.size ≤ t.size + 1) ∧ Src g a n cap w' ∧ Kept g w w' := by
  have HS := Lib.hid hs
  clear hs
  have w1 : IntKind.i64.wrap ((t.size : Int) + 1) = (t.size : Int) + 1 := by rw [IntKind.wrap_i64]; omega
  go_enter Tryz.func39, Tryz.ntmps39
  go_wp2_with fail
  refine (l01NextN_c g a n cap _ _ hn HS.out).mono ?_
  rintro e V0 ⟨⟨k, rfl, hk1, hk2⟩, hs0, hk0⟩
  have hk : k ≤ t.size := by
    rcases Nat.eq_zero_or_pos t.size with h | h
    · have := hk2 (by omega); omega
    · have := (hk1 (by omega)).1; omega
  have hk' : (k : Int) ≤ (t.size : Int) := by omega
  clear hk1 hk2 HS
  have HS0 := Lib.hid hs0
  have HK0 := Lib.hid hk0
  clear hs0 hk0
  go_wp2_with fail
  refine (l01NextN_c g a n cap _ _ hn HS0.out).mono ?_
  rintro e V1 ⟨⟨q, rfl, hq1, hq2⟩, hs1, hk1⟩
  have HS1 := Lib.hid hs1
  have HK1 := Lib.hid (HK0.out.trans hk1)
  have hVg : V1.heap.size ≠ g := by have := hs1.lt; omega
  clear hs1 hk1 hq1 hq2 HS0 HK0
  by_cases h0 : q = 0
  · subst h0
    go_wp2_with fail
    go_ret
    exact ⟨⟨_, rfl, by rw [ByteArray.size_extract]; omega⟩, HS1.out, HK1.out⟩
  have h0' : ((q : Int) == 0) = false := by simp; omega
  clear h0
  by_cases h1 : q = 1
  · subst h1
    go_upto_region 6 with fail
    have hli0 : ∀ x : Obj, V1.heap.size < (V1.alloc x).heap.size := fun x => by simp
    have hli1 : ∀ x : Obj, V1.heap.size < (V1.alloc x).drew.heap.size := fun x => by simp
    have hs3 := HS1.out
    go_cut [4] (fun p wx => ∃ u : ByteArray, p = .string u ∧ u.size ≤ t.size + 1 ∧ Src g a n cap wx ∧ Kept g w wx)
    case first =>
      have y1 : ∀ q, ¬ 9223372036854775807 < (t.extract 0 k).size + (gs8 q).size := fun q => by rw [gs8_size, ByteArray.size_extract]; omega
      have y2 : ∀ q, ¬ 9223372036854775807 < (t.extract 0 k ++ gs8 q).size + (t.extract k t.size).size := fun q => by rw [ByteArray.size_append, gs8_size, ByteArray.size_extract, ByteArray.size_extract]; omega
      have hqs := gs8_size
      go_region_with (go_at_call 47; refine (l01NextN_c g a n cap _ _ hn (by first | exact hs3 | exact hs3.drew | exact hs3.alloc _ | exact (hs3.alloc _).drew | exact (hs3.drew).alloc _)).mono ?_; rintro e w1 ⟨⟨q, rfl, hq1, hq2⟩, hs4, HK⟩; simp at hq1; clear hq2; obtain ⟨hq1, hq3⟩ := hq1; have hK3 : Kept g V1 w1 := (by first | exact HK | exact (Kept.refl g V1).drew.trans HK | exact ((Kept.refl g V1).alloc _).trans HK | exact ((Kept.refl g V1).alloc _).drew.trans HK | exact ((Kept.refl g V1).drew.alloc _).trans HK); have hm7 := gs8_get hq3; have hm6 := gs8_cell hq3 w1 9; (try (have hm5 := ((kcell HK).1 V1.heap.size q (hli1 _) hVg).trans (gs8_cell hq3 V1 9))); (try (have hm5 := ((kcell HK).1 V1.heap.size q (hli0 _) hVg).trans (gs8_cell hq3 V1 9))); (try have hz9 := Nat.lt_of_lt_of_le (hli0 _) HK.size); (try have hz9 := Nat.lt_of_lt_of_le (hli1 _) HK.size))
      all_goals have HS4 := Lib.hid hs4
      all_goals have HK4 := Lib.hid (HK1.out.trans hK3)
      all_goals have HU := Lib.hid (show (t.extract 0 k ++ gs8 q ++ t.extract k t.size).size ≤ t.size + 1 by simp only [ByteArray.size_append, ByteArray.size_extract, gs8_size]; omega)
      all_goals clear hs4 HK hK3 hm7 hm6 y1 y2 hqs hs3 hli0 hli1
      all_goals go_wp2_with fail
      all_goals go_meet
      all_goals exact ⟨_, rfl, HU.out, (by first | exact HS4.out | exact HS4.out.alloc _), (by first | exact HK4.out | exact HK4.out.alloc _)⟩
    case rest =>
      obtain ⟨u, rfl, hu, hsu, hku⟩ := hcut
      go_wp2_with fail
      go_ret
      exact ⟨⟨_, rfl, hu⟩, hsu, hku⟩
  have h1' : ((q : Int) == 1) = false := by simp; omega
  clear h1
  by_cases h2 : q = 2
  · subst h2
    by_cases hlt : k < t.size
    · have hlt' : (k : Int) < (t.size : Int) := by omega
      have w2 : IntKind.i64.wrap ((k : Int) + 1) = (k : Int) + 1 := by rw [IntKind.wrap_i64]; omega
      have w3 : (k : Int) + 1 ≤ (t.size : Int) := by omega
      have w4 : (0 : Int) ≤ (k : Int) + 1 := by omega
      have w5 : ((k : Int) + 1).toNat = k + 1 := by omega
      have z1 : (t.extract 0 k).size = k := by rw [ByteArray.size_extract]; omega
      have z2 : (t.extract (k + 1) t.size).size = t.size - (k + 1) := by rw [ByteArray.size_extract]; omega
      go_upto_region 9 with fail
      refine wp_region_later (by kernel_rfl) (by kernel_rfl) ?_
      repeat (first | go_big_quiet_step (fail) | quiet_step (fail))
      refine wpQuiet_nil ?_
      intro _ hw'
      obtain ⟨s9, hw''⟩ := hw'
      subst hw''
      have hb := s9.below
      generalize s9.w = V2 at hb ⊢
      go_wp2_with fail
      go_ret
      exact ⟨⟨_, rfl, by simp only [ByteArray.size_append, ByteArray.size_extract]; omega⟩, HS1.out.below hb, HK1.out.trans (Kept.of hb)⟩
    · have hlt' : ¬ (k : Int) < (t.size : Int) := by omega
      go_wp2_with fail
      go_ret
      exact ⟨⟨_, rfl, by omega⟩, HS1.out, HK1.out⟩
  have h2' : ((q : Int) == 2) = false := by simp; omega
  clear h2
  go_wp2_with fail
  go_ret
  exact ⟨⟨_, rfl, by omega⟩, HS1.out, HK1.out⟩
end Go.Proofs.YtjgndfphbmkhaaaGreatDoor
