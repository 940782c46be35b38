/-
  The draws of the law on times. Conditions: the code's bytes lie in the world.
-/
import Derived.Test.YtjgndfphbmkhaaaDoorTxd
import Derived.Test.YtjgndfphbmkhaaaDoorDraw3
namespace Go.Proofs.YtjgndfphbmkhaaaDoor
set_option linter.unusedVariables false
open Go.RowKit Go.Deep

theorem ttR_size (t : Int) : (ttR t).size ≤ 40 := by
  cases h : inR t 0 1000000000
  · have : ttR t = ⟨#[]⟩ := by unfold ttR; rw [h, if_neg (by decide)]
    rw [this]; decide
  · obtain ⟨h0, h1⟩ := inR_true h
    have : ttR t = ttB t.toNat := by unfold ttR; rw [h, if_pos rfl]
    rw [this]
    have q1 := dgB_size (n := t.toNat / 60000) (by omega)
    have q2 := lastB_size (t.toNat / 1000 % 60) 2
    have q3 := lastB_size (t.toNat % 1000) 3
    unfold ttB
    simp only [ByteArray.size_append, ba_size1]
    omega
set_option maxRecDepth 100000 in
set_option maxHeartbeats 1000000 in
theorem DrawTimeText_c (a : Option Addr) (n cap : Nat) (w : World) (hn : n ≤ 9223372036854775807) (hb : BytesB w.heap.size w a n) : Calls Tryd.prog 12 #[.slice a n cap] w fun e w' => (∃ x : Int, e = .returned (.int .i64 x)) ∧ Below w.heap.size w w' := by
  have CF := Lib.hid (l01From_c a n cap w hn hb)
  clear hb
  go_enter Tryd.func12, Tryd.ntmps12
  go_wp2_with fail
  refine CF.out.mono ?_
  rintro e V1 ⟨⟨g, rfl, hg, hs1⟩, hb1⟩
  have HS := Lib.hid hs1
  have HB := Lib.hid hb1
  clear hs1 CF
  go_wp2_with fail
  refine (l01DrawTime_c g a n cap _ hn HS.out).mono ?_
  rintro e V2 ⟨⟨x, rfl⟩, hs2, hk2⟩
  have HK := Lib.hid (kept_fin HB.out hg hk2)
  clear hs2 hk2 hb1
  go_wp2_with fail
  go_ret
  exact ⟨⟨_, rfl⟩, HK.out⟩
set_option maxRecDepth 100000 in
set_option maxHeartbeats 1000000 in
theorem DrawReadTime_c (a : Option Addr) (n cap : Nat) (w : World) (hn : n ≤ 9223372036854775807) (hb : BytesB w.heap.size w a n) : Calls Tryd.prog 13 #[.slice a n cap] w fun e w' => (∃ u : ByteArray, e = .returned (.string u) ∧ u.size ≤ 41) ∧ Below w.heap.size w w' := by
  have CF := Lib.hid (l01From_c a n cap w hn hb)
  clear hb
  go_enter Tryd.func13, Tryd.ntmps13
  go_wp2_with fail
  refine CF.out.mono ?_
  rintro e V1 ⟨⟨g, rfl, hg, hs1⟩, hb1⟩
  have HS := Lib.hid hs1
  have HB := Lib.hid hb1
  clear hs1 CF hb1
  go_wp2_with fail
  refine (l01DrawTime_c g a n cap _ hn HS.out).mono ?_
  rintro e V2 ⟨⟨x, rfl⟩, hs2, hk2⟩
  have HS2 := Lib.hid hs2
  have HK := Lib.hid hk2
  clear hs2 hk2 HS
  go_wp2_with fail
  refine (TimeTextS_c x _).mono ?_
  rintro e V3 ⟨rfl, hb3⟩
  have HS3 := Lib.hid (HS2.out.below hb3)
  have HK3 := Lib.hid (HK.out.trans (Kept.of hb3))
  clear hb3 HS2 HK
  have hz := ttR_size x
  go_wp2_with fail
  refine (l01Damage_c g a n cap (ttR x) _ hn (by omega) HS3.out).mono ?_
  rintro e V4 ⟨⟨u, rfl, hu⟩, hs4, hk4⟩
  have HK4 := Lib.hid (kept_fin HB.out hg (HK3.out.trans hk4))
  clear hs4 hk4 HS3 HK3
  go_wp2_with fail
  go_ret
  exact ⟨⟨_, rfl, by omega⟩, HK4.out⟩
end Go.Proofs.YtjgndfphbmkhaaaDoor
