/-
  The plain law of cut and joined tracks. No condition; no program is named.
-/
import Derived.Test.YtdepdkpehbkcjaaCutB
import Derived.Test.YtdepdkpehbkcjaaJoin
import Derived.Test.YtdepdkpehbkcjaaL03s
namespace Go.Proofs.Ytdepdkpehbkcjaa
set_option linter.unusedVariables false
open Go.RowKit Go.Deep

theorem placeC_lo (a b u v : Int) : placeZ a b u u v = a := by simp [placeZ]
theorem placeC_hi (a b : Int) {u v : Int} (h : u < v) : placeZ a b v u v = b := by
  unfold placeZ
  rw [Int.mul_ediv_cancel _ (by omega)]
  omega
theorem placeC_pt {a b t u v k : Int} (hk : 0 ≤ k) (a1 : -k ≤ a) (a2 : a ≤ k) (b1 : -k ≤ b) (b2 : b ≤ k) (h1 : u ≤ t) (h2 : t ≤ v) (h : u < v) : -k ≤ placeZ a b t u v ∧ placeZ a b t u v ≤ k := by
  unfold placeZ
  obtain ⟨p1, p2⟩ := place_between (d := b - a) (n := t - u) (m := v - u) (by omega) (by omega) (by omega)
  rcases Int.le_total 0 (b - a) with g | g
  · have := p1 g
    omega
  · have := p2 g
    omega
/-- a valid fix -/
def okF (q : Fx) : Prop := 0 ≤ q.t ∧ q.t ≤ 1000000000 ∧ isPt q.x q.y = true
theorem fx_getC {l : List Fx} {i : Nat} (h : i < l.length) : fx l i = l[i] := by
  have := fx_of h
  rw [List.getElem?_eq_getElem h] at this
  exact (Option.some.inj this).symm
theorem fx_memC {l : List Fx} {i : Nat} (h : i < l.length) : fx l i ∈ l := by rw [fx_getC h]; exact List.getElem_mem h
theorem mem_fxC {l : List Fx} {q : Fx} (h : q ∈ l) : ∃ i, i < l.length ∧ q = fx l i := by
  obtain ⟨i, hi, e⟩ := List.mem_iff_getElem.1 h
  exact ⟨i, hi, by rw [fx_getC hi]; exact e.symm⟩
theorem trk_lt {l : List Fx} (h : isTrk l = true) {i : Nat} : ∀ {j : Nat}, i < j → j < l.length → (fx l i).t < (fx l j).t
  | 0, hi, _ => by omega
  | j + 1, hi, hj => by
    have hs := (leg_facts h (k := j) hj).2.2.2.2
    rcases Nat.lt_or_eq_of_le (Nat.le_of_lt_succ hi) with g | g
    · have := trk_lt h g (by omega)
      omega
    · rw [g]; exact hs
theorem okUpto_mk {l : List Fx} : ∀ n, (∀ i, i < n → okAt l i = true) → okUpto l n = true
  | 0, _ => rfl
  | n + 1, h => by simp [okUpto, okUpto_mk n (fun i hi => h i (by omega)), h n (by omega)]
theorem trk_mk {l : List Fx} (h2 : 2 ≤ l.length) (h40 : l.length ≤ 40) (ho : ∀ q ∈ l, okF q) (hp : l.Pairwise (fun a b => a.t < b.t)) : isTrk l = true := by
  have hu : okUpto l l.length = true := okUpto_mk _ (fun i hi => by
    obtain ⟨o1, o2, o3⟩ := ho _ (fx_memC hi)
    refine okAt_4 (by simp [inR]; omega) o3 ?_
    by_cases h0 : i = 0
    · exact .inl h0
    · right
      rw [fx_getC hi, fx_getC (show i - 1 < l.length by omega)]
      exact (List.pairwise_iff_getElem.1 hp) (i - 1) i (by omega) hi (by omega))
  simp [isTrk, h2, h40, hu]
theorem trk_okF {l : List Fx} (h : isTrk l = true) : ∀ q ∈ l, okF q := fun q hq => by
  obtain ⟨i, hi, rfl⟩ := mem_fxC hq
  obtain ⟨o1, o2, o3, _⟩ := okAt_true (okUpto_lt (isTrk_true h).2.2 i hi)
  exact ⟨o1, o2, o3⟩
theorem lasts_fix {l : List Fx} (h : isTrk l = true) {k : Nat} (hk : k < l.length) : lastsB l (fx l k).t = true := by
  have a : (fx l 0).t ≤ (fx l k).t := by
    rcases Nat.eq_zero_or_pos k with g | g
    · rw [g]; exact Int.le_refl _
    · exact Int.le_of_lt (trk_lt h g hk)
  have b : (fx l k).t ≤ (fx l (l.length - 1)).t := by
    rcases Nat.lt_or_eq_of_le (show k ≤ l.length - 1 by omega) with g | g
    · exact Int.le_of_lt (trk_lt h g (by omega))
    · rw [g]; exact Int.le_refl _
  simp [lastsB, inR]
  omega
theorem pos_fix {l : List Fx} (h : isTrk l = true) {k : Nat} (hk : k < l.length) : posX l (fx l k).t = (fx l k).x ∧ posY l (fx l k).t = (fx l k).y := by
  obtain ⟨t1, t2⟩ := legN_times h (lasts_fix h hk)
  have hL := legN_lt (l := l) (fx l k).t (isTrk_true h).1
  unfold posX posY
  generalize legN l (fx l k).t = j at *
  have hs := (leg_facts h hL).2.2.2.2
  have h1 : j ≤ k := by
    rcases Nat.lt_or_ge k j with g | g
    · have := trk_lt h g (by omega)
      omega
    · exact g
  have h2 : k ≤ j + 1 := by
    rcases Nat.lt_or_ge (j + 1) k with g | g
    · have := trk_lt h g hk
      omega
    · exact g
  rcases Nat.lt_or_eq_of_le h1 with g | g
  · obtain rfl : k = j + 1 := by omega
    exact ⟨placeC_hi _ _ hs, placeC_hi _ _ hs⟩
  · subst g
    exact ⟨placeC_lo _ _ _ _, placeC_lo _ _ _ _⟩
theorem pos_ptC {l : List Fx} {t : Int} (h : isTrk l = true) (hl : lastsB l t = true) : isPt (posX l t) (posY l t) = true := by
  obtain ⟨t1, t2⟩ := legN_times h hl
  have hL := legN_lt (l := l) t (isTrk_true h).1
  unfold posX posY
  generalize legN l t = j at *
  obtain ⟨p1, p2, _, _, hs⟩ := leg_facts h hL
  obtain ⟨a1, a2, a3, a4⟩ := isPt_true p1
  obtain ⟨b1, b2, b3, b4⟩ := isPt_true p2
  have e1 := placeC_pt (k := 1000000) (by omega) a1 a2 b1 b2 t1 t2 hs
  have e2 := placeC_pt (k := 1000000) (by omega) a3 a4 b3 b4 t1 t2 hs
  exact isPt_mk e1.1 e1.2 e2.1 e2.2
theorem mids_mem {l : List Fx} {f t : Int} : ∀ n q, q ∈ mids l f t n → ∃ k, k < n ∧ q = fx l k ∧ f < q.t ∧ q.t < t
  | 0, q, h => by simp [mids] at h
  | n + 1, q, h => by
    unfold mids at h
    split at h
    · rename_i hc
      rcases List.mem_append.1 h with g | g
      · obtain ⟨k, hk, r⟩ := mids_mem n q g
        exact ⟨k, by omega, r⟩
      · simp at g
        subst g
        exact ⟨n, by omega, rfl, hc⟩
    · obtain ⟨k, hk, r⟩ := mids_mem n q h
      exact ⟨k, by omega, r⟩
theorem mids_pw {l : List Fx} {f t : Int} (h : isTrk l = true) : ∀ n, n ≤ l.length → (mids l f t n).Pairwise (fun a b => a.t < b.t)
  | 0, _ => List.Pairwise.nil
  | n + 1, hn => by
    have ih := mids_pw (f := f) (t := t) h n (by omega)
    unfold mids
    split
    · refine List.pairwise_append.2 ⟨ih, List.pairwise_singleton _ _, fun a ha b hb => ?_⟩
      simp at hb
      subst hb
      obtain ⟨k, hk, rfl, _⟩ := mids_mem n a ha
      exact trk_lt h hk (by omega)
    · exact ih
theorem mids_first {l : List Fx} {f t : Int} (h0 : (fx l 0).t ≤ f) : ∀ k, (mids l f t (k + 1)).length ≤ k
  | 0 => by rw [mids_no (by omega)]; exact Nat.le_refl _
  | k + 1 => by
    have := mids_first (t := t) h0 k
    rw [mids]
    split
    · simp; omega
    · omega
theorem mids_both {l : List Fx} {f t : Int} (h2 : 2 ≤ l.length) (h0 : (fx l 0).t ≤ f) (h1 : t ≤ (fx l (l.length - 1)).t) : (mids l f t l.length).length + 2 ≤ l.length := by
  obtain ⟨m, hm⟩ : ∃ m, l.length = m + 2 := ⟨l.length - 2, by omega⟩
  have := mids_first (t := t) h0 m
  rw [hm] at h1 ⊢
  rw [mids_no (k := m + 1) (by simp at h1; omega)]
  omega
theorem cut_len (l : List Fx) (f t : Int) : (cutL l f t).length = (mids l f t l.length).length + 2 := by simp [cutL]
theorem cut_mem {l : List Fx} {f t : Int} {q : Fx} (h : q ∈ cutL l f t) : q = ⟨f, posX l f, posY l f⟩ ∨ q = ⟨t, posX l t, posY l t⟩ ∨ ∃ k, k < l.length ∧ q = fx l k ∧ f < q.t ∧ q.t < t := by
  unfold cutL at h
  rcases List.mem_append.1 h with h | h
  · rcases List.mem_cons.1 h with h | h
    · exact .inl h
    · exact .inr (.inr (mids_mem _ _ h))
  · simp at h
    exact .inr (.inl h)
theorem cut_okF {l : List Fx} {f t : Int} (h : isTrk l = true) (hf : lastsB l f = true) (ht : lastsB l t = true) : ∀ q ∈ cutL l f t, okF q := fun q hq => by
  have h2 := (isTrk_true h).1
  obtain ⟨a1, a2⟩ := inR_true hf
  obtain ⟨b1, b2⟩ := inR_true ht
  have o0 := trk_okF h _ (fx_memC (show 0 < l.length by omega))
  have o1 := trk_okF h _ (fx_memC (show l.length - 1 < l.length by omega))
  rcases cut_mem hq with rfl | rfl | ⟨k, hk, rfl, _⟩
  · exact ⟨by have := o0.1; simp only; omega, by have := o1.2.1; simp only; omega, pos_ptC h hf⟩
  · exact ⟨by have := o0.1; simp only; omega, by have := o1.2.1; simp only; omega, pos_ptC h ht⟩
  · exact trk_okF h _ (fx_memC hk)
theorem cut_pw {l : List Fx} {f t : Int} (h : isTrk l = true) (hft : f < t) : (cutL l f t).Pairwise (fun a b => a.t < b.t) := by
  unfold cutL
  refine List.pairwise_append.2 ⟨List.pairwise_cons.2 ⟨fun b hb => ?_, mids_pw h _ (Nat.le_refl _)⟩, List.pairwise_singleton _ _, fun a ha b hb => ?_⟩
  · obtain ⟨k, hk, rfl, g, _⟩ := mids_mem _ _ hb
    exact g
  · simp at hb
    subst hb
    rcases List.mem_cons.1 ha with rfl | ha
    · exact hft
    · obtain ⟨k, hk, rfl, _, g⟩ := mids_mem _ _ ha
      exact g
theorem cut_trk {l : List Fx} {f t : Int} (h : isTrk l = true) (hft : f < t) (hf : lastsB l f = true) (ht : lastsB l t = true) : isTrk (cutL l f t) = true := by
  obtain ⟨h2, h40, _⟩ := isTrk_true h
  have := mids_both (f := f) (t := t) h2 (inR_true hf).1 (inR_true ht).2
  exact trk_mk (by rw [cut_len]; omega) (by rw [cut_len]; omega) (cut_okF h hf ht) (cut_pw h hft)
theorem cut_pos {l : List Fx} {f t : Int} (h : isTrk l = true) (hf : lastsB l f = true) (ht : lastsB l t = true) : ∀ q ∈ cutL l f t, posR l q.t = (q.x, q.y, 0) := fun q hq => by
  rcases cut_mem hq with rfl | rfl | ⟨k, hk, rfl, _⟩
  · simp [posR, codeZ, h, hf]
  · simp [posR, codeZ, h, ht]
  · have e := pos_fix h hk
    simp [posR, codeZ, h, lasts_fix h hk, e.1, e.2]
theorem fx_lastC (X : List Fx) (z : Fx) : fx (X ++ [z]) ((X ++ [z]).length - 1) = z := by
  rw [fx_getC (by simp)]
  simp
theorem cut_last (l : List Fx) (f t : Int) : lastFx (cutL l f t) = ⟨t, posX l t, posY l t⟩ := by
  unfold lastFx cutL
  exact fx_lastC _ _
theorem cut_first (l : List Fx) (f t : Int) : fx (cutL l f t) 0 = ⟨f, posX l f, posY l f⟩ := rfl
/-- the cut track, and the rest -/
def wholeL (l : List Fx) (f t z : Int) : List Fx := cutL l f t ++ (cutL l t z).tail
theorem join_cut {l : List Fx} {f t z : Int} (h : isTrk l = true) (hft : f < t) (htz : t < z) (hf : lastsB l f = true) (ht : lastsB l t = true) (hz : lastsB l z = true) : joinR (cutL l f t) (cutL l t z) = if 40 < (cutL l f t).length + ((cutL l t z).length - 1) then ([], 3) else (wholeL l f t z, 0) := by
  unfold joinR
  rw [if_pos ⟨cut_trk h hft hf ht, cut_trk h htz ht hz⟩, cut_last, cut_first]
  simp only [and_self, if_true, wholeL]
theorem whole_eq (l : List Fx) (f t z : Int) : wholeL l f t z = (cutL l f t ++ mids l t z l.length) ++ [⟨z, posX l z, posY l z⟩] := by
  unfold wholeL
  conv => lhs; rw [show cutL l t z = (⟨t, posX l t, posY l t⟩ :: mids l t z l.length) ++ [⟨z, posX l z, posY l z⟩] from rfl]
  simp
theorem whole_trk {l : List Fx} {f t z : Int} (h : isTrk l = true) (hft : f < t) (htz : t < z) (hf : lastsB l f = true) (ht : lastsB l t = true) (hz : lastsB l z = true) (hn : ¬ 40 < (cutL l f t).length + ((cutL l t z).length - 1)) : isTrk (wholeL l f t z) = true := by
  have hle : (wholeL l f t z).length = (cutL l f t).length + ((cutL l t z).length - 1) := by unfold wholeL; simp
  have h2 := cut_len l f t
  refine trk_mk (by omega) (by omega) (fun q hq => ?_) ?_
  · rcases List.mem_append.1 hq with g | g
    · exact cut_okF h hf ht _ g
    · exact cut_okF h ht hz _ (List.mem_of_mem_tail g)
  · unfold wholeL
    refine List.pairwise_append.2 ⟨cut_pw h hft, (cut_pw h htz).tail, fun a ha b hb => ?_⟩
    have a1 : a.t ≤ t := by
      rcases cut_mem ha with rfl | rfl | ⟨k, hk, rfl, _, g⟩
      · exact Int.le_of_lt hft
      · exact Int.le_refl _
      · exact Int.le_of_lt g
    have b1 : t < b.t := by
      have hp := cut_pw h htz
      rw [show cutL l t z = ⟨t, posX l t, posY l t⟩ :: (cutL l t z).tail from rfl] at hp
      exact (List.pairwise_cons.1 hp).1 b hb
    omega
theorem whole_pos {l : List Fx} {f t : Int} (h : isTrk l = true) (hft : f < t) (htz : t < (fx l (l.length - 1)).t) (hf : lastsB l f = true) (ht : lastsB l t = true) (hn : ¬ 40 < (cutL l f t).length + ((cutL l t (fx l (l.length - 1)).t).length - 1)) : posR (wholeL l f t (fx l (l.length - 1)).t) (fx l (l.length - 1)).t = ((fx l (l.length - 1)).x, (fx l (l.length - 1)).y, 0) := by
  have h2 := (isTrk_true h).1
  have hz := lasts_fix h (show l.length - 1 < l.length by omega)
  have hw := whole_trk h hft htz hf ht hz hn
  have e := pos_fix h (show l.length - 1 < l.length by omega)
  have hw2 := (isTrk_true hw).1
  have hl : fx (wholeL l f t (fx l (l.length - 1)).t) ((wholeL l f t (fx l (l.length - 1)).t).length - 1) = ⟨(fx l (l.length - 1)).t, (fx l (l.length - 1)).x, (fx l (l.length - 1)).y⟩ := by
    rw [whole_eq, fx_lastC, e.1, e.2]
  have g := pos_fix hw (show (wholeL l f t (fx l (l.length - 1)).t).length - 1 < (wholeL l f t (fx l (l.length - 1)).t).length by omega)
  have k := lasts_fix hw (show (wholeL l f t (fx l (l.length - 1)).t).length - 1 < (wholeL l f t (fx l (l.length - 1)).t).length by omega)
  rw [hl] at g k
  simp only at g k
  simp [posR, codeZ, hw, k, g.1, g.2]
end Go.Proofs.Ytdepdkpehbkcjaa
