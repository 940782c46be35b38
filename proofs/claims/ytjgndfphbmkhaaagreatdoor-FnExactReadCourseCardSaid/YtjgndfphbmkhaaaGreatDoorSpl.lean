/-
  Reading a course: the plain law (the words of a course's text; its course is one). No condition; no program is named.
  The words of a text: plain laws (a splitter's rounds; the library's splitter). No condition; no program is named.
-/
import Derived.Test.YtjgndfphbmkhaaaGreatDoorRd5
import Derived.Test.YtjgndfphbmkhaaaGreatDoorTxt7
import Derived.Lib.SplitLaws
import Derived.Lib.IndexMore
namespace Go.Proofs.YtjgndfphbmkhaaaGreatDoor
section
set_option linter.unusedVariables false
open Go.RowKit Go.Deep

/-- the pieces between blanks -/
def spl : List UInt8 → List (List UInt8)
  | [] => [[]]
  | c :: r => if c = 32 then [] :: spl r else match spl r with
    | [] => [[c]]
    | h :: t => (c :: h) :: t
theorem spl_ne : ∀ l : List UInt8, spl l ≠ []
  | [] => by unfold spl; simp
  | c :: r => by
    unfold spl
    split
    · simp
    · split <;> simp
theorem spl_word : ∀ (w : List UInt8), (∀ c ∈ w, c ≠ 32) → spl w = [w]
  | [], _ => by unfold spl; rfl
  | c :: r, h => by
    have ih := spl_word r (fun x hx => h x (by simp [hx]))
    unfold spl
    rw [if_neg (h c (by simp)), ih]
theorem spl_app : ∀ (w r : List UInt8), (∀ c ∈ w, c ≠ 32) → spl (w ++ 32 :: r) = w :: spl r
  | [], r, _ => by rw [List.nil_append]; conv => lhs; unfold spl
                   rw [if_pos rfl]
  | c :: w, r, h => by
    have ih := spl_app w r (fun x hx => h x (by simp [hx]))
    rw [List.cons_append]
    conv => lhs; unfold spl
    rw [if_neg (h c (by simp)), ih]
/-- words, blanks between -/
def jn : List (List UInt8) → List UInt8
  | [] => []
  | w :: r => match r with
    | [] => w
    | _ :: _ => w ++ 32 :: jn r
theorem jn_one (w : List UInt8) : jn [w] = w := by unfold jn; rfl
theorem jn_cons (w : List UInt8) {r : List (List UInt8)} (h : r ≠ []) : jn (w :: r) = w ++ 32 :: jn r := by
  match r, h with
  | a :: b, _ => conv => lhs; unfold jn
theorem jn_append : ∀ (a b : List (List UInt8)), a ≠ [] → b ≠ [] → jn (a ++ b) = jn a ++ 32 :: jn b
  | [], b, h, _ => absurd rfl h
  | [w], b, _, h => by rw [List.cons_append, List.nil_append, jn_cons w h, jn_one]
  | w :: v :: r, b, _, h => by
    have ih := jn_append (v :: r) b (by simp) h
    rw [List.cons_append, jn_cons w (by simp), ih, jn_cons w (r := v :: r) (by simp)]
    simp
theorem spl_jn : ∀ (ws : List (List UInt8)), ws ≠ [] → (∀ w ∈ ws, ∀ c ∈ w, c ≠ 32) → spl (jn ws) = ws
  | [], h, _ => absurd rfl h
  | [w], _, h => by rw [jn_one]; exact spl_word w (h w (by simp))
  | w :: v :: r, _, h => by
    have ih := spl_jn (v :: r) (by simp) (fun x hx => h x (by simp [hx]))
    rw [jn_cons w (by simp), spl_app _ _ (h w (by simp)), ih]
/-- the words of a text -/
def wordsB (s : ByteArray) : List ByteArray := (spl s.data.toList).map (fun l => ⟨l.toArray⟩)
def sideW (s : Int) : ByteArray := if s = 2 then ⟨#[115, 116, 97, 114, 98, 111, 97, 114, 100]⟩ else ⟨#[112, 111, 114, 116]⟩
def mkWs (m : Mk) : List ByteArray := [⟨#[109, 97, 114, 107]⟩, m.name, sgB m.x, sgB m.y, sideW m.s, sgB m.z]
def mksWs (l : List Mk) : Nat → List ByteArray
  | 0 => []
  | k + 1 => mksWs l k ++ mkWs (mk l k)
def headWs (x0 x1 x2 x3 : Int) : List ByteArray := [⟨#[115, 116, 97, 114, 116]⟩, sgB x0, sgB x1, sgB x2, sgB x3]
def finWs (x0 x1 x2 x3 : Int) : List ByteArray := [⟨#[102, 105, 110, 105, 115, 104]⟩, sgB x0, sgB x1, sgB x2, sgB x3]
def crsWs (x0 x1 x2 x3 x4 x5 x6 x7 : Int) (l : List Mk) : List ByteArray := headWs x0 x1 x2 x3 ++ mksWs l l.length ++ finWs x4 x5 x6 x7
def jnB (ws : List ByteArray) : List UInt8 := jn (ws.map (fun w => w.data.toList))
theorem jnB_app {a b : List ByteArray} (ha : a ≠ []) (hb : b ≠ []) : jnB (a ++ b) = jnB a ++ 32 :: jnB b := by
  unfold jnB
  rw [List.map_append, jn_append _ _ (by simpa using ha) (by simpa using hb)]
theorem jnB_one (w : ByteArray) : jnB [w] = w.data.toList := by unfold jnB; rw [List.map_cons, List.map_nil, jn_one]
theorem jnB_cons (w : ByteArray) {r : List ByteArray} (h : r ≠ []) : jnB (w :: r) = w.data.toList ++ 32 :: jnB r := by
  rw [show w :: r = [w] ++ r from rfl, jnB_app (by simp) h, jnB_one]
theorem sideB_list (s : Int) : (sideB s).data.toList = 32 :: ((sideW s).data.toList ++ [32]) := by
  unfold sideB sideW
  split <;> rfl
theorem mark_list (m : Mk) : (markB m).data.toList = 32 :: jnB (mkWs m) := by
  unfold markB mkWs
  simp only [ByteArray.data_append, Array.toList_append, sideB_list]
  rw [jnB_cons _ (by simp), jnB_cons _ (by simp), jnB_cons _ (by simp), jnB_cons _ (by simp), jnB_cons _ (by simp), jnB_one]
  simp
theorem line_list (w : ByteArray) (a b c d : Int) : w.data.toList ++ 32 :: (lineB a b c d).data.toList = jnB [w, sgB a, sgB b, sgB c, sgB d] := by
  unfold lineB
  simp only [ByteArray.data_append, Array.toList_append]
  rw [jnB_cons _ (by simp), jnB_cons _ (by simp), jnB_cons _ (by simp), jnB_cons _ (by simp), jnB_one]
  simp
theorem marks_list (x0 x1 x2 x3 : Int) (l : List Mk) : ∀ k, (marksB x0 x1 x2 x3 l k).data.toList = jnB (headWs x0 x1 x2 x3 ++ mksWs l k)
  | 0 => by
    unfold marksB mksWs headWs
    rw [List.append_nil, ← line_list]
    simp
  | k + 1 => by
    have ih := marks_list x0 x1 x2 x3 l k
    unfold marksB mksWs
    rw [ByteArray.data_append, Array.toList_append, ih, mark_list, ← List.append_assoc, jnB_app (a := headWs x0 x1 x2 x3 ++ mksWs l k) (by simp [headWs]) (by simp [mkWs])]
theorem crs_list (x0 x1 x2 x3 x4 x5 x6 x7 : Int) (l : List Mk) : (crsB x0 x1 x2 x3 x4 x5 x6 x7 l).data.toList = jnB (crsWs x0 x1 x2 x3 x4 x5 x6 x7 l) := by
  unfold crsB crsWs
  rw [ByteArray.data_append, Array.toList_append, marks_list, jnB_app (a := headWs x0 x1 x2 x3 ++ mksWs l l.length) (by simp [headWs]) (by simp [finWs])]
  unfold finWs
  rw [← line_list]
  simp
theorem itoa_no32 (n : Int) : ∀ c ∈ (sgB n).data.toList, c ≠ 32 := by
  intro c hc e
  subst e
  rw [sg_list] at hc
  split at hc
  · have := (dec_all n.toNat).1 _ hc
    exact absurd this.1 (by decide)
  · rcases List.mem_cons.1 hc with g | g
    · exact absurd g (by decide)
    · have := (dec_all (-n).toNat).1 _ g
      exact absurd this.1 (by decide)
theorem side_no32 (s : Int) : ∀ c ∈ (sideW s).data.toList, c ≠ 32 := by
  unfold sideW
  split <;> decide
theorem name_no32 {m : Mk} (h : markOK m = true) : ∀ c ∈ m.name.data.toList, c ≠ 32 := by
  unfold markOK at h
  simp only [Bool.and_eq_true] at h
  have hn := ((nameOK_iff _).1 h.1.1.1).2.2.2
  intro c hc e
  subst e
  obtain ⟨k, hk, hk2⟩ := List.getElem_of_mem hc
  have := (inSet_iff _).1 (hn k hk)
  rw [show byteN m.name k = 32 from (by unfold byteN; rw [List.getD_eq_getElem?_getD, List.getElem?_eq_getElem hk, hk2]; rfl)] at this
  exact absurd this (by decide)
theorem mkWs_no32 {m : Mk} (h : markOK m = true) : ∀ w ∈ mkWs m, ∀ c ∈ w.data.toList, c ≠ 32 := by
  intro w hw
  simp only [mkWs, List.mem_cons, List.not_mem_nil, or_false] at hw
  rcases hw with rfl | rfl | rfl | rfl | rfl | rfl
  · decide
  · exact name_no32 h
  · exact itoa_no32 _
  · exact itoa_no32 _
  · exact side_no32 _
  · exact itoa_no32 _
theorem mksWs_no32 {l : List Mk} (h : ∀ k, k < l.length → markOK (mk l k) = true) : ∀ k, k ≤ l.length → ∀ w ∈ mksWs l k, ∀ c ∈ w.data.toList, c ≠ 32
  | 0, _ => by unfold mksWs; simp
  | k + 1, hk => by
    intro w hw
    unfold mksWs at hw
    rcases List.mem_append.1 hw with g | g
    · exact mksWs_no32 h k (by omega) w g
    · exact mkWs_no32 (h k (by omega)) w g
theorem headWs_no32 (x0 x1 x2 x3 : Int) : ∀ w ∈ headWs x0 x1 x2 x3, ∀ c ∈ w.data.toList, c ≠ 32 := by
  intro w hw
  simp only [headWs, List.mem_cons, List.not_mem_nil, or_false] at hw
  rcases hw with rfl | rfl | rfl | rfl | rfl
  · decide
  all_goals exact itoa_no32 _
theorem finWs_no32 (x0 x1 x2 x3 : Int) : ∀ w ∈ finWs x0 x1 x2 x3, ∀ c ∈ w.data.toList, c ≠ 32 := by
  intro w hw
  simp only [finWs, List.mem_cons, List.not_mem_nil, or_false] at hw
  rcases hw with rfl | rfl | rfl | rfl | rfl
  · decide
  all_goals exact itoa_no32 _
/-- the words of a course's text -/
theorem words_crs {x0 x1 x2 x3 x4 x5 x6 x7 : Int} {l : List Mk} (h : ∀ k, k < l.length → markOK (mk l k) = true) : wordsB (crsB x0 x1 x2 x3 x4 x5 x6 x7 l) = crsWs x0 x1 x2 x3 x4 x5 x6 x7 l := by
  unfold wordsB
  rw [crs_list]
  unfold jnB
  rw [spl_jn _ (by simp [crsWs, headWs])]
  · rw [List.map_map]
    conv => rhs; rw [← List.map_id (crsWs x0 x1 x2 x3 x4 x5 x6 x7 l)]
    refine List.map_congr_left (fun w _ => ?_)
    exact (ba_list w).symm
  · intro w hw
    obtain ⟨v, hv, rfl⟩ := List.mem_map.1 hw
    unfold crsWs at hv
    rcases List.mem_append.1 hv with g | g
    · rcases List.mem_append.1 g with g | g
      · exact headWs_no32 _ _ _ _ v g
      · exact mksWs_no32 h l.length (Nat.le_refl _) v g
    · exact finWs_no32 _ _ _ _ v g
theorem mksWs_len (l : List Mk) : ∀ k, (mksWs l k).length = 6 * k
  | 0 => by unfold mksWs; rfl
  | k + 1 => by unfold mksWs; rw [List.length_append, mksWs_len l k]; simp [mkWs]; omega
theorem crsWs_len (x0 x1 x2 x3 x4 x5 x6 x7 : Int) (l : List Mk) : (crsWs x0 x1 x2 x3 x4 x5 x6 x7 l).length = 10 + 6 * l.length := by
  unfold crsWs
  rw [List.length_append, List.length_append, mksWs_len]
  simp [headWs, finWs]
  omega
/-- a word -/
def wd (ws : List ByteArray) (i : Nat) : ByteArray := ws.getD i ByteArray.empty
theorem wd_get {ws : List ByteArray} {i : Nat} (h : i < ws.length) : ws[i]? = some (wd ws i) := by
  unfold wd
  rw [List.getD_eq_getElem?_getD, List.getElem?_eq_getElem h]; rfl
theorem wd_left {a b : List ByteArray} {i : Nat} (h : i < a.length) : wd (a ++ b) i = wd a i := by
  unfold wd
  rw [List.getD_eq_getElem?_getD, List.getD_eq_getElem?_getD, List.getElem?_append_left h]
theorem wd_right {a b : List ByteArray} {i : Nat} (h : a.length ≤ i) : wd (a ++ b) i = wd b (i - a.length) := by
  unfold wd
  rw [List.getD_eq_getElem?_getD, List.getD_eq_getElem?_getD, List.getElem?_append_right h]
theorem mksWs_get (l : List Mk) (j r : Nat) (hr : r < 6) : ∀ k, j < k → wd (mksWs l k) (6 * j + r) = wd (mkWs (mk l j)) r
  | 0, h => absurd h (Nat.not_lt_zero _)
  | k + 1, h => by
    have hl := mksWs_len l k
    unfold mksWs
    by_cases e : j = k
    · subst e
      rw [wd_right (by omega)]
      congr 1
      omega
    · rw [wd_left (by omega)]
      exact mksWs_get l j r hr k (by omega)
theorem crsWs_head {x0 x1 x2 x3 x4 x5 x6 x7 : Int} {l : List Mk} {r : Nat} (hr : r < 5) : wd (crsWs x0 x1 x2 x3 x4 x5 x6 x7 l) r = wd (headWs x0 x1 x2 x3) r := by
  unfold crsWs
  rw [wd_left (by simp [headWs]; omega), wd_left (by simp [headWs]; omega)]
theorem crsWs_mark {x0 x1 x2 x3 x4 x5 x6 x7 : Int} {l : List Mk} {j r : Nat} (hj : j < l.length) (hr : r < 6) : wd (crsWs x0 x1 x2 x3 x4 x5 x6 x7 l) (5 + 6 * j + r) = wd (mkWs (mk l j)) r := by
  have hl := mksWs_len l l.length
  unfold crsWs
  rw [wd_left (by rw [List.length_append, hl]; simp [headWs]; omega), wd_right (by simp [headWs]; omega)]
  rw [show 5 + 6 * j + r - (headWs x0 x1 x2 x3).length = 6 * j + r by simp [headWs]; omega]
  exact mksWs_get l j r hr _ hj
theorem crsWs_fin {x0 x1 x2 x3 x4 x5 x6 x7 : Int} {l : List Mk} {r : Nat} (hr : r < 5) : wd (crsWs x0 x1 x2 x3 x4 x5 x6 x7 l) (5 + 6 * l.length + r) = wd (finWs x4 x5 x6 x7) r := by
  have hl := mksWs_len l l.length
  unfold crsWs
  rw [wd_right (by rw [List.length_append, hl]; simp [headWs])]
  congr 1
  rw [List.length_append, hl]; simp [headWs]
/-- a number read from a word by a reader of numbers: it is the word's number, wherever the word is a short number's text -/
def NumOf (s : ByteArray) (n : Int) : Prop := ∀ m : Int, -1000000000000000 < m → m < 1000000000000000 → s = sgB m → n = m
/-- a mark read from words -/
def MkRd (ws : List ByteArray) (j : Nat) (m : Mk) : Prop := m.name = wd ws (5 + 6 * j + 1) ∧ NumOf (wd ws (5 + 6 * j + 2)) m.x ∧ NumOf (wd ws (5 + 6 * j + 3)) m.y ∧ m.s = (if wd ws (5 + 6 * j + 4) = ⟨#[115, 116, 97, 114, 98, 111, 97, 114, 100]⟩ then 2 else 1) ∧ NumOf (wd ws (5 + 6 * j + 5)) m.z
/-- a course read from words -/
structure CrRd (ws : List ByteArray) (x0 x1 x2 x3 x4 x5 x6 x7 : Int) (l : List Mk) : Prop where
  a0 : NumOf (wd ws 1) x0
  a1 : NumOf (wd ws 2) x1
  a2 : NumOf (wd ws 3) x2
  a3 : NumOf (wd ws 4) x3
  a4 : NumOf (wd ws (ws.length - 4)) x4
  a5 : NumOf (wd ws (ws.length - 3)) x5
  a6 : NumOf (wd ws (ws.length - 2)) x6
  a7 : NumOf (wd ws (ws.length - 1)) x7
  len : ws.length = 10 + 6 * l.length
  mks : ∀ j, j < l.length → MkRd ws j (mk l j)
theorem mk_ext {m p : Mk} (h0 : m.name = p.name) (h1 : m.x = p.x) (h2 : m.y = p.y) (h3 : m.s = p.s) (h4 : m.z = p.z) : m = p := by
  cases m; cases p; simp at *; exact ⟨h0, h1, h2, h3, h4⟩
theorem num_is {s : ByteArray} {n m : Int} (h : NumOf s n) (e : s = sgB m) (h0 : -1000000 ≤ m) (h1 : m ≤ 1000000) : n = m := h m (by omega) (by omega) e
theorem side_is {m : Mk} (h : m.s = 1 ∨ m.s = 2) : (if sideW m.s = ⟨#[115, 116, 97, 114, 98, 111, 97, 114, 100]⟩ then (2 : Int) else 1) = m.s := by
  rcases h with h | h
  · rw [h]; decide
  · rw [h]; decide
theorem ctR_ok {x0 x1 x2 x3 x4 x5 x6 x7 : Int} {l : List Mk} (h : 1 ≤ (ctR x0 x1 x2 x3 x4 x5 x6 x7 l).size) : courseOK x0 x1 x2 x3 x4 x5 x6 x7 l = true ∧ (crsB x0 x1 x2 x3 x4 x5 x6 x7 l).size ≤ 1000 ∧ ctR x0 x1 x2 x3 x4 x5 x6 x7 l = crsB x0 x1 x2 x3 x4 x5 x6 x7 l := by
  unfold ctR at h ⊢
  split at h
  · rename_i e
    rw [if_pos e]
    split at h
    · rename_i e2
      rw [if_pos e2]
      exact ⟨e, e2, rfl⟩
    · exact absurd h (by decide)
  · exact absurd h (by decide)
/-- the words of a course's text are read back as its course -/
theorem rd_crs {s : ByteArray} {x0 x1 x2 x3 x4 x5 x6 x7 : Int} {l : List Mk} (e : s = ctR x0 x1 x2 x3 x4 x5 x6 x7 l) (hs : 1 ≤ s.size) {y0 y1 y2 y3 y4 y5 y6 y7 : Int} {k : List Mk} (h : CrRd (wordsB s) y0 y1 y2 y3 y4 y5 y6 y7 k) :
    y0 = x0 ∧ y1 = x1 ∧ y2 = x2 ∧ y3 = x3 ∧ y4 = x4 ∧ y5 = x5 ∧ y6 = x6 ∧ y7 = x7 ∧ k = l := by
  obtain ⟨h1, h2, h3⟩ := ctR_ok (e ▸ hs)
  obtain ⟨g1, g2, _, l8, hm, _⟩ := courseOK_true h1
  obtain ⟨sA, sB, _⟩ := isSeg_true g1
  obtain ⟨sC, sD, _⟩ := isSeg_true g2
  obtain ⟨p0, p1, p2, p3⟩ := isPt_true sA
  obtain ⟨p4, p5, p6, p7⟩ := isPt_true sB
  obtain ⟨p8, p9, pa, pb⟩ := isPt_true sC
  obtain ⟨pc, pd, pe, pf⟩ := isPt_true sD
  have hw : wordsB s = crsWs x0 x1 x2 x3 x4 x5 x6 x7 l := by rw [e, h3]; exact words_crs (fun k hk => (hm k hk).1)
  have hl := crsWs_len x0 x1 x2 x3 x4 x5 x6 x7 l
  rw [hw] at h
  have hkl : k.length = l.length := by have := h.len; omega
  have f0 : ∀ r, r < 5 → wd (crsWs x0 x1 x2 x3 x4 x5 x6 x7 l) ((crsWs x0 x1 x2 x3 x4 x5 x6 x7 l).length - 5 + r) = wd (finWs x4 x5 x6 x7) r := fun r hr => by
    rw [hl, show 10 + 6 * l.length - 5 + r = 5 + 6 * l.length + r by omega]
    exact crsWs_fin hr
  refine ⟨num_is h.a0 (crsWs_head (by decide)) (by omega) (by omega), num_is h.a1 (crsWs_head (by decide)) (by omega) (by omega), num_is h.a2 (crsWs_head (by decide)) (by omega) (by omega), num_is h.a3 (crsWs_head (by decide)) (by omega) (by omega), ?_, ?_, ?_, ?_, ?_⟩
  · have := f0 1 (by decide)
    rw [show (crsWs x0 x1 x2 x3 x4 x5 x6 x7 l).length - 5 + 1 = (crsWs x0 x1 x2 x3 x4 x5 x6 x7 l).length - 4 by omega] at this
    exact num_is h.a4 this (by omega) (by omega)
  · have := f0 2 (by decide)
    rw [show (crsWs x0 x1 x2 x3 x4 x5 x6 x7 l).length - 5 + 2 = (crsWs x0 x1 x2 x3 x4 x5 x6 x7 l).length - 3 by omega] at this
    exact num_is h.a5 this (by omega) (by omega)
  · have := f0 3 (by decide)
    rw [show (crsWs x0 x1 x2 x3 x4 x5 x6 x7 l).length - 5 + 3 = (crsWs x0 x1 x2 x3 x4 x5 x6 x7 l).length - 2 by omega] at this
    exact num_is h.a6 this (by omega) (by omega)
  · have := f0 4 (by decide)
    rw [show (crsWs x0 x1 x2 x3 x4 x5 x6 x7 l).length - 5 + 4 = (crsWs x0 x1 x2 x3 x4 x5 x6 x7 l).length - 1 by omega] at this
    exact num_is h.a7 this (by omega) (by omega)
  · refine List.ext_getElem? (fun j => ?_)
    by_cases hj : j < k.length
    · rw [mk_of hj, mk_of (show j < l.length by omega)]
      obtain ⟨n8, hp, hsd, z1, z2⟩ := mkT (hm j (by omega)).1
      obtain ⟨a1, a2, a3, a4⟩ := isPt_true hp
      obtain ⟨m0, m1, m2, m3, m4⟩ := h.mks j hj
      have hj' : j < l.length := by omega
      rw [crsWs_mark hj' (by decide)] at m0 m1 m2 m3 m4
      congr 1
      refine mk_ext m0 (num_is m1 rfl (by omega) (by omega)) (num_is m2 rfl (by omega) (by omega)) ?_ (num_is m4 rfl (by omega) (by omega))
      rw [m3]
      exact side_is hsd
    · rw [List.getElem?_eq_none (by omega), List.getElem?_eq_none (by omega)]
theorem crs_words {s : ByteArray} {x0 x1 x2 x3 x4 x5 x6 x7 : Int} {l : List Mk} (e : s = ctR x0 x1 x2 x3 x4 x5 x6 x7 l) (hs : 1 ≤ s.size) : s.size ≤ 1000 ∧ (wordsB s).length = 10 + 6 * l.length ∧ 1 ≤ l.length ∧ l.length ≤ 8 := by
  obtain ⟨h1, h2, h3⟩ := ctR_ok (e ▸ hs)
  obtain ⟨g1, g2, l1, l8, hm, _⟩ := courseOK_true h1
  have hw : wordsB s = crsWs x0 x1 x2 x3 x4 x5 x6 x7 l := by rw [e, h3]; exact words_crs (fun k hk => (hm k hk).1)
  refine ⟨by rw [e, h3]; exact h2, by rw [hw, crsWs_len], l1, l8⟩
end

section
set_option linter.unusedVariables false
open Go.RowKit Go.Deep

def mkB (l : List UInt8) : ByteArray := ⟨l.toArray⟩
/-- a splitter at position i: the pieces so far, the piece begins at f -/
def SpI (s : ByteArray) (ws : List ByteArray) (f i : Nat) : Prop := (f ≤ i ∧ i ≤ s.size ∧ (∀ k, f ≤ k → k < i → bytR s k ≠ 32) ∧ wordsB s = ws ++ (spl (s.data.toList.drop f)).map mkB ∧ ws.length ≤ f) ∨ (i = s.size + 1 ∧ ws = wordsB s ∧ ws.length ≤ i)
theorem spI_0 (s : ByteArray) : SpI s [] 0 0 := .inl ⟨Nat.le_refl _, Nat.zero_le _, fun k _ h => absurd h (Nat.not_lt_zero _), by rw [List.nil_append, List.drop_zero]; rfl, Nat.zero_le _⟩
theorem spI_skip {s : ByteArray} {ws : List ByteArray} {f i : Nat} (h : SpI s ws f i) (hi : i < s.size) (hb : bytR s i ≠ 32) : SpI s ws f (i + 1) := by
  rcases h with ⟨h1, h2, h3, h4, h5⟩ | ⟨h1, _⟩
  · refine .inl ⟨by omega, hi, fun k k1 k2 => ?_, h4, h5⟩
    rcases Nat.lt_or_ge k i with g | g
    · exact h3 k k1 g
    · rw [show k = i by omega]; exact hb
  · omega
theorem piece_no {s : ByteArray} {f i : Nat} (h3 : ∀ k, f ≤ k → k < i → bytR s k ≠ 32) (hi : i ≤ s.size) : ∀ c ∈ (s.data.toList.drop f).take (i - f), c ≠ 32 := by
  intro c hc
  obtain ⟨j, hj, rfl⟩ := List.getElem_of_mem hc
  rw [List.length_take, List.length_drop, size_list] at hj
  have e : ((s.data.toList.drop f).take (i - f))[j] = bytR s (f + j) := by
    rw [List.getElem_take, List.getElem_drop]
    unfold bytR
    rw [List.getD_eq_getElem?_getD, List.getElem?_eq_getElem (show f + j < s.data.toList.length by rw [size_list]; omega)]; rfl
  rw [e]
  exact h3 _ (by omega) (by omega)
theorem ext_mkB (s : ByteArray) (f i : Nat) : s.extract f i = mkB ((s.data.toList.drop f).take (i - f)) := by
  rw [← ext_list]; exact ba_list _
theorem spI_cut {s : ByteArray} {ws : List ByteArray} {f i : Nat} (h : SpI s ws f i) (hi : i < s.size) (hb : bytR s i = 32) : SpI s (ws ++ [s.extract f i]) (i + 1) (i + 1) := by
  rcases h with ⟨h1, h2, h3, h4, h5⟩ | ⟨h1, _⟩
  · refine .inl ⟨Nat.le_refl _, hi, fun k k1 k2 => by omega, ?_, by rw [List.length_append, List.length_singleton]; omega⟩
    have e : s.data.toList.drop f = (s.data.toList.drop f).take (i - f) ++ 32 :: s.data.toList.drop (i + 1) := by
      conv => lhs; rw [← List.take_append_drop (i - f) (s.data.toList.drop f)]
      congr 1
      rw [List.drop_drop, show f + (i - f) = i by omega, List.drop_eq_getElem_cons (show i < s.data.toList.length from hi)]
      congr 1
      rw [← hb]
      unfold bytR
      rw [List.getD_eq_getElem?_getD, List.getElem?_eq_getElem (show i < s.data.toList.length from hi)]; rfl
    rw [h4, e, spl_app _ _ (piece_no h3 h2), List.map_cons, ext_mkB]
    simp
  · omega
theorem spI_end {s : ByteArray} {ws : List ByteArray} {f : Nat} (h : SpI s ws f s.size) : SpI s (ws ++ [s.extract f s.size]) (s.size + 1) (s.size + 1) := by
  rcases h with ⟨h1, h2, h3, h4, h5⟩ | ⟨h1, _⟩
  · refine .inr ⟨rfl, ?_, by rw [List.length_append, List.length_singleton]; omega⟩
    have hn := piece_no h3 h2
    have e : (s.data.toList.drop f).take (s.size - f) = s.data.toList.drop f := List.take_of_length_le (by rw [List.length_drop, size_list]; exact Nat.le_refl _)
    rw [h4, ext_mkB, e]
    rw [e] at hn
    rw [spl_word _ hn]
    simp
  · omega
theorem spI_le {s : ByteArray} {ws : List ByteArray} {f i : Nat} (h : SpI s ws f i) : i ≤ s.size + 1 ∧ ws.length ≤ i := by
  rcases h with ⟨h1, h2, h3, h4, h5⟩ | ⟨h1, h2, h3⟩ <;> omega
theorem spI_fr {s : ByteArray} {ws : List ByteArray} {f i : Nat} (h : SpI s ws f i) (hi : i ≤ s.size) : f ≤ i := by
  rcases h with ⟨h1, h2, h3, h4, h5⟩ | ⟨h1, h2, h3⟩ <;> omega
theorem spI_fin {s : ByteArray} {ws : List ByteArray} {f i : Nat} (h : SpI s ws f i) (hi : s.size < i) : ws = wordsB s := by
  rcases h with ⟨h1, h2, h3, h4, h5⟩ | ⟨h1, h2, h3⟩
  · omega
  · exact h2
theorem occ_one (l : List UInt8) (j : Nat) (c : UInt8) : Lib.occAt l [c] j = (l[j]? == some c) := by
  unfold Lib.occAt
  rcases h : l[j]? with _ | d
  · have : l.length ≤ j := List.getElem?_eq_none_iff.1 h
    rw [List.drop_eq_nil_of_le this]
    rfl
  · obtain ⟨hj, hd⟩ := List.getElem?_eq_some_iff.1 h
    rw [List.drop_eq_getElem_cons hj, hd]
    simp [List.isPrefixOf, eq_comm, Bool.beq_eq_decide_eq]
/-- the library's splitter at a blank -/
theorem splitB_words : ∀ (k : Nat) (s : ByteArray), Lib.countB s ⟨#[32]⟩ = k → Lib.splitB ⟨#[32]⟩ 0 k s = wordsB s := by
  have key : ∀ s : ByteArray, Lib.indexB s ⟨#[32]⟩ = -1 → wordsB s = [s] := fun s h => by
    have hn : ∀ c ∈ s.data.toList, c ≠ 32 := by
      rcases Lib.index_spec s.data.toList [32] with ⟨_, h2⟩ | ⟨i, h1, _⟩
      · intro c hc e
        subst e
        obtain ⟨j, hj, hj2⟩ := List.getElem_of_mem hc
        have := h2 j (by omega)
        rw [occ_one, List.getElem?_eq_getElem hj, hj2] at this
        simp at this
      · have : Lib.indexB s ⟨#[32]⟩ = (i : Int) := h1
        omega
    unfold wordsB
    rw [spl_word _ hn, List.map_cons, List.map_nil]
  intro k
  induction k with
  | zero =>
    intro s hk
    rw [Lib.splitB_zero]
    rcases Lib.indexB_cases s ⟨#[32]⟩ with h | ⟨i, h, _⟩
    · exact (key s h).symm
    · have := Lib.countB_hit s ⟨#[32]⟩ i (by decide) h
      omega
  | succ k ih =>
    intro s hk
    rcases Lib.indexB_cases s ⟨#[32]⟩ with h | ⟨i, h, hr⟩
    · rw [Lib.splitB_miss _ _ _ _ h]; exact (key s h).symm
    · have hc := Lib.countB_hit s ⟨#[32]⟩ i (by decide) h
      rw [Lib.splitB_hit _ _ _ _ i h, ih _ (by omega)]
      have hz : (⟨#[32]⟩ : ByteArray).size = 1 := rfl
      rw [hz] at hr ⊢
      rcases Lib.index_spec s.data.toList [32] with ⟨h2, _⟩ | ⟨i', h1, h2, h3, h4⟩
      · have : Lib.indexB s ⟨#[32]⟩ = -1 := h2
        omega
      · have : Lib.indexB s ⟨#[32]⟩ = (i' : Int) := h1
        obtain rfl : i' = i := by omega
        have hb : bytR s i' = 32 := by
          rw [occ_one] at h3
          unfold bytR
          rw [List.getD_eq_getElem?_getD]
          have := eq_of_beq h3
          rw [this]; rfl
        have hno : ∀ k, 0 ≤ k → k < i' → bytR s k ≠ 32 := fun k _ hk e => by
          have := h4 k hk
          rw [occ_one] at this
          unfold bytR at e
          rw [List.getD_eq_getElem?_getD, List.getElem?_eq_getElem (show k < s.data.toList.length by rw [size_list]; omega)] at e
          rw [List.getElem?_eq_getElem (show k < s.data.toList.length by rw [size_list]; omega)] at this
          simp at this e
          exact this e
        have e0 : SpI s [] 0 i' := .inl ⟨Nat.zero_le _, by omega, hno, by rw [List.nil_append, List.drop_zero]; rfl, Nat.zero_le _⟩
        have e1 := spI_cut e0 (by omega) hb
        rcases e1 with ⟨_, _, _, g4, _⟩ | ⟨g1, _⟩
        · rw [g4]
          show s.extract 0 (i' + 0) :: _ = s.extract 0 i' :: _
          rw [Nat.add_zero]
          congr 1
          unfold wordsB
          rw [ext_list, List.take_of_length_le (by rw [List.length_drop, size_list]; exact Nat.le_refl _)]
          rfl
        · omega
theorem words_len (s : ByteArray) : (wordsB s).length = Lib.countB s ⟨#[32]⟩ + 1 := by
  rw [← splitB_words _ s rfl]
  exact Lib.splitB_all _ (by decide) _ _ _ rfl
theorem words_le (s : ByteArray) : (wordsB s).length ≤ s.size + 1 := by
  have := Lib.countB_le ⟨#[32]⟩ (by decide) s.size s (Nat.le_refl _)
  rw [words_len]; omega
theorem spl_sizes : ∀ (l : List UInt8), ∀ w ∈ spl l, w.length ≤ l.length
  | [], w, h => by unfold spl at h; simp at h; subst h; exact Nat.le_refl _
  | c :: r, w, h => by
    have ih := spl_sizes r
    unfold spl at h
    split at h
    · rcases List.mem_cons.1 h with g | g
      · subst g; exact Nat.zero_le _
      · have := ih w g; rw [List.length_cons]; omega
    · split at h
      · rename_i e
        exact absurd e (spl_ne r)
      · rename_i a b e
        rw [e] at ih
        rcases List.mem_cons.1 h with g | g
        · subst g
          have := ih a (by simp)
          rw [List.length_cons, List.length_cons]; omega
        · have := ih w (by simp [g]); rw [List.length_cons]; omega
theorem wd_size (s : ByteArray) (i : Nat) : (wd (wordsB s) i).size ≤ s.size := by
  unfold wd
  rw [List.getD_eq_getElem?_getD]
  by_cases h : i < (wordsB s).length
  · rw [List.getElem?_eq_getElem h]
    have hm := List.getElem_mem h
    unfold wordsB at hm
    obtain ⟨w, hw, he⟩ := List.mem_map.1 hm
    have := spl_sizes _ w hw
    rw [size_list] at this
    show ((wordsB s)[i]).size ≤ s.size
    unfold wordsB
    rw [← he]
    exact this
  · rw [List.getElem?_eq_none (by omega)]; exact Nat.zero_le _
end
end Go.Proofs.YtjgndfphbmkhaaaGreatDoor
