/- The law BlockWrites: for any size and any texts the law answers true. -/
import Derived.Test.YtmjejlbmcefaoaaBlkE
import Derived.Test.YtmjejlbmcefaoaaHead
namespace Go.Proofs.Ytmjejlbmcefaoaa
open Go Sx Go.ChangeShapes Go.WideShapes Go.ChangeAt Go.RowKit

def e53 : Entry := fun args ms => match args, ms with
  | [.c (.ptr 0 0)], [⟨183, .rw, .cs [.own 1, .v (.int .i64 m), .v (.int .i64 n)]⟩, ⟨5, .own s, .ints .u8 l⟩] => some (⟨V.int .i64 n, [], []⟩, [])
  | [.c (.v (.pointer none))], [] => some (⟨V.int .i64 0, [], []⟩, [])
  | _, _ => none
theorem e53_ok : EntryOk Try.prog 53 e53 := by
  intro args ms r obs h ho
  unfold e53 at h
  split at h
  · cases h; exact s53 _ _ _ _
  · cases h; exact s53_nil
  · cases h
def e54 : Entry := fun args ms => match args, ms with
  | [.c (.ptr 0 0)], [⟨183, .rw, .cs [.own 1, .v (.int .i64 m), .v (.int .i64 n)]⟩, ⟨5, .own s, .ints .u8 l⟩] => some (⟨.w (.c (.ptr 2 0)), [], [bufB m n 3, rowB s l]⟩, [Nat.ble s 256, Nat.beq l.length s])
  | [.c (.v (.pointer none))], [] => some (⟨nilP, [], []⟩, [])
  | _, _ => none
theorem e54_ok : EntryOk Try.prog 54 e54 := by
  intro args ms r obs h ho
  unfold e54 at h
  split at h
  · cases h; exact s54 _ _ _ _ (by simpa using ohead ho) (by simpa using ohead (otail ho))
  · cases h; exact s54_nil
  · cases h
def e55b : Entry := fun args ms => match args, ms with
  | [.c (.v (.int .i64 s))], [] => some (⟨nilP, [], []⟩, [decide (s < 1 ∨ s > 256)])
  | _, _ => none
theorem e55b_ok : EntryOk Try.prog 55 e55b := by
  intro args ms r obs h ho
  unfold e55b at h
  split at h
  · cases h; exact s55_bad _ (by simpa using ohead ho)
  · cases h
def libw0 : List (Nat × Entry) := [(50, e50), (51, viewE 1 .strs e51v), (52, e52), (53, e53), (54, e54), (56, e56)]
theorem libw0_ok : AllOk Try.prog libw0 := .cons e50_ok (.cons (viewE_ok e51v_ok) (.cons e52_ok (.cons e53_ok (.cons e54_ok (.cons e56_ok (.nil _))))))
def libw : List (Nat × Entry) := (55, e55g) :: libw0
theorem libw_ok : AllOk Try.prog libw := .cons e55g_ok libw0_ok
def libx : List (Nat × Entry) := (55, e55b) :: libw0
theorem libx_ok : AllOk Try.prog libx := .cons e55b_ok libw0_ok

noncomputable def k6a : List Item := kAt Try.prog (tab libw) Try.f6 [(41, false), (52, false), (55, false)] 0 [W.int .i64 16, .c (.sl 0 0 1)] [⟨0, .ro, .strs [.empty]⟩]
noncomputable def k6b : List Item := kAt Try.prog (tab libw) Try.f6 [(41, false), (52, false), (55, false), (65, true), (70, false), (103, false), (109, false)] 1 [W.int .i64 16, .c (.sl 0 0 1)] [⟨0, .ro, .strs [.empty]⟩]
abbrev bs6 (m len m2 len2 : Int) (t : Nat) (l : List ByteArray) (s : Nat) (row row2 : List Int) (g w a : List ByteArray) : List Blk :=
  [⟨t, .ro, .strs l⟩, bufB m len 2, rowB s row, bufB m2 len2 4, rowB s row2, ⟨9, .own g.length, .strs g⟩, ⟨9, .own w.length, .strs w⟩, ⟨9, .own a.length, .strs a⟩]
noncomputable def st6a (m len t8 : Int) (q : ByteArray) (t : Nat) (l : List ByteArray) (s : Nat) (row : List Int) (j : Int) : Cfg :=
  cfg k6a [0, 6, 7, 8, 62, 63, 64] [V.int .i64 s, .w (.c (.ptr 1 0)), V.str q, V.int .i64 t8, .w (.c (.sl 0 0 l.length)), V.int .i64 l.length, V.int .i64 j] [⟨t, .ro, .strs l⟩, bufB m len 2, rowB s row]
noncomputable def st6b (m len m2 len2 t8 : Int) (x r : ByteArray) (t : Nat) (l : List ByteArray) (s : Nat) (row row2 : List Int) (g w a : List ByteArray) (j i : Int) : Cfg :=
  cfg k6b [0, 6, 8, 10, 11, 12, 14, 15, 62, 63, 64, 111, 112, 113] [V.int .i64 s, .w (.c (.ptr 1 0)), V.int .i64 t8, V.str x, .w (.c (.ptr 3 0)), .w (.c (.own 5)), V.str r, .w (.c (.own 7)), .w (.c (.sl 0 0 l.length)), V.int .i64 l.length, V.int .i64 j, .w (.c (.own 6)), V.int .i64 w.length, V.int .i64 i]
    (bs6 m len m2 len2 t l s row row2 g w a)

/-- The comparison of what came, what was wanted, what came again. -/
theorem in6 {t0 : Nat} {l0 : List ByteArray} {ρ : Env} {w0 : World} (m m2 : Nat) (len len2 t8 : Int) (x r : ByteArray) (t : Nat) (l : List ByteArray) (s : Nat) (row row2 : List Int) (g : List ByteArray) (j : Int) (hg : g.length ≤ 1000000) (hm : m ≤ s) (hm2 : m2 ≤ s) (hr : row.length = s) (hr2 : row2.length = s)
    (e1 : strOf (row.take m) = r) (e2 : strOf (row2.take m2) = r) (e3 : len = i64 (t8 + (x.size : Int)))
    (hgo : G (mkX Try.prog (tab libw) Try.f6 [⟨t0, .ro, .strs l0⟩] ρ w0 ⟨V.bool true, [], []⟩) (st6a m len (i64 (t8 + (x.size : Int))) r t l s row (i64 (j + 1)))) :
    G (mkX Try.prog (tab libw) Try.f6 [⟨t0, .ro, .strs l0⟩] ρ w0 ⟨V.bool true, [], []⟩) (st6b m len m2 len2 t8 x r t l s row row2 g g g j 0) := by
  refine G.loop (fun i => st6b m len m2 len2 t8 x r t l s row row2 g g g j (i : Int)) g.length (fun i hi hgi => ?_) ?_
  · have e4 : i64 ((i : Int) + 1) = ((i + 1 : Nat) : Int) := by rw [i64_id] <;> omega
    refine G.seg ⟨tab_ok libw_ok, mixed⟩ [(114, true), (123, false), (130, false)] 1000000 0 [0, 6, 8, 10, 11, 12, 14, 15, 62, 63, 64, 111, 112, 113] [(0, none), (1, none), (2, none), (3, none), (4, none), (5, none), (6, none), (7, none)] (k := k6b)
      (vs := [V.int .i64 s, .w (.c (.ptr 1 0)), V.int .i64 t8, V.str x, .w (.c (.ptr 3 0)), .w (.c (.own 5)), V.str r, .w (.c (.own 7)), .w (.c (.sl 0 0 l.length)), V.int .i64 l.length, V.int .i64 j, .w (.c (.own 6)), V.int .i64 g.length, V.int .i64 (i64 ((i : Int) + 1))]) (bs := bs6 m len m2 len2 t l s row row2 g g g)
      (o := [decide ((i : Int) < (g.length : Int)), true, decide ((i : Int) < (g.length : Int)), Nat.blt i g.length, true, decide ((i : Int) < (g.length : Int)), Nat.blt i g.length, !(!((g.getD i .empty).toList == (g.getD i .empty).toList)), true, decide ((i : Int) < (g.length : Int)), Nat.blt i g.length, !(!((g.getD i .empty).toList == (g.getD i .empty).toList))])
      (by kernel_rfl) (by kernel_rfl) (ocons (by simpa using hi) (ocons rfl (ocons (by simpa using hi) (ocons (by simpa using hi) (ocons rfl (ocons (by simpa using hi) (ocons (by simpa using hi) (ocons (by simp) (ocons rfl (ocons (by simpa using hi) (ocons (by simpa using hi) (ocons (by simp) onil)))))))))))) ?_
    rw [e4]
    exact hgi
  · refine G.seg ⟨tab_ok libw_ok, mixed⟩ [(114, false), (141, false), (146, false), (152, false)] 1000000 0 [0, 6, 7, 8, 62, 63, 64] [(0, none), (1, none), (2, none)] (k := k6a)
      (vs := [V.int .i64 s, .w (.c (.ptr 1 0)), V.str r, V.int .i64 (i64 (t8 + (x.size : Int))), .w (.c (.sl 0 0 l.length)), V.int .i64 l.length, V.int .i64 (i64 (j + 1))]) (bs := [⟨t, .ro, .strs l⟩, bufB m len 2, rowB s row])
      (o := [!(decide ((g.length : Int) < (g.length : Int))), true, decide ((m : Int) ≤ (s : Int)), Nat.beq row.length s, !(!((strOf (row.take m)).toList == r.toList)), true, decide ((m2 : Int) ≤ (s : Int)), Nat.beq row2.length s, !(!((strOf (row2.take m2)).toList == r.toList)), !(len != i64 (t8 + (x.size : Int)))])
      (by kernel_rfl) (by kernel_rfl) (ocons (by simp) (ocons rfl (ocons (by simp; omega) (ocons (by simpa using hr) (ocons (by rw [e1]; simp) (ocons rfl (ocons (by simp; omega) (ocons (by simpa using hr2) (ocons (by rw [e2]; simp) (ocons (by rw [← e3]; simp) onil)))))))))) hgo

def halfI (x : ByteArray) : Int := i64 (((x.size : Nat) : Int).tdiv 2)
theorem halfI_eq (x : ByteArray) (h : x.size ≤ 600) : halfI x = ((x.size / 2 : Nat) : Int) := by
  unfold halfI
  rw [Int.tdiv_eq_ediv_of_nonneg (by omega), i64_id] <;> omega

theorem putL_range {row xs : List Int} {m : Nat} (h : ∀ n ∈ row, 0 ≤ n ∧ n < 256) (k : ∀ n ∈ xs, 0 ≤ n ∧ n < 256) : ∀ n ∈ putL row m xs, 0 ≤ n ∧ n < 256 := by
  intro n hn
  unfold putL at hn
  rcases List.mem_append.1 hn with hn | hn
  · exact h n (List.mem_of_mem_take hn)
  · rcases List.mem_append.1 hn with hn | hn
    · exact k n hn
    · exact h n (List.mem_of_mem_drop hn)
theorem wIn_range (s : Nat) : ∀ (f : Nat) (row : List Int) (m : Nat) (out : List ByteArray) (x : ByteArray), (∀ n ∈ row, 0 ≤ n ∧ n < 256) → ∀ n ∈ (wIn s f row m out x).1, 0 ≤ n ∧ n < 256
  | 0, row, m, out, x, h => h
  | f + 1, row, m, out, x, h => by
    have hp : ∀ n ∈ putL row m ((bytesOf x).take (s - m)), 0 ≤ n ∧ n < 256 := putL_range h fun n hn => bytesOf_range x n (List.mem_of_mem_take hn)
    simp only [wIn]
    split
    · exact h
    · split
      · exact wIn_range s f _ _ _ _ hp
      · exact wIn_range s f _ _ _ _ hp

/-- what the three ways give is one. -/
theorem three6 (s : Nat) (hs : 1 ≤ s) (row : List Int) (m : Nat) (x : ByteArray) (hm : m < s) (hr : row.length = s) (hrow : ∀ n ∈ row, 0 ≤ n ∧ n < 256) (hx : x.size ≤ 600) :
    (wAt s [cut x 0 (halfI x), cut x (halfI x) x.size] row m 2).2.2 = (wAt s [x] row m 1).2.2 ∧
    (cutM s (strOf (row.take m) ++ x).size [] (strOf (row.take m) ++ x)).1 = (wAt s [x] row m 1).2.2 ∧
    strOf ((wAt s [x] row m 1).1.take (wAt s [x] row m 1).2.1) = (cutM s (strOf (row.take m) ++ x).size [] (strOf (row.take m) ++ x)).2 ∧
    strOf ((wAt s [cut x 0 (halfI x), cut x (halfI x) x.size] row m 2).1.take (wAt s [cut x 0 (halfI x), cut x (halfI x) x.size] row m 2).2.1) = (cutM s (strOf (row.take m) ++ x).size [] (strOf (row.take m) ++ x)).2 := by
  have hh := halfI_eq x hx
  have hk : x.size / 2 ≤ x.size := Nat.div_le_self _ _
  generalize x.size / 2 = k at hh hk
  rw [hh]
  have hbl := bytesOf_length x
  have ba : bytesOf (cut x 0 (k : Int)) = (bytesOf x).take k := by rw [bytesOf_cut]; simp
  have bb : bytesOf (cut x (k : Int) x.size) = (bytesOf x).drop k := by
    rw [bytesOf_cut, List.take_of_length_le]
    · simp
    · simp [hbl]
  -- the whole text at once
  obtain ⟨o1, r1, c1, d1, f1⟩ := wIn_chunks s hs x.size row m [] x (Nat.le_refl _) hm hr
  -- in two pieces
  obtain ⟨oa, ra, ca, da, fa⟩ := wIn_chunks s hs (cut x 0 (k : Int)).size row m [] (cut x 0 (k : Int)) (Nat.le_refl _) hm hr
  obtain ⟨ia, ja, _⟩ := wIn_inv s hs (cut x 0 (k : Int)).size row m [] (cut x 0 (k : Int)) hm hr
  obtain ⟨ob, rb, cb, db, fb⟩ := wIn_chunks s hs (cut x (k : Int) x.size).size (wIn s (cut x 0 (k : Int)).size row m [] (cut x 0 (k : Int))).1 (wIn s (cut x 0 (k : Int)).size row m [] (cut x 0 (k : Int))).2.1 (wIn s (cut x 0 (k : Int)).size row m [] (cut x 0 (k : Int))).2.2 (cut x (k : Int) x.size) (Nat.le_refl _) ia ja
  rw [fa, bb] at cb
  rw [ba] at ca
  have cab := ca.then cb
  rw [List.append_assoc, List.take_append_drop] at cab
  obtain ⟨u1, u2⟩ := cab.uniq hs c1
  -- by definition
  obtain ⟨o2, r2, c2, d2⟩ := cutM_chunks s hs (strOf (row.take m) ++ x).size [] (strOf (row.take m) ++ x) (Nat.le_refl _)
  rw [bytesOf_append, bytesOf_strOf (fun n hn => hrow n (List.mem_of_mem_take hn))] at c2
  obtain ⟨v1, v2⟩ := c2.uniq hs c1
  have w2 : wAt s [cut x 0 (k : Int), cut x (k : Int) x.size] row m 2 = wIn s (cut x (k : Int) x.size).size (wIn s (cut x 0 (k : Int)).size row m [] (cut x 0 (k : Int))).1 (wIn s (cut x 0 (k : Int)).size row m [] (cut x 0 (k : Int))).2.1 (wIn s (cut x 0 (k : Int)).size row m [] (cut x 0 (k : Int))).2.2 (cut x (k : Int) x.size) := rfl
  have w1 : wAt s [x] row m 1 = wIn s x.size row m [] x := rfl
  rw [w2, w1, fb, db, da, d1, f1, d2, v1, v2, ← u1, ← u2]
  refine ⟨?_, rfl, rfl, rfl⟩
  simp

def row6 (s : Nat) (l : List ByteArray) : Nat → List Int × Nat
  | 0 => (List.replicate s 0, 0)
  | j + 1 => ((wAt s [l.getD j .empty] (row6 s l j).1 (row6 s l j).2 1).1, (wAt s [l.getD j .empty] (row6 s l j).1 (row6 s l j).2 1).2.1)
def len6 (l : List ByteArray) : Nat → Int
  | 0 => 0
  | j + 1 => i64 (len6 l j + ((l.getD j .empty).size : Int))
theorem row6_inv (s : Nat) (hs : 1 ≤ s) (l : List ByteArray) : ∀ j, (row6 s l j).2 < s ∧ (row6 s l j).1.length = s ∧ ∀ n ∈ (row6 s l j).1, 0 ≤ n ∧ n < 256
  | 0 => ⟨by simp only [row6]; omega, by simp [row6], by intro n hn; simp only [row6] at hn; have := List.eq_of_mem_replicate hn; omega⟩
  | j + 1 => by
    obtain ⟨h1, h2, h3⟩ := row6_inv s hs l j
    obtain ⟨k1, k2, _⟩ := wIn_inv s hs (l.getD j .empty).size (row6 s l j).1 (row6 s l j).2 [] (l.getD j .empty) h1 h2
    exact ⟨k1, k2, wIn_range s _ _ _ _ _ h3⟩

theorem step6 {t0 : Nat} {l0 : List ByteArray} {ρ : Env} {w0 : World} (t : Nat) (l : List ByteArray) (s : Nat) (hs : 1 ≤ s) (hs1 : s ≤ 256) (hl : l.length ≤ 20) (j : Nat) (hj : j < l.length) (hsz : (l.getD j .empty).size ≤ 600)
    (hgo : G (mkX Try.prog (tab libw) Try.f6 [⟨t0, .ro, .strs l0⟩] ρ w0 ⟨V.bool true, [], []⟩) (st6a (row6 s l (j + 1)).2 (len6 l (j + 1)) (len6 l (j + 1)) (strOf ((row6 s l (j + 1)).1.take (row6 s l (j + 1)).2)) t l s (row6 s l (j + 1)).1 ((j + 1 : Nat) : Int))) :
    G (mkX Try.prog (tab libw) Try.f6 [⟨t0, .ro, .strs l0⟩] ρ w0 ⟨V.bool true, [], []⟩) (st6a (row6 s l j).2 (len6 l j) (len6 l j) (strOf ((row6 s l j).1.take (row6 s l j).2)) t l s (row6 s l j).1 (j : Int)) := by
  obtain ⟨i1, i2, i3⟩ := row6_inv s hs l j
  obtain ⟨j1, j2, j3⟩ := row6_inv s hs l (j + 1)
  have e4 : i64 ((j : Int) + 1) = ((j + 1 : Nat) : Int) := by rw [i64_id] <;> omega
  rw [← e4] at hgo
  revert hgo
  simp only [row6, len6] at j1 j2 j3 ⊢
  generalize hrow : (row6 s l j).1 = row at *
  generalize hm : (row6 s l j).2 = m at *
  generalize hln : len6 l j = len at *
  generalize hxx : l.getD j .empty = x at *
  intro hgo
  have hqs : (strOf (row.take m)).size ≤ 256 := by rw [strOf_size, List.length_take]; omega
  obtain ⟨t1, t2, t3, t4⟩ := three6 s hs row m x i1 i2 i3 hsz
  have hh := halfI_eq x hsz
  have hk1 : x.size / 2 ≤ x.size := Nat.div_le_self _ _
  have ca : (cut x 0 (halfI x)).size = x.size / 2 := by
    rw [hh, size_bl, bl_cut, List.length_take, List.length_drop, ← size_bl]; simp; omega
  have cb : (cut x (halfI x) x.size).size = x.size - x.size / 2 := by
    rw [hh]; exact cut_size x _ hk1
  have inv2 := wAt_inv s hs [cut x 0 (halfI x), cut x (halfI x) x.size] row m i1 i2 2
  have inv1 := wAt_inv s hs [x] row m i1 i2 1
  have hlg : (wAt s [x] row m 1).2.2.length ≤ 600 := by
    have := inv1.2.2
    simp only [sumL, List.getD_cons_zero] at this
    omega
  refine G.seg ⟨tab_ok libw_ok, mixed⟩ [(65, true), (70, false), (103, false), (109, false)] 1000000 0 [0, 6, 8, 10, 11, 12, 14, 15, 62, 63, 64, 111, 112, 113] [(0, none), (1, none), (2, none), (35, none), (36, none), (55, none), (79, none), (151, none)] (k := k6b)
    (vs := [V.int .i64 s, .w (.c (.ptr 1 0)), V.int .i64 len, V.str x, .w (.c (.ptr 3 0)), .w (.c (.own 5)), V.str (cutM s (strOf (row.take m) ++ x).size [] (strOf (row.take m) ++ x)).2, .w (.c (.own 7)), .w (.c (.sl 0 0 l.length)), V.int .i64 l.length, V.int .i64 j, .w (.c (.own 6)), V.int .i64 (cutM s (strOf (row.take m) ++ x).size [] (strOf (row.take m) ++ x)).1.length, V.int .i64 0])
    (bs := bs6 (wAt s [x] row m 1).2.1 (i64 (len + (x.size : Int))) (wAt s [cut x 0 (halfI x), cut x (halfI x) x.size] row m 2).2.1 (lAt len [cut x 0 (halfI x), cut x (halfI x) x.size] 2) t l s (wAt s [x] row m 1).1 (wAt s [cut x 0 (halfI x), cut x (halfI x) x.size] row m 2).1
      (wAt s [x] row m 1).2.2 (cutM s (strOf (row.take m) ++ x).size [] (strOf (row.take m) ++ x)).1 (wAt s [cut x 0 (halfI x), cut x (halfI x) x.size] row m 2).2.2)
    (o := [decide ((j : Int) < (l.length : Int)), true, decide ((j : Int) < (l.length : Int)), Nat.blt j l.length, !(decide ((x.size : Int) > 600)), Nat.ble s 256, Nat.beq row.length s,
      true, true, decide ((m : Int) < (s : Int)), Nat.ble 1 s, Nat.ble s 256, Nat.beq row.length s, true, Nat.ble (sumL [x] 1) 100000000,
      Nat.ble ((strOf (row.take m)).size + x.size) 9223372036854775807, decide (1 ≤ (s : Int)), Nat.ble (strOf (row.take m) ++ x).size 100000000,
      true, true, decide (0 ≤ halfI x), decide (0 ≤ halfI x), decide (halfI x ≤ (x.size : Int)), true, decide (0 ≤ halfI x), decide (halfI x ≤ (x.size : Int)), true, decide ((x.size : Int) ≤ (x.size : Int)),
      true, true, decide ((m : Int) < (s : Int)), Nat.ble 1 s, Nat.ble s 256, Nat.beq row.length s, true, Nat.ble (sumL [cut x 0 (halfI x), cut x (halfI x) x.size] 2) 100000000,
      !((((wAt s [x] row m 1).2.2.length : Nat) : Int) != (((cutM s (strOf (row.take m) ++ x).size [] (strOf (row.take m) ++ x)).1.length : Nat) : Int)),
      !((((wAt s [cut x 0 (halfI x), cut x (halfI x) x.size] row m 2).2.2.length : Nat) : Int) != (((cutM s (strOf (row.take m) ++ x).size [] (strOf (row.take m) ++ x)).1.length : Nat) : Int))])
    ?_ (by kernel_rfl) ?_ ?_
  · rw [← hxx]
    kernel_rfl
  · have hj2 : decide ((j : Int) < (l.length : Int)) = true := by simpa using hj
    have h1 : Nat.ble s 256 = true := by simpa using hs1
    have h2 : Nat.beq row.length s = true := by simpa using i2
    have h3 : decide ((m : Int) < (s : Int)) = true := by simp; omega
    have h4 : Nat.ble 1 s = true := by simpa using hs
    have h5 : decide (0 ≤ halfI x) = true := by rw [hh]; simp; omega
    have h6 : decide (halfI x ≤ (x.size : Int)) = true := by rw [hh]; simp; omega
    refine ocons hj2 (ocons rfl (ocons hj2 (ocons (by simpa using hj) (ocons (by simp; omega) (ocons h1 (ocons h2 (ocons rfl (ocons rfl (ocons h3 (ocons h4 (ocons h1 (ocons h2 (ocons rfl (ocons (by simp [sumL]; omega)
      (ocons (by simp; omega) (ocons (by simp; omega) (ocons (by rw [ByteArray.size_append]; simp; omega)
      (ocons rfl (ocons rfl (ocons h5 (ocons h5 (ocons h6 (ocons rfl (ocons h5 (ocons h6 (ocons rfl (ocons (by simp)
      (ocons rfl (ocons rfl (ocons h3 (ocons h4 (ocons h1 (ocons h2 (ocons rfl (ocons (by simp only [sumL, List.getD_cons_zero, List.getD_cons_succ, ca, cb]; simp; omega)
      (ocons (by rw [t2]; simp) (ocons (by rw [t1, t2]; simp) onil)))))))))))))))))))))))))))))))))))))
  · rw [t1, t2]
    exact in6 _ _ _ _ len x _ t l s _ _ (wAt s [x] row m 1).2.2 (j : Int) (by omega) (by omega) (by omega) inv1.2.1 inv2.2.1 t3 t4 rfl (by rw [← t3]; exact hgo)
end Go.Proofs.Ytmjejlbmcefaoaa
