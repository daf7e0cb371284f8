/- What block.Write computes. -/
import Derived.Test.YtmjejlbmcefaoaaBlkA
namespace Go.Proofs.Ytmjejlbmcefaoaa
open Go Sx

def e52 : Entry := fun args ms => match args, ms with
  | [.c (.ptr 0 0)], [⟨183, .rw, .cs [.own 1, .v (.int .i64 m), .v (.int .i64 _)]⟩, ⟨5, .own s, .ints .u8 l⟩] => some (⟨V.str (strOf (l.take m.toNat)), [], []⟩, [decide (0 ≤ m), decide (m ≤ (s : Int)), Nat.beq l.length s])
  | [.c (.v (.pointer none))], [] => some (⟨V.str .empty, [], []⟩, [])
  | _, _ => none
theorem e52_ok : EntryOk Try.prog 52 e52 := by
  intro args ms r obs h ho
  unfold e52 at h
  split at h
  · rename_i m n s l
    cases h
    have h0 : 0 ≤ m := by simpa using ohead ho
    have h1 : m ≤ (s : Int) := by simpa using ohead (otail ho)
    have h2 : l.length = s := by simpa using ohead (otail (otail ho))
    obtain ⟨m', rfl⟩ := Int.eq_ofNat_of_zero_le h0
    exact s52 m' s n l (by omega) h2
  · cases h
    exact s52_nil
  · cases h
def libp : List (Nat × Entry) := [(52, e52)]
theorem libp_ok : AllOk Try.prog libp := .cons e52_ok (.nil _)

def wIn (s : Nat) : Nat → List Int → Nat → List ByteArray → ByteArray → List Int × Nat × List ByteArray
  | 0, row, m, out, _ => (row, m, out)
  | f + 1, row, m, out, x =>
    if x.size = 0 then (row, m, out)
    else if m + min x.size (s - m) = s then wIn s f (putL row m ((bytesOf x).take (s - m))) 0 (out ++ [strOf ((putL row m ((bytesOf x).take (s - m))).take s)]) (cut x (min x.size (s - m) : Nat) x.size)
    else wIn s f (putL row m ((bytesOf x).take (s - m))) (m + min x.size (s - m)) out (cut x (min x.size (s - m) : Nat) x.size)

noncomputable def k51a : List Item := kAt Try.prog (tab libp) Try.f51 [] 0 [.c (.ptr 0 0), .c (.sl 1 0 1)] [bufB 0 0 2, ⟨0, .ro, .strs [.empty]⟩, rowB 1 [0]]
noncomputable def k51b : List Item := kAt Try.prog (tab libp) Try.f51 [] 1 [.c (.ptr 0 0), .c (.sl 1 0 1)] [bufB 0 0 2, ⟨0, .ro, .strs [.empty]⟩, rowB 1 [0]]
abbrev bs51 (m len : Int) (t : Nat) (l : List ByteArray) (s : Nat) (row : List Int) (out : List ByteArray) : List Blk := [bufB m len 2, ⟨t, .ro, .strs l⟩, rowB s row, ⟨9, .own out.length, .strs out⟩]
abbrev bs51' (m len : Int) (t : Nat) (l : List ByteArray) (s : Nat) (row : List Int) (out : List ByteArray) (k : Nat) : List Blk := [bufB m len 2, ⟨t, .ro, .strs l⟩, rowB s row, ⟨9, .own k, .strs out⟩]
noncomputable def st51a (m len : Int) (t : Nat) (l : List ByteArray) (s : Nat) (row : List Int) (out : List ByteArray) (j : Int) : Cfg :=
  cfg k51a [0, 5, 11, 12, 13] [.w (.c (.ptr 0 0)), .w (.c (.own 3)), .w (.c (.sl 1 0 l.length)), V.int .i64 l.length, V.int .i64 j] (bs51 m len t l s row out)
noncomputable def st51b (m len : Int) (t : Nat) (l : List ByteArray) (s : Nat) (row : List Int) (out : List ByteArray) (j : Int) (x : ByteArray) : Cfg :=
  cfg k51b [0, 5, 7, 11, 12, 13] [.w (.c (.ptr 0 0)), .w (.c (.own 3)), V.str x, .w (.c (.sl 1 0 l.length)), V.int .i64 l.length, V.int .i64 j] (bs51 m len t l s row out)

theorem size0 {x : ByteArray} (h : x.size = 0) : x = .empty := by
  apply bl_inj
  have : (bl x).length = 0 := by rw [← size_bl]; exact h
  exact List.eq_nil_of_length_eq_zero this
theorem cut_size (x : ByteArray) (c : Nat) (h : c ≤ x.size) : (cut x c x.size).size = x.size - c := by
  rw [size_bl, bl_cut, List.length_take, List.length_drop, ← size_bl]
  simp
theorem putL_len (row : List Int) (m : Nat) (xs : List Int) (h : m + xs.length ≤ row.length) : (putL row m xs).length = row.length := by
  simp [putL]; omega

theorem in51 {ms : List Blk} {r : Res} {ρ : Env} {w : World} (hms : ms.length = 3) (len : Int) (t : Nat) (l : List ByteArray) (s : Nat) (hs0 : 1 ≤ s) (hs1 : s ≤ 256) (j : Int) :
    ∀ (f : Nat) (x : ByteArray) (row : List Int) (m : Nat) (out : List ByteArray), x.size ≤ f → m < s → row.length = s → out.length + x.size ≤ 100000000 →
    (G (mkX Try.prog (tab libp) Try.f51 ms ρ w r) (st51a ((wIn s f row m out x).2.1) len t l s (wIn s f row m out x).1 (wIn s f row m out x).2.2 (i64 (j + 1)))) →
    G (mkX Try.prog (tab libp) Try.f51 ms ρ w r) (st51b m len t l s row out j x) := by
  have stop : ∀ (x : ByteArray) (row : List Int) (m : Nat) (out : List ByteArray), x.size = 0 → G (mkX Try.prog (tab libp) Try.f51 ms ρ w r) (st51a m len t l s row out (i64 (j + 1))) → G (mkX Try.prog (tab libp) Try.f51 ms ρ w r) (st51b m len t l s row out j x) := by
    intro x row m out hx hg
    refine G.seg ⟨tab_ok libp_ok, mixed⟩ [(27, false)] 1000000 0 [0, 5, 11, 12, 13] [(0, none), (1, none), (2, none), (3, none)] (k := k51a) (vs := [.w (.c (.ptr 0 0)), .w (.c (.own 3)), .w (.c (.sl 1 0 l.length)), V.int .i64 l.length, V.int .i64 (i64 (j + 1))]) (bs := bs51 m len t l s row out)
      (o := [!(!(x.toList == ByteArray.empty.toList))]) (by kernel_rfl) ?_ (ocons (by rw [size0 hx]; simp) onil) hg
    · rw [show (mkX Try.prog (tab libp) Try.f51 ms ρ w r).I.1 = 3 from hms]; rfl
  intro f
  induction f with
  | zero => intro x row m out hx hm hr hb hg; exact stop x row m out (by omega) hg
  | succ f ih =>
    intro x row m out hx hm hr hb hg
    by_cases hx0 : x.size = 0
    · refine stop x row m out hx0 ?_
      simpa only [wIn, if_pos hx0] using hg
    · have hbl : (bytesOf x).length = x.size := bytesOf_length x
      have hne : (!(x.toList == ByteArray.empty.toList)) = true := by
        rw [eqS_ne]; rfl
        intro e; rw [e] at hx0; exact hx0 rfl
      have hsig : sigOk ms.length ([(0, none), (1, none), (2, none), (3, none)].map (fun p : Nat × Option IntKind => p.1)) = true := by
        rw [hms]; rfl
      have hc1 : min x.size (s - m) ≤ x.size := Nat.min_le_left _ _
      have hc2 : min x.size (s - m) ≤ s - m := Nat.min_le_right _ _
      have hc0 : 0 < min x.size (s - m) := by omega
      have hrl : (putL row m ((bytesOf x).take (s - m))).length = s := by
        rw [putL_len, hr]
        simp only [List.length_take]
        omega
      have e1 : i64 ((m : Int) + ((min (bytesOf x).length (s - m) : Nat) : Int)) = ((m + min x.size (s - m) : Nat) : Int) := by
        rw [hbl, i64_id] <;> omega
      by_cases hf : m + min x.size (s - m) = s
      · have hsig2 : sigOk ms.length ([(0, none), (1, none), (2, none), (168, none)].map (fun p : Nat × Option IntKind => p.1)) = true := by
          rw [hms]; rfl
        refine G.seg ⟨tab_ok libp_ok, mixed⟩ [(27, true), (59, true)] 1000000 0 [0, 5, 7, 11, 12, 13] [(0, none), (1, none), (2, none), (168, none)] (k := k51b) (vs := [.w (.c (.ptr 0 0)), .w (.c (.own 3)), V.str (cut x ((min (bytesOf x).length (s - m) : Nat) : Int) x.size), .w (.c (.sl 1 0 l.length)), V.int .i64 l.length, V.int .i64 j])
          (bs := bs51' 0 len t l s (putL row m ((bytesOf x).take (s - m))) (out ++ [strOf ((putL row m ((bytesOf x).take (s - m))).take (i64 ((m : Int) + ((min (bytesOf x).length (s - m) : Nat) : Int))).toNat)]) (out.length + 1))
          (o := [!(x.toList == ByteArray.empty.toList), true, decide ((m : Int) ≤ (s : Int)), true, decide ((s : Int) ≤ (s : Int)), Nat.ble (m + (s - m)) row.length, true, decide (((min (bytesOf x).length (s - m) : Nat) : Int) ≤ (x.size : Int)), true, decide ((x.size : Int) ≤ (x.size : Int)), true, i64 ((m : Int) + ((min (bytesOf x).length (s - m) : Nat) : Int)) == (s : Int),
            decide (0 ≤ i64 ((m : Int) + ((min (bytesOf x).length (s - m) : Nat) : Int))), decide (i64 ((m : Int) + ((min (bytesOf x).length (s - m) : Nat) : Int)) ≤ (s : Int)), Nat.beq (putL row m ((bytesOf x).take (s - m))).length s, Nat.ble ((out.length + 1) * 16) 1099511627776, Nat.ble (out.length + 1) 1099511627776, true, true])
          (by kernel_rfl) hsig2 (ocons hne (ocons rfl (ocons (by simp; omega) (ocons rfl (ocons (by simp) (ocons (by simp; omega) (ocons rfl (ocons (by rw [hbl]; simp; omega) (ocons rfl (ocons (by simp) (ocons rfl (ocons (by rw [e1]; simp; omega)
            (ocons (by rw [e1]; simp; omega) (ocons (by rw [e1]; simp; omega) (ocons (by rw [hrl]; simp) (ocons (by simp; omega) (ocons (by simp; omega) (ocons rfl (ocons rfl onil))))))))))))))))))) ?_
        rw [e1, hbl, Int.toNat_natCast, hf]
        have := ih (cut x ((min x.size (s - m) : Nat) : Int) x.size) (putL row m ((bytesOf x).take (s - m))) 0 (out ++ [strOf ((putL row m ((bytesOf x).take (s - m))).take s)]) (by rw [cut_size _ _ hc1]; omega) (by omega) hrl (by rw [cut_size _ _ hc1]; simp; omega) (by simpa only [wIn, if_neg hx0, if_pos hf] using hg)
        have hlen : (out ++ [strOf ((putL row m ((bytesOf x).take (s - m))).take s)]).length = out.length + 1 := by simp
        simp only [st51b, bs51, hlen] at this
        exact this
      · refine G.seg ⟨tab_ok libp_ok, mixed⟩ [(27, true), (59, false)] 1000000 0 [0, 5, 7, 11, 12, 13] [(0, none), (1, none), (2, none), (3, none)] (k := k51b) (vs := [.w (.c (.ptr 0 0)), .w (.c (.own 3)), V.str (cut x ((min (bytesOf x).length (s - m) : Nat) : Int) x.size), .w (.c (.sl 1 0 l.length)), V.int .i64 l.length, V.int .i64 j])
          (bs := bs51 (i64 ((m : Int) + ((min (bytesOf x).length (s - m) : Nat) : Int))) len t l s (putL row m ((bytesOf x).take (s - m))) out)
          (o := [!(x.toList == ByteArray.empty.toList), true, decide ((m : Int) ≤ (s : Int)), true, decide ((s : Int) ≤ (s : Int)), Nat.ble (m + (s - m)) row.length, true, decide (((min (bytesOf x).length (s - m) : Nat) : Int) ≤ (x.size : Int)), true, decide ((x.size : Int) ≤ (x.size : Int)), true, !(i64 ((m : Int) + ((min (bytesOf x).length (s - m) : Nat) : Int)) == (s : Int))])
          (by kernel_rfl) hsig (ocons hne (ocons rfl (ocons (by simp; omega) (ocons rfl (ocons (by simp) (ocons (by simp; omega) (ocons rfl (ocons (by rw [hbl]; simp; omega) (ocons rfl (ocons (by simp) (ocons rfl (ocons (by rw [e1]; simp; omega) onil)))))))))))) ?_
        rw [e1, hbl]
        refine ih _ _ _ _ (by rw [cut_size _ _ hc1]; omega) (by omega) hrl (by rw [cut_size _ _ hc1]; omega) ?_
        simpa only [wIn, if_neg hx0, if_neg hf] using hg

def wAt (s : Nat) (l : List ByteArray) (row : List Int) (m : Nat) : Nat → List Int × Nat × List ByteArray
  | 0 => (row, m, [])
  | j + 1 => wIn s (l.getD j .empty).size (wAt s l row m j).1 (wAt s l row m j).2.1 (wAt s l row m j).2.2 (l.getD j .empty)
def lAt (len : Int) (l : List ByteArray) : Nat → Int
  | 0 => len
  | j + 1 => i64 (lAt len l j + ((l.getD j .empty).size : Int))
def sumL (l : List ByteArray) : Nat → Nat
  | 0 => 0
  | j + 1 => sumL l j + (l.getD j .empty).size

theorem wIn_inv (s : Nat) (hs0 : 1 ≤ s) : ∀ (f : Nat) (row : List Int) (m : Nat) (out : List ByteArray) (x : ByteArray), m < s → row.length = s →
    (wIn s f row m out x).2.1 < s ∧ (wIn s f row m out x).1.length = s ∧ (wIn s f row m out x).2.2.length ≤ out.length + x.size
  | 0, row, m, out, x, hm, hr => ⟨hm, hr, by simp [wIn]⟩
  | f + 1, row, m, out, x, hm, hr => by
    by_cases hx0 : x.size = 0
    · simp only [wIn, if_pos hx0]; exact ⟨hm, hr, by omega⟩
    · have hc1 : min x.size (s - m) ≤ x.size := Nat.min_le_left _ _
      have hc2 : min x.size (s - m) ≤ s - m := Nat.min_le_right _ _
      have hc0 : 0 < min x.size (s - m) := by omega
      have hrl : (putL row m ((bytesOf x).take (s - m))).length = s := by
        rw [putL_len, hr]
        simp only [List.length_take]
        omega
      by_cases hf : m + min x.size (s - m) = s
      · simp only [wIn, if_neg hx0, if_pos hf]
        have := wIn_inv s hs0 f (putL row m ((bytesOf x).take (s - m))) 0 (out ++ [strOf ((putL row m ((bytesOf x).take (s - m))).take s)]) (cut x (min x.size (s - m) : Nat) x.size) (by omega) hrl
        rw [cut_size _ _ hc1, List.length_append, List.length_singleton] at this
        exact ⟨this.1, this.2.1, by omega⟩
      · simp only [wIn, if_neg hx0, if_neg hf]
        have := wIn_inv s hs0 f (putL row m ((bytesOf x).take (s - m))) (m + min x.size (s - m)) out (cut x (min x.size (s - m) : Nat) x.size) (by omega) hrl
        rw [cut_size _ _ hc1] at this
        exact ⟨this.1, this.2.1, by omega⟩
theorem wAt_inv (s : Nat) (hs0 : 1 ≤ s) (l : List ByteArray) (row : List Int) (m : Nat) (hm : m < s) (hr : row.length = s) : ∀ j, (wAt s l row m j).2.1 < s ∧ (wAt s l row m j).1.length = s ∧ (wAt s l row m j).2.2.length ≤ sumL l j
  | 0 => ⟨hm, hr, by simp [wAt]⟩
  | j + 1 => by
    obtain ⟨h1, h2, h3⟩ := wAt_inv s hs0 l row m hm hr j
    have := wIn_inv s hs0 (l.getD j .empty).size (wAt s l row m j).1 (wAt s l row m j).2.1 (wAt s l row m j).2.2 (l.getD j .empty) h1 h2
    simp only [wAt, sumL]
    exact ⟨this.1, this.2.1, by omega⟩
theorem sumL_le (l : List ByteArray) : ∀ j k, j ≤ k → sumL l j ≤ sumL l k
  | j, 0, h => by
    have : j = 0 := by omega
    subst this; exact Nat.le_refl _
  | j, k + 1, h => by
    rcases Nat.lt_or_ge k j with h' | h'
    · have : j = k + 1 := by omega
      subst this; exact Nat.le_refl _
    · have := sumL_le l j k h'
      simp only [sumL]
      omega

def wRes (s : Nat) (l : List ByteArray) (row : List Int) (m : Nat) (len : Int) : Res :=
  ⟨.w (.c (.own 3)), [(0, bufB (wAt s l row m l.length).2.1 (lAt len l l.length) 2), (2, rowB s (wAt s l row m l.length).1)], [⟨9, .own (wAt s l row m l.length).2.2.length, .strs (wAt s l row m l.length).2.2⟩]⟩

theorem s51 (t : Nat) (l : List ByteArray) (s m : Nat) (row : List Int) (len : Int) (hs0 : 1 ≤ s) (hs1 : s ≤ 256) (hm : m < s) (hr : row.length = s) (hl : l.length ≤ 1000000) (hsum : sumL l l.length ≤ 100000000) :
    Sx.Spec Try.prog 51 [.c (.ptr 0 0), .c (.sl 1 0 l.length)] [bufB m len 2, ⟨t, .ro, .strs l⟩, rowB s row] (wRes s l row m len) := by
  refine spec_body (tab := tab libp) Try.func51 (by kernel_rfl) (by kernel_rfl) (by kernel_rfl) fun ρ w => ?_
  refine G.seg ⟨tab_ok libp_ok, mixed⟩ [] 1000000 0 [0, 5, 11, 12, 13] [(0, none), (1, none), (2, none)] (k := k51a) (vs := [.w (.c (.ptr 0 0)), .w (.c (.v (.slice none 0 0))), .w (.c (.sl 1 0 l.length)), V.int .i64 l.length, V.int .i64 0]) (bs := [bufB m len 2, ⟨t, .ro, .strs l⟩, rowB s row])
    (o := []) (by kernel_rfl) (by kernel_rfl) onil ?_
  refine G.nilOwn 1 9 (.strs []) rfl rfl rfl (Nat.le_refl 3) ?_
  refine G.loop (fun j => st51a ((wAt s l row m j).2.1) (lAt len l j) t l s (wAt s l row m j).1 (wAt s l row m j).2.2 (j : Int)) l.length (fun j hj hg => ?_) ?_
  · have e1 : i64 ((j : Int) + 1) = ((j + 1 : Nat) : Int) := by rw [i64_id] <;> omega
    obtain ⟨i1, i2, i3⟩ := wAt_inv s hs0 l row m hm hr j
    have hle : sumL l (j + 1) ≤ sumL l l.length := sumL_le l _ _ (by omega)
    refine G.seg ⟨tab_ok libp_ok, mixed⟩ [(14, true)] 1000000 0 [0, 5, 7, 11, 12, 13] [(0, none), (1, none), (2, none), (3, none)] (k := k51b) (vs := [.w (.c (.ptr 0 0)), .w (.c (.own 3)), V.str (l.getD j .empty), .w (.c (.sl 1 0 l.length)), V.int .i64 l.length, V.int .i64 j])
      (bs := bs51 ((wAt s l row m j).2.1) (lAt len l (j + 1)) t l s (wAt s l row m j).1 (wAt s l row m j).2.2)
      (o := [decide ((j : Int) < (l.length : Int)), true, decide ((j : Int) < (l.length : Int)), Nat.blt j l.length, true]) (by kernel_rfl) (by kernel_rfl) (ocons (by simpa using hj) (ocons rfl (ocons (by simpa using hj) (ocons (by simpa using hj) (ocons rfl onil))))) ?_
    refine in51 rfl (lAt len l (j + 1)) t l s hs0 hs1 (j : Int) (l.getD j .empty).size (l.getD j .empty) _ _ _ (Nat.le_refl _) i1 i2 ?_ ?_
    · simp only [sumL] at hle
      omega
    · rw [e1]
      exact hg
  · exact G.ends (tab_ok libp_ok) mixed [(14, false)] 1000000 [(0, none), (1, none), (2, none), (3, none)] (o := [!(decide ((l.length : Int) < (l.length : Int)))]) (by kernel_rfl) (by kernel_rfl) (by kernel_rfl) (by kernel_rfl) (ocons (by simp) onil)
theorem s51_nil (l : List ByteArray) (t n : Nat) : Sx.Spec Try.prog 51 [.c (.v (.pointer none)), .c (.sl 0 0 n)] [⟨t, .ro, .strs l⟩] ⟨.w (.c (.v (.slice none 0 0))), [], []⟩ :=
  spec_of_whole (tab_ok libp_ok) mixed Try.func51 [] 1000000 [(0, none)] (o := []) (by kernel_rfl) (by kernel_rfl) (by kernel_rfl) (by kernel_rfl) (by kernel_rfl) (by kernel_rfl) onil
def e51v : Entry := fun args ms => match args, ms with
  | [.c (.ptr 0 0), .c (.sl 1 0 n)], [⟨183, .rw, .cs [.own 2, .v (.int .i64 m), .v (.int .i64 len)]⟩, ⟨_, .ro, .strs l⟩, ⟨5, .own s, .ints .u8 row⟩] =>
    some (wRes s l row m.toNat len, [Nat.beq n l.length, decide (0 ≤ m), decide (m < (s : Int)), Nat.ble 1 s, Nat.ble s 256, Nat.beq row.length s, Nat.ble l.length 1000000, Nat.ble (sumL l l.length) 100000000])
  | [.c (.v (.pointer none)), .c (.sl 0 0 _)], [⟨_, .ro, .strs _⟩] => some (⟨.w (.c (.v (.slice none 0 0))), [], []⟩, [])
  | _, _ => none
theorem e51v_ok : EntryOk Try.prog 51 e51v := by
  intro args ms r obs h ho
  unfold e51v at h
  split at h
  · rename_i n m len t l s row
    cases h
    have h0 : n = l.length := by simpa using ohead ho
    have h1 : 0 ≤ m := by simpa using ohead (otail ho)
    have h2 : m < (s : Int) := by simpa using ohead (otail (otail ho))
    have h3 : 1 ≤ s := by simpa using ohead (otail (otail (otail ho)))
    have h4 : s ≤ 256 := by simpa using ohead (otail (otail (otail (otail ho))))
    have h5 : row.length = s := by simpa using ohead (otail (otail (otail (otail (otail ho)))))
    have h6 : l.length ≤ 1000000 := by simpa using ohead (otail (otail (otail (otail (otail (otail ho))))))
    have h7 : sumL l l.length ≤ 100000000 := by simpa using ohead (otail (otail (otail (otail (otail (otail (otail ho)))))))
    obtain ⟨m', rfl⟩ := Int.eq_ofNat_of_zero_le h1
    subst h0
    exact s51 t l s m' row len h3 h4 (by omega) h5 h6 h7
  · cases h
    exact s51_nil _ _ _
  · cases h
end Go.Proofs.Ytmjejlbmcefaoaa
