/- What sealringref01.Put and sealringref16.Pad compute. -/
import Derived.Test.YtmjejlbmcefaoaaPadA
namespace Go.Proofs.Ytmjejlbmcefaoaa
open Go Sx

/-! sealringref01.Put -/
def pX (x : Int) : Nat → Int
  | 0 => x
  | j + 1 => u64 ((pX x j).tdiv 256)
def pB (x : Int) (j : Nat) : Int := IntKind.u8.wrap ((pX x j).tmod 256)
def put8 (x : Int) : List Int := [pB x 7, pB x 6, pB x 5, pB x 4, pB x 3, pB x 2, pB x 1, pB x 0]
def put4 (x : Int) : List Int := [pB x 3, pB x 2, pB x 1, pB x 0]
theorem s62_8 (x : Int) : Sx.Spec Try.prog 62 [W.int .u64 x, W.int .i64 8] [] ⟨V.str (strOf (put8 x)), [], []⟩ :=
  spec_of_whole (tab_ok (.nil _)) mixed Try.func62 [] 1000000 [] (o := tt 38) (by kernel_rfl) (by kernel_rfl) (by kernel_rfl) (by kernel_rfl) (by kernel_rfl) (by kernel_rfl) (ott 38)
theorem s62_4 (x : Int) : Sx.Spec Try.prog 62 [W.int .u64 x, W.int .i64 4] [] ⟨V.str (strOf (put4 x)), [], []⟩ :=
  spec_of_whole (tab_ok (.nil _)) mixed Try.func62 [] 1000000 [] (o := tt 18) (by kernel_rfl) (by kernel_rfl) (by kernel_rfl) (by kernel_rfl) (by kernel_rfl) (by kernel_rfl) (ott 18)
def e62 : Entry := fun args ms => match args, ms with
  | [.c (.v (.int .u64 x)), .c (.v (.int .i64 8))], [] => some (⟨V.str (strOf (put8 x)), [], []⟩, [])
  | [.c (.v (.int .u64 x)), .c (.v (.int .i64 4))], [] => some (⟨V.str (strOf (put4 x)), [], []⟩, [])
  | _, _ => none
theorem e62_ok : EntryOk Try.prog 62 e62 := by
  intro args ms r obs h ho
  unfold e62 at h
  split at h
  · cases h; exact s62_8 _
  · cases h; exact s62_4 _
  · cases h
def lib62 : List (Nat × Entry) := [(62, e62)]
theorem lib62_ok : AllOk Try.prog lib62 := .cons e62_ok (.nil _)

/-! sealringref16.Pad -/
def rpEnd : Nat → ByteArray
  | 0 => .empty
  | j + 1 => rpEnd j ++ strOf [0]
def rpTop : Nat → ByteArray
  | 0 => strOf [128]
  | j + 1 => rpTop j ++ strOf [0]
def rpRest (n : Int) (j : Nat) : ByteArray := rpEnd j ++ strOf (put8 (u64 (u64 n * 8)))
theorem rpEnd_size : ∀ j, (rpEnd j).size = j
  | 0 => rfl
  | j + 1 => by simp only [rpEnd]; rw [ByteArray.size_append, rpEnd_size j, strOf_size]; rfl
theorem rpTop_size : ∀ j, (rpTop j).size = j + 1
  | 0 => rfl
  | j + 1 => by simp only [rpTop]; rw [ByteArray.size_append, rpTop_size j, strOf_size]; rfl
theorem rpEnd_eq : ∀ j, rpEnd j = strOf (List.replicate j 0)
  | 0 => rfl
  | j + 1 => by simp only [rpEnd]; rw [rpEnd_eq j, ← strOf_append, ← List.replicate_succ']
theorem rpTop_eq : ∀ j, rpTop j = strOf (128 :: List.replicate j 0)
  | 0 => rfl
  | j + 1 => by
    simp only [rpTop]
    rw [rpTop_eq j, ← strOf_append, List.replicate_succ']
    rfl

noncomputable def k49a : List Item := kAt Try.prog (tab lib62) Try.f49 [(11, false), (14, false), (18, false), (22, false), (26, false), (30, false)] 0 [W.int .i64 0, W.int .i64 16, W.int .i64 8] []
noncomputable def k49b : List Item := kAt Try.prog (tab lib62) Try.f49 [(11, false), (14, false), (18, false), (22, false), (26, false), (30, false)] 1 [W.int .i64 0, W.int .i64 16, W.int .i64 8] []
noncomputable def st49a (n s w : Int) (j : Nat) : Cfg := cfg k49a [0, 1, 2, 7, 8] [V.int .i64 n, V.int .i64 s, V.int .i64 w, V.str (rpEnd j), V.int .i64 ((8 + j : Nat) : Int)] []
noncomputable def st49b (n s w : Int) (q : ByteArray) (j : Nat) : Cfg := cfg k49b [0, 1, 2, 7, 9] [V.int .i64 n, V.int .i64 s, V.int .i64 w, V.str q, V.str (rpTop j)] []

def rpad (n s w : Int) : ByteArray := rpTop (padZ n s w) ++ rpRest n (w - 8).toNat

theorem padZ_first {n s w : Int} (h : padGood n s w) (j : Nat) (hj : j < padZ n s w) : (n + (j + 1) + w) % s ≠ 0 := by
  obtain ⟨h1, h2, h3, h4, h5, h6⟩ := h
  unfold padZ at hj
  intro e
  have a1 : 0 ≤ (n + 1 + w) % s := Int.emod_nonneg _ (by omega)
  have a2 : (n + 1 + w) % s < s := Int.emod_lt_of_pos _ (by omega)
  have e2 : n + ((j : Int) + 1) + w = (n + 1 + w) + j := by omega
  rw [e2] at e
  rcases Int.lt_or_eq_of_le a1 with hp | hz
  · rw [Int.emod_eq_of_lt (a := s - (n + 1 + w) % s) (by omega) (by omega)] at hj
    rw [Int.add_emod, Int.emod_eq_of_lt (a := (j : Int)) (by omega) (by omega), Int.emod_eq_of_lt (by omega) (by omega)] at e
    omega
  · rw [← hz, Int.sub_zero, Int.emod_self] at hj
    simp at hj
theorem padZ_last {n s w : Int} (h : padGood n s w) : (n + ((padZ n s w : Int) + 1) + w) % s = 0 := by
  obtain ⟨h1, h2, h3, h4, h5, h6⟩ := h
  have a1 : 0 ≤ (n + 1 + w) % s := Int.emod_nonneg _ (by omega)
  have a2 : (n + 1 + w) % s < s := Int.emod_lt_of_pos _ (by omega)
  have a3 : 0 ≤ (s - (n + 1 + w) % s) % s := Int.emod_nonneg _ (by omega)
  unfold padZ
  rw [Int.toNat_of_nonneg a3]
  have e2 : n + ((s - (n + 1 + w) % s) % s + 1) + w = (n + 1 + w) + (s - (n + 1 + w) % s) % s := by omega
  rw [e2, Int.add_emod, Int.emod_emod_of_dvd _ (Int.dvd_refl s), ← Int.add_emod]
  have e3 : n + 1 + w + (s - (n + 1 + w) % s) = s + s * ((n + 1 + w) / s) := by
    have := Int.emod_add_mul_ediv (n + 1 + w) s
    omega
  rw [e3, Int.add_mul_emod_self_left, Int.emod_self]

theorem s49_good {n s w : Int} (h : padGood n s w) : Sx.Spec Try.prog 49 [W.int .i64 n, W.int .i64 s, W.int .i64 w] [] ⟨V.str (rpad n s w), [], []⟩ := by
  refine spec_body (tab := tab lib62) Try.func49 (by kernel_rfl) (by kernel_rfl) (by kernel_rfl) fun ρ ww => ?_
  have hz := padZ_lt h
  have hfirst := padZ_first h
  have hlast := padZ_last h
  obtain ⟨h1, h2, h3, h4, h5, h6⟩ := h
  refine G.seg ⟨tab_ok lib62_ok, mixed⟩ [(11, false), (14, false), (18, false), (22, false), (26, false), (30, false)] 1000000 0 [0, 1, 2, 7, 8] [] (k := k49a) (vs := [V.int .i64 n, V.int .i64 s, V.int .i64 w, V.str .empty, V.int .i64 8]) (bs := [])
    (o := [!(decide (n < 0)), !(decide (n > 1099511627776)), !(decide (s < 16)), !(decide (s > 256)), !(decide (w < 8)), !(decide (w > 16))]) (by kernel_rfl) (by kernel_rfl)
    (ocons (by simp; omega) (ocons (by simp; omega) (ocons (by simp; omega) (ocons (by simp; omega) (ocons (by simp; omega) (ocons (by simp; omega) onil)))))) ?_
  refine G.loop (st49a n s w) (w - 8).toNat (fun j hj hg => ?_) ?_
  · have e1 : i64 (((8 + j : Nat) : Int) + 1) = ((8 + (j + 1) : Nat) : Int) := by rw [i64_id] <;> omega
    refine G.seg ⟨tab_ok lib62_ok, mixed⟩ [(34, true)] 1000000 0 [0, 1, 2, 7, 8] [] (k := k49a) (vs := [V.int .i64 n, V.int .i64 s, V.int .i64 w, V.str (rpEnd (j + 1)), V.int .i64 (i64 (((8 + j : Nat) : Int) + 1))]) (bs := [])
      (o := [decide (((8 + j : Nat) : Int) < w), true, Nat.ble ((rpEnd j).size + (strOf [0]).size) 9223372036854775807]) (by kernel_rfl) (by kernel_rfl) (ocons (by simp; omega) (ocons rfl (ocons (by rw [rpEnd_size, strOf_size]; simp; omega) onil))) ?_
    rw [e1]
    exact hg
  · refine G.seg ⟨tab_ok lib62_ok, mixed⟩ [(34, false)] 1000000 0 [0, 1, 2, 7, 9] [] (k := k49b) (vs := [V.int .i64 n, V.int .i64 s, V.int .i64 w, V.str (rpRest n (w - 8).toNat), V.str (strOf [128])]) (bs := [])
      (o := [!(decide (((8 + (w - 8).toNat : Nat) : Int) < w)), Nat.ble ((rpEnd (w - 8).toNat).size + (strOf (put8 (u64 (u64 n * 8)))).size) 9223372036854775807, true]) (by kernel_rfl) (by kernel_rfl) (ocons (by simp; omega) (ocons (by rw [rpEnd_size, strOf_size]; simp [put8]; omega) (ocons rfl onil))) ?_
    have tmod_eq : ∀ j : Nat, j ≤ 256 → (i64 (i64 (n + ((rpTop j).size : Nat)) + w)).tmod s = (n + (j + 1) + w) % s := by
      intro j hj
      rw [rpTop_size, i64_id (n := n + ((j + 1 : Nat) : Int)) (by omega) (by omega), i64_id (by omega) (by omega), Int.tmod_eq_emod_of_nonneg (by omega)]
      rfl
    refine G.loop (st49b n s w (rpRest n (w - 8).toNat)) (padZ n s w) (fun j hj hg => ?_) ?_
    · refine G.seg ⟨tab_ok lib62_ok, mixed⟩ [(57, true)] 1000000 0 [0, 1, 2, 7, 9] [] (k := k49b) (vs := [V.int .i64 n, V.int .i64 s, V.int .i64 w, V.str (rpRest n (w - 8).toNat), V.str (rpTop (j + 1))]) (bs := [])
        (o := [!(decide (s = 0)), (i64 (i64 (n + ((rpTop j).size : Nat)) + w)).tmod s != 0, true, Nat.ble ((rpTop j).size + (strOf [0]).size) 9223372036854775807]) (by kernel_rfl) (by kernel_rfl)
        (ocons (by simp; omega) (ocons (by rw [tmod_eq j (by omega)]; simpa using hfirst j hj) (ocons rfl (ocons (by rw [rpTop_size, strOf_size]; simp; omega) onil)))) ?_
      exact hg
    · refine G.ends (tab_ok lib62_ok) mixed [(57, false)] 1000000 [] (o := [!(decide (s = 0)), !((i64 (i64 (n + ((rpTop (padZ n s w)).size : Nat)) + w)).tmod s != 0), Nat.ble ((rpTop (padZ n s w)).size + (rpRest n (w - 8).toNat).size) 9223372036854775807]) (by kernel_rfl) (by kernel_rfl) (by kernel_rfl) (by kernel_rfl)
        (ocons (by simp; omega) (ocons (by rw [tmod_eq _ (by omega)]; simpa using hlast) (ocons (by rw [rpTop_size, rpRest, ByteArray.size_append, rpEnd_size, strOf_size]; simp [put8]; omega) onil)))

theorem s49_bad {n s w : Int} (h : ¬ padGood n s w) : Sx.Spec Try.prog 49 [W.int .i64 n, W.int .i64 s, W.int .i64 w] [] ⟨V.str .empty, [], []⟩ := by
  have go : ∀ (a : List (Nat × Bool)) (o : List Bool), whole Try.prog (tab []) Try.f49 a 1000000 [] [W.int .i64 n, W.int .i64 s, W.int .i64 w] [] = some (V.str .empty, [], o) → (∀ b ∈ o, b = true) → Sx.Spec Try.prog 49 [W.int .i64 n, W.int .i64 s, W.int .i64 w] [] ⟨V.str .empty, [], []⟩ :=
    fun a o h1 h2 => spec_of_whole (tab_ok (.nil _)) mixed Try.func49 a 1000000 [] (by kernel_rfl) (by kernel_rfl) (by kernel_rfl) h1 (by kernel_rfl) (by kernel_rfl) h2
  by_cases c1 : n < 0
  · exact go [(11, true)] [decide (n < 0)] (by kernel_rfl) (ocons (by simpa using c1) onil)
  by_cases c2 : n > 1099511627776
  · exact go [(11, false), (14, true)] [!(decide (n < 0)), decide (n > 1099511627776)] (by kernel_rfl) (ocons (by simpa using c1) (ocons (by simpa using c2) onil))
  by_cases c3 : s < 16
  · exact go [(11, false), (14, false), (18, true)] [!(decide (n < 0)), !(decide (n > 1099511627776)), decide (s < 16)] (by kernel_rfl) (ocons (by simpa using c1) (ocons (by simpa using c2) (ocons (by simpa using c3) onil)))
  by_cases c4 : s > 256
  · exact go [(11, false), (14, false), (18, false), (22, true)] [!(decide (n < 0)), !(decide (n > 1099511627776)), !(decide (s < 16)), decide (s > 256)] (by kernel_rfl) (ocons (by simpa using c1) (ocons (by simpa using c2) (ocons (by simpa using c3) (ocons (by simpa using c4) onil))))
  by_cases c5 : w < 8
  · exact go [(11, false), (14, false), (18, false), (22, false), (26, true)] [!(decide (n < 0)), !(decide (n > 1099511627776)), !(decide (s < 16)), !(decide (s > 256)), decide (w < 8)] (by kernel_rfl) (ocons (by simpa using c1) (ocons (by simpa using c2) (ocons (by simpa using c3) (ocons (by simpa using c4) (ocons (by simpa using c5) onil)))))
  by_cases c6 : w > 16
  · exact go [(11, false), (14, false), (18, false), (22, false), (26, false), (30, true)] [!(decide (n < 0)), !(decide (n > 1099511627776)), !(decide (s < 16)), !(decide (s > 256)), !(decide (w < 8)), decide (w > 16)] (by kernel_rfl) (ocons (by simpa using c1) (ocons (by simpa using c2) (ocons (by simpa using c3) (ocons (by simpa using c4) (ocons (by simpa using c5) (ocons (by simpa using c6) onil))))))
  exact absurd (by unfold padGood; omega) h

def rpadM (n s w : Int) : ByteArray := if padGood n s w then rpad n s w else .empty
theorem s49 (n s w : Int) : Sx.Spec Try.prog 49 [W.int .i64 n, W.int .i64 s, W.int .i64 w] [] ⟨V.str (rpadM n s w), [], []⟩ := by
  unfold rpadM
  split
  · rename_i h; exact s49_good h
  · rename_i h; exact s49_bad h
def e49 : Entry := fun args ms => match args, ms with
  | [.c (.v (.int .i64 n)), .c (.v (.int .i64 s)), .c (.v (.int .i64 w))], [] => some (⟨V.str (rpadM n s w), [], []⟩, [])
  | _, _ => none
theorem e49_ok : EntryOk Try.prog 49 e49 := by
  intro args ms r obs h ho
  unfold e49 at h
  split at h
  · cases h
    exact s49 _ _ _
  · cases h
end Go.Proofs.Ytmjejlbmcefaoaa
