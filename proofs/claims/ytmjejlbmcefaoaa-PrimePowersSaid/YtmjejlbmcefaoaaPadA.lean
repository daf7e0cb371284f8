/- What block.Pad, sealringref01.Put and sealringref16.Pad compute. -/
import Derived.Test.YtmjejlbmcefaoaaStr
namespace Go.Proofs.Ytmjejlbmcefaoaa
open Go Sx

/-! block.Pad -/
def padM1 (w : Int) : Int := i64 (1 + w)
def padMany (n s w : Int) : Int := i64 (padM1 w + (i64 (s - (i64 (n + padM1 w)).tmod s)).tmod s)
def padLoop : Nat → List Int → Int → Int → List Int
  | 0, p, _, _ => p
  | f + 1, p, i, left => if left > 0 then padLoop f (p.set i.toNat (IntKind.u8.wrap left)) (i64 (i - 1)) (shr .i64 left 8) else p

noncomputable def k48 : List Item := kAt Try.prog (tab []) Try.f48 [(12, false), (15, false), (19, false), (23, false), (27, false), (31, false)] 0 [W.int .i64 0, W.int .i64 16, W.int .i64 8] []
noncomputable def st48 (m : Nat) (p : List Int) (i left : Int) : Cfg := cfg k48 [8, 9, 10] [.w (.c (.own 0)), V.int .i64 i, V.int .i64 left] [⟨5, .own m, .ints .u8 p⟩]

theorem shr8 (left : Int) : shr .i64 left 8 = left / 256 := by
  unfold shr
  rw [show (min (8 : Int).toNat IntKind.i64.bits) = 8 from rfl, Int.fdiv_eq_ediv_of_nonneg _ (by omega)]
  rfl

theorem loop48 (m : Nat) (hm : m ≤ 1000000) : ∀ (f : Nat) (p : List Int) (i left : Int) (ρ : Env) (w : World), 0 ≤ left → left < 256 ^ f → (f : Int) ≤ i + 1 → i < m → p.length = m →
    G (mkX Try.prog (tab []) Try.f48 [] ρ w ⟨V.str (strOf ((padLoop f p i left).take m)), [], []⟩) (st48 m p i left)
  | 0, p, i, left, ρ, w, h0, h1, h2, h3, hp => by
    have hl : ¬ left > 0 := by simp at h1; omega
    exact G.ends (tab_ok (.nil _)) mixed [(55, false)] 1000000 [] (o := [!(decide (left > 0)), Nat.ble (0 + m) p.length]) (by kernel_rfl) (by kernel_rfl) (by kernel_rfl) (by kernel_rfl) (ocons (by simpa using hl) (ocons (by simp; omega) onil))
  | f + 1, p, i, left, ρ, w, h0, h1, h2, h3, hp => by
    by_cases hl : left > 0
    · have hi : 0 ≤ i := by
        have : (0 : Int) ≤ f := Int.natCast_nonneg f
        omega
      have e1 : i64 (i - 1) = i - 1 := by rw [i64_id] <;> omega
      have e2 := shr8 left
      refine G.seg ⟨tab_ok (.nil _), mixed⟩ [(55, true)] 1000000 0 [8, 9, 10] [(0, none)] (k := k48) (vs := [.w (.c (.own 0)), V.int .i64 (i64 (i - 1)), V.int .i64 (shr .i64 left 8)]) (bs := [⟨5, .own m, .ints .u8 (p.set i.toNat (IntKind.u8.wrap left))⟩])
        (o := [decide (left > 0), decide (0 ≤ i), decide (i < (m : Int)), true, Nat.blt i.toNat p.length, true]) (by kernel_rfl) (by kernel_rfl) (ocons (by simpa using hl) (ocons (by simpa using hi) (ocons (by simpa using h3) (ocons rfl (ocons (by simp; omega) (ocons rfl onil)))))) ?_
      have e3 : padLoop (f + 1) p i left = padLoop f (p.set i.toNat (IntKind.u8.wrap left)) (i64 (i - 1)) (shr .i64 left 8) := by simp only [padLoop, if_pos hl]
      rw [e3]
      refine loop48 m hm f _ _ _ ρ w (by rw [e2]; omega) ?_ (by rw [e1]; push_cast at h2; omega) (by rw [e1]; omega) (by simpa using hp)
      rw [e2]
      rw [Int.pow_succ] at h1
      exact Int.ediv_lt_of_lt_mul (by omega) h1
    · have e3 : padLoop (f + 1) p i left = p := by simp only [padLoop, if_neg hl]
      rw [e3]
      exact G.ends (tab_ok (.nil _)) mixed [(55, false)] 1000000 [] (o := [!(decide (left > 0)), Nat.ble (0 + m) p.length]) (by kernel_rfl) (by kernel_rfl) (by kernel_rfl) (by kernel_rfl) (ocons (by simpa using hl) (ocons (by simp; omega) onil))

def padGood (n s w : Int) : Prop := 0 ≤ n ∧ n ≤ 1099511627776 ∧ 16 ≤ s ∧ s ≤ 256 ∧ 8 ≤ w ∧ w ≤ 16
instance (n s w : Int) : Decidable (padGood n s w) := inferInstanceAs (Decidable (0 ≤ n ∧ n ≤ 1099511627776 ∧ 16 ≤ s ∧ s ≤ 256 ∧ 8 ≤ w ∧ w ≤ 16))

/-- how many zeros stand behind the first byte. -/
def padZ (n s w : Int) : Nat := ((s - (n + 1 + w) % s) % s).toNat
theorem padMany_eq {n s w : Int} (h : padGood n s w) : padMany n s w = ((1 + w.toNat + padZ n s w : Nat) : Int) := by
  obtain ⟨h1, h2, h3, h4, h5, h6⟩ := h
  have e1 : padM1 w = 1 + w := by unfold padM1; rw [i64_id] <;> omega
  unfold padMany padZ
  rw [e1, i64_id (n := n + (1 + w)) (by omega) (by omega)]
  have a1 : 0 ≤ (n + (1 + w)) % s := Int.emod_nonneg _ (by omega)
  have a2 : (n + (1 + w)) % s < s := Int.emod_lt_of_pos _ (by omega)
  rw [Int.tmod_eq_emod_of_nonneg (a := n + (1 + w)) (by omega)]
  rw [i64_id (n := s - (n + (1 + w)) % s) (by omega) (by omega), Int.tmod_eq_emod_of_nonneg (a := s - (n + (1 + w)) % s) (by omega)]
  have a3 : 0 ≤ (s - (n + (1 + w)) % s) % s := Int.emod_nonneg _ (by omega)
  have a4 : (s - (n + (1 + w)) % s) % s < s := Int.emod_lt_of_pos _ (by omega)
  rw [i64_id (by omega) (by omega), show n + 1 + w = n + (1 + w) by omega]
  omega
theorem padZ_lt {n s w : Int} (h : padGood n s w) : padZ n s w < 256 := by
  obtain ⟨h1, h2, h3, h4, h5, h6⟩ := h
  unfold padZ
  have a3 : 0 ≤ (s - (n + 1 + w) % s) % s := Int.emod_nonneg _ (by omega)
  have a4 : (s - (n + 1 + w) % s) % s < s := Int.emod_lt_of_pos _ (by omega)
  omega

def padList (n s w : Int) : List Int :=
  let m := 1 + w.toNat + padZ n s w
  (padLoop 6 ((List.replicate m 0).set 0 128) ((m : Int) - 1) (8 * n)).take m

theorem s48_good {n s w : Int} (h : padGood n s w) : Sx.Spec Try.prog 48 [W.int .i64 n, W.int .i64 s, W.int .i64 w] [] ⟨V.str (strOf (padList n s w)), [], []⟩ := by
  refine spec_body (tab := tab []) Try.func48 (by kernel_rfl) (by kernel_rfl) (by kernel_rfl) fun ρ ww => ?_
  have hm := padMany_eq h
  have hz := padZ_lt h
  obtain ⟨h1, h2, h3, h4, h5, h6⟩ := h
  refine G.seg ⟨tab_ok (.nil _), mixed⟩ [(12, false), (15, false), (19, false), (23, false), (27, false), (31, false)] 1000000 0 [8, 9, 10] [(156, none)] (k := k48)
    (vs := [.w (.c (.own 0)), V.int .i64 (i64 (padMany n s w - 1)), V.int .i64 (i64 (8 * n))]) (bs := [⟨5, .own (padMany n s w).toNat, .ints .u8 ((List.replicate (padMany n s w).toNat 0).set 0 128)⟩])
    (o := [!(decide (n < 0)), !(decide (n > 1099511627776)), !(decide (s < 16)), !(decide (s > 256)), !(decide (w < 8)), !(decide (w > 16)), !(decide (s = 0)), !(decide (s = 0)), decide (0 ≤ padMany n s w), decide (padMany n s w ≤ padMany n s w), decide (padMany n s w ≤ 1099511627776),
      true, decide (0 < ((padMany n s w).toNat : Int)), true, Nat.blt 0 (List.replicate (padMany n s w).toNat (0 : Int)).length]) (by kernel_rfl) (by kernel_rfl) ?_ ?_
  · rw [hm]
    generalize padZ n s w = z at hz
    refine ocons (by simp; omega) (ocons (by simp; omega) (ocons (by simp; omega) (ocons (by simp; omega) (ocons (by simp; omega) (ocons (by simp; omega) (ocons (by simp; omega) (ocons (by simp; omega) (ocons (by simp; omega) (ocons (by simp) (ocons (by simp; omega) (ocons rfl (ocons (by simp; omega) (ocons rfl (ocons (by simp; omega) onil))))))))))))))
  · rw [hm, i64_id (n := 8 * n) (by omega) (by omega), i64_id (n := ((1 + w.toNat + padZ n s w : Nat) : Int) - 1) (by omega) (by omega), Int.toNat_natCast]
    refine loop48 (1 + w.toNat + padZ n s w) (by omega) 6 _ _ _ ρ ww (by omega) (by omega) (by omega) (by omega) (by simp)

theorem s48_bad {n s w : Int} (h : ¬ padGood n s w) : Sx.Spec Try.prog 48 [W.int .i64 n, W.int .i64 s, W.int .i64 w] [] ⟨V.str .empty, [], []⟩ := by
  have go : ∀ (a : List (Nat × Bool)) (o : List Bool), whole Try.prog (tab []) Try.f48 a 1000000 [] [W.int .i64 n, W.int .i64 s, W.int .i64 w] [] = some (V.str .empty, [], o) → (∀ b ∈ o, b = true) → Sx.Spec Try.prog 48 [W.int .i64 n, W.int .i64 s, W.int .i64 w] [] ⟨V.str .empty, [], []⟩ :=
    fun a o h1 h2 => spec_of_whole (tab_ok (.nil _)) mixed Try.func48 a 1000000 [] (by kernel_rfl) (by kernel_rfl) (by kernel_rfl) h1 (by kernel_rfl) (by kernel_rfl) h2
  by_cases c1 : n < 0
  · exact go [(12, true)] [decide (n < 0)] (by kernel_rfl) (ocons (by simpa using c1) onil)
  by_cases c2 : n > 1099511627776
  · exact go [(12, false), (15, true)] [!(decide (n < 0)), decide (n > 1099511627776)] (by kernel_rfl) (ocons (by simpa using c1) (ocons (by simpa using c2) onil))
  by_cases c3 : s < 16
  · exact go [(12, false), (15, false), (19, true)] [!(decide (n < 0)), !(decide (n > 1099511627776)), decide (s < 16)] (by kernel_rfl) (ocons (by simpa using c1) (ocons (by simpa using c2) (ocons (by simpa using c3) onil)))
  by_cases c4 : s > 256
  · exact go [(12, false), (15, false), (19, false), (23, true)] [!(decide (n < 0)), !(decide (n > 1099511627776)), !(decide (s < 16)), decide (s > 256)] (by kernel_rfl) (ocons (by simpa using c1) (ocons (by simpa using c2) (ocons (by simpa using c3) (ocons (by simpa using c4) onil))))
  by_cases c5 : w < 8
  · exact go [(12, false), (15, false), (19, false), (23, false), (27, true)] [!(decide (n < 0)), !(decide (n > 1099511627776)), !(decide (s < 16)), !(decide (s > 256)), decide (w < 8)] (by kernel_rfl) (ocons (by simpa using c1) (ocons (by simpa using c2) (ocons (by simpa using c3) (ocons (by simpa using c4) (ocons (by simpa using c5) onil)))))
  by_cases c6 : w > 16
  · exact go [(12, false), (15, false), (19, false), (23, false), (27, false), (31, true)] [!(decide (n < 0)), !(decide (n > 1099511627776)), !(decide (s < 16)), !(decide (s > 256)), !(decide (w < 8)), decide (w > 16)] (by kernel_rfl) (ocons (by simpa using c1) (ocons (by simpa using c2) (ocons (by simpa using c3) (ocons (by simpa using c4) (ocons (by simpa using c5) (ocons (by simpa using c6) onil))))))
  exact absurd (by unfold padGood; omega) h

def padM (n s w : Int) : ByteArray := if padGood n s w then strOf (padList n s w) else .empty
theorem s48 (n s w : Int) : Sx.Spec Try.prog 48 [W.int .i64 n, W.int .i64 s, W.int .i64 w] [] ⟨V.str (padM n s w), [], []⟩ := by
  unfold padM
  split
  · rename_i h; exact s48_good h
  · rename_i h; exact s48_bad h
def e48 : Entry := fun args ms => match args, ms with
  | [.c (.v (.int .i64 n)), .c (.v (.int .i64 s)), .c (.v (.int .i64 w))], [] => some (⟨V.str (padM n s w), [], []⟩, [])
  | _, _ => none
theorem e48_ok : EntryOk Try.prog 48 e48 := by
  intro args ms r obs h ho
  unfold e48 at h
  split at h
  · cases h
    exact s48 _ _ _
  · cases h
end Go.Proofs.Ytmjejlbmcefaoaa
