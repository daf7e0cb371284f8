/- Bytes of numbers, by the reference. -/
import Derived.Test.YtmjejlbmcefaoaaWnI
namespace Go.Proofs.Ytmjejlbmcefaoaa
open Go Sx

def libj0 : List (Nat × Entry) := [(62, e62), (63, e63)]
theorem libj0_ok : AllOk Try.prog libj0 := .cons e62_ok (.cons e63_ok (.nil _))
theorem s99_1 (l : List Int) (h1 : 0 < List.length l) (h2 : 1 < List.length l) (h3 : ByteArray.size (strOf (put8 (List.getD l 1 0))) ≤ 1000000000) (h4 : 8 + ByteArray.size (strOf (List.reverse (bytesOf (strOf (put8 (List.getD l 1 0)))))) ≤ 9223372036854775807) (h5 : 2 < List.length l) (h6 : ByteArray.size (strOf (put8 (List.getD l 2 0))) ≤ 1000000000) (h7 : ByteArray.size (ByteArray.mk #[] ++ strOf (List.reverse (bytesOf (strOf (put8 (List.getD l 0 0))))) ++ strOf (List.reverse (bytesOf (strOf (put8 (List.getD l 1 0)))))) + ByteArray.size (strOf (List.reverse (bytesOf (strOf (put8 (List.getD l 2 0)))))) ≤ 9223372036854775807) (h8 : 3 < List.length l) (h9 : ByteArray.size (strOf (put8 (List.getD l 3 0))) ≤ 1000000000) (h10 : ByteArray.size (ByteArray.mk #[] ++ strOf (List.reverse (bytesOf (strOf (put8 (List.getD l 0 0))))) ++ strOf (List.reverse (bytesOf (strOf (put8 (List.getD l 1 0))))) ++ strOf (List.reverse (bytesOf (strOf (put8 (List.getD l 2 0)))))) + ByteArray.size (strOf (List.reverse (bytesOf (strOf (put8 (List.getD l 3 0)))))) ≤ 9223372036854775807) : Sx.Spec Try.prog 99 [W.ints IntKind.u64 l] [] ⟨V.str (ByteArray.mk #[] ++ strOf (List.reverse (bytesOf (strOf (put8 (List.getD l 0 0))))) ++ strOf (List.reverse (bytesOf (strOf (put8 (List.getD l 1 0))))) ++ strOf (List.reverse (bytesOf (strOf (put8 (List.getD l 2 0))))) ++ strOf (List.reverse (bytesOf (strOf (put8 (List.getD l 3 0)))))), [], []⟩ :=
  spec_of_whole (tab_ok libj0_ok) mixed Try.func99 [] 1000000 [] (by kernel_rfl) (by kernel_rfl) (by kernel_rfl) (by kernel_rfl) (by kernel_rfl) (by kernel_rfl)
    (ocons rfl (ocons rfl (ocons (bltT h1) (ocons rfl (ocons rfl (ocons rfl (ocons rfl (ocons (bltT h2) (ocons (bleT h3) (ocons (bleT h4) (ocons rfl (ocons rfl (ocons (bltT h5) (ocons (bleT h6) (ocons (bleT h7) (ocons rfl (ocons rfl (ocons (bltT h8) (ocons (bleT h9) (ocons (bleT h10) onil))))))))))))))))))))

theorem leB_leL : ∀ k n : Nat, leB k n = leL k (n : Int)
  | 0, n => rfl
  | k + 1, n => by
    rw [leL, show ((n : Int) / 256) = ((n / 256 : Nat) : Int) from rfl, ← leB_leL k (n / 256)]
    unfold leB
    rw [List.range_succ_eq_map, List.map_cons, List.map_map, Nat.pow_zero, Nat.div_one]
    congr 1
    refine List.map_congr_left fun i _ => ?_
    show ((n / 256 ^ (i + 1) % 256 : Nat) : Int) = _
    rw [Nat.pow_succ', ← Nat.div_div_eq_div_mul]
theorem leV_leB : ∀ k n : Nat, leV (leB k n) = ((n % 256 ^ k : Nat) : Int)
  | 0, n => by rw [leB_leL]; simp [leL, leV, Nat.mod_one]
  | k + 1, n => by
    have ih := leV_leB k (n / 256)
    rw [leB_leL] at ih ⊢
    rw [leL, leV, show ((n : Int) / 256) = ((n / 256 : Nat) : Int) from rfl, ih, Nat.pow_succ', Nat.mod_mul]
    simp
theorem leL_back : ∀ (l : List Int), (∀ b ∈ l, 0 ≤ b ∧ b < 256) → leL l.length (leV l) = l
  | [], _ => rfl
  | a :: l, h => by
    have ha := h a (by simp)
    have ih := leL_back l (fun b hb => h b (by simp [hb]))
    rw [List.length_cons, leL, leV, show (a + 256 * leV l) % 256 = a by omega, show (a + 256 * leV l) / 256 = leV l by omega, ih]
theorem leB_range (k n : Nat) : ∀ b ∈ leB k n, 0 ≤ b ∧ b < 256 := by
  intro b hb
  obtain ⟨i, _, rfl⟩ := List.mem_map.1 hb
  have : n / 256 ^ i % 256 < 256 := Nat.mod_lt _ (by omega)
  generalize n / 256 ^ i % 256 = x at *
  omega
theorem bytesN_size (n : Nat) : (bytesN n).size = 32 := by
  unfold bytesN
  rw [strOf_size, leB_length]
theorem leN_bytesN {n : Nat} (h : n < P256) : leN (bytesN n) = n := by
  unfold leN bytesN
  rw [bytesOf_strOf (leB_range _ _), leV_leB, Int.toNat_natCast]
  exact Nat.mod_eq_of_lt h
theorem ofN_bytesN {n : Nat} (h : n < P256) : ofN (bytesN n) = n := by
  unfold ofN
  rw [bytesN_size]
  exact leN_bytesN h
theorem ofE_bytesN (n : Nat) : ofE (bytesN n) = 0 := by
  unfold ofE
  rw [bytesN_size]
  rfl
theorem leN_lt (s : ByteArray) : leN s < 256 ^ s.size ∧ ((leN s : Nat) : Int) = leV (bytesOf s) := by
  have h := leP_lt s s.size (Nat.le_refl _)
  have e : leP s s.size = leN s := by
    unfold leP leN
    rw [List.take_of_length_le (by rw [bytesOf_length]; exact Nat.le_refl _)]
  rw [e, List.take_of_length_le (by rw [bytesOf_length]; exact Nat.le_refl _)] at h
  exact h
theorem ofN_lt (s : ByteArray) : ofN s < P256 := by
  unfold ofN
  by_cases h : s.size = 32
  · rw [h]
    have := (leN_lt s).1
    rw [h] at this
    exact this
  · rw [beq_f h]
    exact (by decide : 0 < P256)
theorem bytesN_ofN {s : ByteArray} (h : s.size = 32) : bytesN (ofN s) = s := by
  unfold ofN bytesN
  rw [h]
  show strOf (leB 32 (leN s)) = s
  rw [leB_leL, (leN_lt s).2]
  have := leL_back (bytesOf s) (bytesOf_range s)
  rw [bytesOf_length, h] at this
  rw [this, bytes_back]
theorem ofE_32 {s : ByteArray} (h : s.size = 32) : ofE s = 0 := by
  unfold ofE; rw [h]; rfl
theorem ofE_not {s : ByteArray} (h : ¬ s.size = 32) : ofE s = 1 := by
  unfold ofE; rw [beq_f h]; rfl
theorem ofN_not {s : ByteArray} (h : ¬ s.size = 32) : ofN s = 0 := by
  unfold ofN; rw [beq_f h]; rfl
theorem leB_add (j k n : Nat) : leB (j + k) n = leB j n ++ leB k (n / 256 ^ j) := by
  unfold leB
  rw [List.range_add, List.map_append, List.map_map]
  congr 1
  refine List.map_congr_left fun i _ => ?_
  show ((n / 256 ^ (j + i) % 256 : Nat) : Int) = _
  rw [Nat.pow_add, ← Nat.div_div_eq_div_mul]
theorem leB_mod (k n : Nat) : leB k (n % 256 ^ k) = leB k n := by
  unfold leB
  refine List.map_congr_left fun i hi => ?_
  have hi := List.mem_range.1 hi
  have e : (256 : Nat) ^ k = 256 ^ i * (256 * 256 ^ (k - i - 1)) := by
    rw [← Nat.pow_succ', ← Nat.pow_add]
    congr 1
    omega
  rw [e, Nat.mod_mul_right_div_self, Nat.mod_mul_right_mod]
theorem word_bytes (n i : Nat) : strOf (List.reverse (bytesOf (strOf (put8 (wd n i))))) = strOf (leB 8 (n / 18446744073709551616 ^ i)) := by
  have hr := wd_range n i
  rw [put8_eq hr.1 hr.2]
  have hb : ∀ b ∈ beL 8 (wd n i), 0 ≤ b ∧ b < 256 := by
    intro b hb
    rw [← List.mem_reverse, be_rev] at hb
    unfold wd at hb
    rw [← leB_leL] at hb
    exact leB_range _ _ b hb
  rw [bytesOf_strOf hb, be_rev]
  unfold wd
  rw [← leB_leL]
  have := leB_mod 8 (n / 18446744073709551616 ^ i)
  rw [show (256 : Nat) ^ 8 = 18446744073709551616 from rfl] at this
  rw [this]
theorem s99n (a : Nat) : Sx.Spec Try.prog 99 [.agg (numC a)] [] (r97 [a]) := by
  refine Spec.imps (bs := [.ints .u64 (wrow a)]) (.cons (fun _ _ => rw_row) .nil) ?_
  have hl : (wrow a).length = 4 := rfl
  have e0 : List.getD (wrow a) 0 0 = wd a 0 := rfl
  have e1 : List.getD (wrow a) 1 0 = wd a 1 := rfl
  have e2 : List.getD (wrow a) 2 0 = wd a 2 := rfl
  have e3 : List.getD (wrow a) 3 0 = wd a 3 := rfl
  have sz : ∀ x, (strOf (put8 x)).size = 8 := fun x => by rw [strOf_size]; rfl
  have sz2 : ∀ n, (strOf (leB 8 n)).size = 8 := fun n => by rw [strOf_size, leB_length]
  have key : ByteArray.mk #[] ++ strOf (leB 8 (a / 18446744073709551616 ^ 0)) ++ strOf (leB 8 (a / 18446744073709551616 ^ 1)) ++ strOf (leB 8 (a / 18446744073709551616 ^ 2)) ++ strOf (leB 8 (a / 18446744073709551616 ^ 3)) = bytesN a := by
    rw [show (ByteArray.mk #[]) = ByteArray.empty from rfl, empty_append, ← strOf_append, ← strOf_append, ← strOf_append]
    unfold bytesN
    congr 1
    rw [show 32 = 8 + 8 + 8 + 8 from rfl, leB_add (8 + 8 + 8) 8, leB_add (8 + 8) 8, leB_add 8 8, Nat.pow_zero, Nat.div_one]
  have sa : (ByteArray.mk #[] ++ strOf (leB 8 (a / 18446744073709551616 ^ 0)) ++ strOf (leB 8 (a / 18446744073709551616 ^ 1))).size = 16 := by
    rw [show (ByteArray.mk #[]) = ByteArray.empty from rfl, empty_append, ByteArray.size_append, sz2, sz2]
  have sb : (ByteArray.mk #[] ++ strOf (leB 8 (a / 18446744073709551616 ^ 0)) ++ strOf (leB 8 (a / 18446744073709551616 ^ 1)) ++ strOf (leB 8 (a / 18446744073709551616 ^ 2))).size = 24 := by
    rw [ByteArray.size_append, sa, sz2]
  have h := s99_1 (wrow a) (by rw [hl]; decide) (by rw [hl]; decide) (by rw [sz]; decide) (by rw [e1, word_bytes, sz2]; decide) (by rw [hl]; decide) (by rw [sz]; decide) (by rw [e0, e1, e2, word_bytes, word_bytes, word_bytes, sa, sz2]; decide) (by rw [hl]; decide) (by rw [sz]; decide) (by rw [e0, e1, e2, e3, word_bytes, word_bytes, word_bytes, word_bytes, sb, sz2]; decide)
  rw [e0, e1, e2, e3, word_bytes, word_bytes, word_bytes, word_bytes, key] at h
  exact h
def e99n : Entry := numsE [1] r97
theorem e99n_ok : EntryOk Try.prog 99 e99n := numsE_ok fun ns h hl => by
  obtain ⟨a, rfl⟩ := ns1 h
  exact s99n a
def libJ : List (Nat × Entry) := (99, e99n) :: libW
theorem libJ_ok : AllOk Try.prog libJ := .cons e99n_ok libW_ok
end Go.Proofs.Ytmjejlbmcefaoaa
