/- Words that are turned: the program's way and the document's are one. -/
import Derived.Test.YtmjejlbmcefaoaaNum
namespace Go.Proofs.Ytmjejlbmcefaoaa
open Go Sx

def rot (X b m : Nat) : Nat := (X >>> m) ||| ((X <<< (b - m)) % 2 ^ b)

theorem tmod_b (n b : Int) (hb : 0 < b) : (n.tmod b + b).tmod b = n % b := by
  have h1 : -b < n.tmod b := by
    have := Int.lt_tmod_of_pos n hb
    omega
  rw [Int.tmod_eq_emod_of_nonneg (by omega), Int.add_emod_right, Int.tmod_def]
  rw [Int.sub_emod]
  simp

theorem rK_eq (n b : Int) (hb : 0 < b) (h2 : b ≤ 64) : rK n b = n % b := by
  have h1 : -b < n.tmod b := by
    have := Int.lt_tmod_of_pos n hb
    omega
  have h3 := tmod_b n b hb
  unfold rK
  split
  · rw [i64_id (by omega) (by omega), ← h3]
    exact (Int.tmod_eq_of_lt (by omega) (by omega)).symm
  · rw [← h3]
    have h4 := Int.tmod_lt_of_pos n hb
    have h5 : (n.tmod b + b).tmod b = (n.tmod b + b) % b := Int.tmod_eq_emod_of_nonneg (by omega)
    rw [h5, Int.add_emod_right, Int.emod_eq_of_lt (by omega) h4]

theorem rot_bit {X b K j : Nat} (hX : X < 2 ^ b) (hK : K < b) (hj : j < b) : (rot X b K).testBit j = X.testBit ((j + K) % b) := by
  unfold rot
  simp only [Nat.testBit_or, Nat.testBit_shiftRight, Nat.testBit_mod_two_pow, Nat.testBit_shiftLeft, hj, decide_true, Bool.true_and]
  rcases Nat.lt_or_ge (j + K) b with h | h
  · rw [Nat.mod_eq_of_lt h]
    have : ¬ (j ≥ b - K) := by omega
    simp [this, Nat.add_comm]
  · have e : (j + K) % b = j + K - b := by
      rw [Nat.mod_eq_sub_mod h, Nat.mod_eq_of_lt (by omega)]
    rw [e, Nat.testBit_lt_two_pow (x := X) (i := K + j) (Nat.lt_of_lt_of_le hX (Nat.pow_le_pow_right (by omega) (by omega)))]
    have : j ≥ b - K := by omega
    simp only [Bool.false_or, this, decide_true, Bool.true_and]
    congr 1
    omega

theorem rSum_eq {X b K : Nat} (hX : X < 2 ^ b) (hK : K < b) (hb : b ≤ 64) : ∀ j, j ≤ b → rSum (X : Int) (K : Int) (b : Int) j = ((rot X b K % 2 ^ j : Nat) : Int)
  | 0, _ => by simp [rSum, Nat.mod_one]
  | j + 1, hj => by
    have hX64 : X < 2 ^ IntKind.u64.bits := Nat.lt_of_lt_of_le hX (Nat.pow_le_pow_right (by omega) (by rw [bits64]; exact hb))
    have e1 : i64 ((j : Int) + K) = ((j + K : Nat) : Int) := by rw [i64_id] <;> omega
    have e2 : ((j + K : Nat) : Int).tmod (b : Int) = (((j + K) % b : Nat) : Int) := by rw [Int.tmod_eq_emod_of_nonneg (Int.natCast_nonneg _)]; simp
    have e3 : bitM (X : Int) (((j + K) % b : Nat) : Int) = (((rot X b K).testBit j).toNat : Int) := by
      unfold bitM
      rw [shr_nat _ hX64, Int.tmod_eq_emod_of_nonneg (Int.natCast_nonneg _), rot_bit hX hK (by omega), Nat.toNat_testBit, Nat.shiftRight_eq_div_pow]
      simp
    have hbit : ((rot X b K).testBit j).toNat ≤ 1 := by cases (rot X b K).testBit j <;> simp
    have hp : 2 ^ (j + 1) ≤ 2 ^ 64 := Nat.pow_le_pow_right (by omega) (by omega)
    have hmod : rot X b K % 2 ^ j < 2 ^ j := Nat.mod_lt _ (Nat.two_pow_pos j)
    have hmul : 2 ^ j * ((rot X b K).testBit j).toNat ≤ 2 ^ j := by
      calc 2 ^ j * ((rot X b K).testBit j).toNat ≤ 2 ^ j * 1 := Nat.mul_le_mul_left _ hbit
        _ = 2 ^ j := Nat.mul_one _
    simp only [rSum, rStep]
    rw [rSum_eq hX hK hb j (by omega), e1, e2, e3, shl_nat un64, bits64]
    have hlt : 2 ^ j * ((rot X b K).testBit j).toNat < 2 ^ 64 := by
      have := Nat.two_pow_pos j
      rw [Nat.pow_succ] at hp
      omega
    rw [Nat.shiftLeft_eq, Nat.mul_comm _ (2 ^ j), Nat.mod_eq_of_lt hlt]
    have : ((rot X b K % 2 ^ j : Nat) : Int) + ((2 ^ j * ((rot X b K).testBit j).toNat : Nat) : Int) = ((rot X b K % 2 ^ (j + 1) : Nat) : Int) := by
      rw [Nat.mod_pow_succ, Nat.toNat_testBit]; simp
    rw [this, u64_nat, Nat.mod_eq_of_lt]
    exact Nat.lt_of_lt_of_le (Nat.mod_lt _ (Nat.two_pow_pos _)) hp

theorem rot_lt {X b K : Nat} (hX : X < 2 ^ b) : rot X b K < 2 ^ b := by
  unfold rot
  refine Nat.or_lt_two_pow ?_ (Nat.mod_lt _ (Nat.two_pow_pos b))
  rw [Nat.shiftRight_eq_div_pow]
  exact Nat.lt_of_le_of_lt (Nat.div_le_self _ _) hX

theorem rRight_eq {X b : Nat} (n : Int) (hX : X < 2 ^ b) (hb0 : 0 < b) (hb : b ≤ 64) : rRight (X : Int) n (b : Int) = ((rot X b (n % b).toNat : Nat) : Int) := by
  unfold rRight
  rw [rK_eq n b (by omega) (by omega)]
  have h0 : 0 ≤ n % (b : Int) := Int.emod_nonneg _ (by omega)
  have h1 : n % (b : Int) < b := Int.emod_lt_of_pos _ (by omega)
  obtain ⟨K, hK⟩ := Int.eq_ofNat_of_zero_le h0
  rw [hK]
  have hK' : K < b := by omega
  rw [Int.toNat_natCast, rSum_eq hX hK' hb b (Nat.le_refl _), Nat.mod_eq_of_lt (rot_lt hX)]
  simp

theorem rightM_eq {k : IntKind} (hk : uns k) {X : Nat} (n : Int) (hX : X < 2 ^ k.bits) (hb : k.bits ≤ 64) (hb0 : 0 < k.bits) : rightM k (k.bits : Int) (X : Int) n = ((rot X k.bits (n % k.bits).toNat : Nat) : Int) := by
  have hr := right_m n k.bits (by omega) (by omega)
  unfold rightM
  rw [hr.1, tmod_b n _ (by omega)]
  have h0 : 0 ≤ n % (k.bits : Int) := Int.emod_nonneg _ (by omega)
  have h1 : n % (k.bits : Int) < k.bits := Int.emod_lt_of_pos _ (by omega)
  obtain ⟨K, hK⟩ := Int.eq_ofNat_of_zero_le h0
  rw [hK]
  have hK' : K < k.bits := by omega
  have e : i64 ((k.bits : Int) - K) = ((k.bits - K : Nat) : Int) := by rw [i64_id] <;> omega
  rw [e, shr_nat _ hX, shl_nat hk, orI_nat hk]
  · rw [Int.toNat_natCast]; rfl
  · rw [Nat.shiftRight_eq_div_pow]; exact Nat.lt_of_le_of_lt (Nat.div_le_self _ _) hX
  · exact Nat.mod_lt _ (Nat.two_pow_pos _)

theorem right64 {X : Nat} (n : Int) (hX : X < 2 ^ 64) : rightM .u64 64 (X : Int) n = rRight (X : Int) n 64 := by
  have := rightM_eq un64 n (by rw [bits64]; exact hX) (by rw [bits64]; omega) (by rw [bits64]; omega)
  rw [bits64] at this
  have h2 := rRight_eq n hX (by omega) (by omega)
  exact this.trans h2.symm
theorem right32 {X : Nat} (n : Int) (hX : X < 2 ^ 32) : rightM .u32 32 (X : Int) n = rRight (X : Int) n 32 := by
  have := rightM_eq un32 n (by rw [bits32]; exact hX) (by rw [bits32]; omega) (by rw [bits32]; omega)
  rw [bits32] at this
  have h2 := rRight_eq n hX (by omega) (by omega)
  exact this.trans h2.symm
theorem right32_lt {X : Nat} (n : Int) (hX : X < 2 ^ 32) : ∃ m : Nat, rRight (X : Int) n 32 = m ∧ m < 2 ^ 32 :=
  ⟨_, rRight_eq (b := 32) n hX (by omega) (by omega), rot_lt hX⟩
theorem right64_whole {X : Nat} (n : Int) (hX : X < 2 ^ 64) (hn : n % 64 = 0) : rightM .u64 64 (X : Int) n = X := by
  rw [right64 n hX]
  have h2 := rRight_eq n hX (by omega) (by omega)
  refine h2.trans ?_
  rw [show n % ((64 : Nat) : Int) = 0 from hn]
  simp only [Int.toNat_zero, rot, Nat.shiftRight_zero, Nat.sub_zero]
  rw [Nat.shiftLeft_eq, Nat.mul_mod_left, Nat.or_zero]
theorem right32_whole {X : Nat} (n : Int) (hX : X < 2 ^ 32) (hn : n % 32 = 0) : rightM .u32 32 (X : Int) n = X := by
  rw [right32 n hX]
  have h2 := rRight_eq n hX (by omega) (by omega)
  refine h2.trans ?_
  rw [show n % ((32 : Nat) : Int) = 0 from hn]
  simp only [Int.toNat_zero, rot, Nat.shiftRight_zero, Nat.sub_zero]
  rw [Nat.shiftLeft_eq, Nat.mul_mod_left, Nat.or_zero]
end Go.Proofs.Ytmjejlbmcefaoaa
