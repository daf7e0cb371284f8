/- Words as whole numbers: what the model's operations on them come to. -/
import Derived.Test.YtmjejlbmcefaoaaMixB
namespace Go.Proofs.Ytmjejlbmcefaoaa
open Go Sx

theorem wrap_u64 (n : Int) : u64 n = n % 18446744073709551616 := by simp [IntKind.wrap, IntKind.signed, IntKind.bits]
theorem wrap_u32 (n : Int) : u32 n = n % 4294967296 := by simp [IntKind.wrap, IntKind.signed, IntKind.bits]
theorem wrap_u8 (n : Int) : IntKind.u8.wrap n = n % 256 := by simp [IntKind.wrap, IntKind.signed, IntKind.bits]

theorem u64_nat (n : Nat) : u64 (n : Int) = ((n % 2 ^ 64 : Nat) : Int) := by rw [wrap_u64]; simp
theorem u32_nat (n : Nat) : u32 (n : Int) = ((n % 2 ^ 32 : Nat) : Int) := by rw [wrap_u32]; simp

/-- an unsigned kind's number of bits. -/
def uns (k : IntKind) : Prop := k.signed = false
theorem wrap_nat {k : IntKind} (hk : uns k) (n : Nat) : k.wrap (n : Int) = ((n % 2 ^ k.bits : Nat) : Int) := by
  unfold uns at hk
  simp [IntKind.wrap, hk]

theorem ofInt_nat (b n : Nat) : BitVec.ofInt b (n : Int) = BitVec.ofNat b n := by simp

theorem orI_nat {k : IntKind} (hk : uns k) {a b : Nat} (ha : a < 2 ^ k.bits) (hb : b < 2 ^ k.bits) : orI k a b = ((a ||| b : Nat) : Int) := by
  unfold orI
  rw [ofInt_nat, ofInt_nat, wrap_nat hk]
  simp only [BitVec.toNat_or, BitVec.toNat_ofNat, Nat.mod_eq_of_lt ha, Nat.mod_eq_of_lt hb]
  rw [Nat.mod_eq_of_lt (Nat.or_lt_two_pow ha hb)]
theorem andI_nat {k : IntKind} (hk : uns k) {a b : Nat} (ha : a < 2 ^ k.bits) (hb : b < 2 ^ k.bits) : andI k a b = ((a &&& b : Nat) : Int) := by
  unfold andI
  rw [ofInt_nat, ofInt_nat, wrap_nat hk]
  simp only [BitVec.toNat_and, BitVec.toNat_ofNat, Nat.mod_eq_of_lt ha, Nat.mod_eq_of_lt hb]
  rw [Nat.mod_eq_of_lt (Nat.and_lt_two_pow _ hb)]
theorem xorI_nat {k : IntKind} (hk : uns k) {a b : Nat} (ha : a < 2 ^ k.bits) (hb : b < 2 ^ k.bits) : xorI k a b = ((a ^^^ b : Nat) : Int) := by
  unfold xorI
  rw [ofInt_nat, ofInt_nat, wrap_nat hk]
  simp only [BitVec.toNat_xor, BitVec.toNat_ofNat, Nat.mod_eq_of_lt ha, Nat.mod_eq_of_lt hb]
  rw [Nat.mod_eq_of_lt (Nat.xor_lt_two_pow ha hb)]
theorem shl_nat {k : IntKind} (hk : uns k) (a b : Nat) : shl k a b = (((a <<< b) % 2 ^ k.bits : Nat) : Int) := by
  unfold shl
  have : ((a : Int) * 2 ^ (min ((b : Int)).toNat k.bits)) = ((a * 2 ^ (min b k.bits) : Nat) : Int) := by simp
  rw [this, wrap_nat hk]
  congr 1
  rw [Nat.shiftLeft_eq]
  rcases Nat.lt_or_ge k.bits b with h | h
  · rw [Nat.min_eq_right (by omega), Nat.mul_mod_left]
    obtain ⟨c, rfl⟩ : ∃ c, b = k.bits + c := ⟨b - k.bits, by omega⟩
    rw [Nat.pow_add, ← Nat.mul_assoc, Nat.mul_right_comm, Nat.mul_mod_left]
  · rw [Nat.min_eq_left h]
theorem shr_nat {k : IntKind} {a : Nat} (b : Nat) (ha : a < 2 ^ k.bits) : shr k a b = ((a >>> b : Nat) : Int) := by
  unfold shr
  have : ((a : Int).fdiv (2 ^ (min ((b : Int)).toNat k.bits))) = ((a / 2 ^ (min b k.bits) : Nat) : Int) := by
    rw [Int.fdiv_eq_ediv_of_nonneg _ (by exact_mod_cast Nat.zero_le _)]
    simp
  rw [this]
  congr 1
  rw [Nat.shiftRight_eq_div_pow]
  rcases Nat.lt_or_ge k.bits b with h | h
  · rw [Nat.min_eq_right (by omega), Nat.div_eq_of_lt ha, Nat.div_eq_of_lt (Nat.lt_of_lt_of_le ha (Nat.pow_le_pow_right (by omega) (by omega)))]
  · rw [Nat.min_eq_left h]

theorem un64 : uns .u64 := rfl
theorem un32 : uns .u32 := rfl
theorem un8 : uns .u8 := rfl
theorem bits64 : IntKind.u64.bits = 64 := rfl
theorem bits32 : IntKind.u32.bits = 32 := rfl

/-- a word's number. -/
theorem nat_of_wf64 {n : Int} (h : (Lit.int .u64 n).wf = true) : ∃ m : Nat, n = m ∧ m < 2 ^ 64 := by
  simp [Lit.wf, IntKind.min, IntKind.max, IntKind.signed, IntKind.bits] at h
  exact ⟨n.toNat, by omega, by omega⟩
theorem nat_of_wf32 {n : Int} (h : (Lit.int .u32 n).wf = true) : ∃ m : Nat, n = m ∧ m < 2 ^ 32 := by
  simp [Lit.wf, IntKind.min, IntKind.max, IntKind.signed, IntKind.bits] at h
  exact ⟨n.toNat, by omega, by omega⟩
theorem int_of_wf64 {n : Int} (h : (Lit.int .i64 n).wf = true) : -9223372036854775808 ≤ n ∧ n ≤ 9223372036854775807 := by
  simp [Lit.wf, IntKind.min, IntKind.max, IntKind.signed, IntKind.bits] at h
  exact h
end Go.Proofs.Ytmjejlbmcefaoaa
