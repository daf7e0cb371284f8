/- The field of p, its inverses and roots, the curve's d. -/
import Derived.Test.YtmjejlbmcefaoaaEdb
import Derived.Test.YtmjejlbmcefaoaaPrat
namespace Go.Proofs.Ytmjejlbmcefaoaa

def pN : Nat := 57896044618658097711785492504343953926634992332820282019728792003956564819949
theorem pN_pos : 0 < pN := by decide +kernel
instance : NeZero pN := ⟨Nat.pos_iff_ne_zero.1 pN_pos⟩
theorem pN_prime : Prime pN := prime57896044618658097711785492504343953926634992332820282019728792003956564819949
theorem pN_root : 2 ≤ pN ∧ 2 ^ (pN - 1) % pN = 1 ∧ ∀ k, 0 < k → k < pN - 1 → 2 ^ k % pN ≠ 1 :=
  pratt_order (l := [2, 2, 3, 65147, 74058212732561358302231226437062788676166966415465897661863160754340907]) (by decide +kernel) (by kernel_rfl) (pcons prime2 (pcons prime2 (pcons prime3 (pcons prime65147 (pcons prime74058212732561358302231226437062788676166966415465897661863160754340907 pnil)))))
theorem pN_all : ∀ y, 0 < y → y < pN → ∃ k, k < pN - 1 ∧ 2 ^ k % pN = y := root_all pN_root.1 pN_root.2.1 pN_root.2.2
theorem fermat {y : Nat} (h0 : 0 < y) (h : y < pN) : y ^ (pN - 1) % pN = 1 := by
  obtain ⟨k, _, hk⟩ := pN_all y h0 h
  rw [← hk, ← Nat.pow_mod, ← Nat.pow_mul, Nat.mul_comm, Nat.pow_mul, Nat.pow_mod, pN_root.2.1, Nat.one_pow]
  exact Nat.mod_eq_of_lt (by decide +kernel)

abbrev Fp := Fin pN
def fpow (a : Fp) (k : Nat) : Fp := ⟨pw pN 256 a.val k, by
  have key : ∀ f a e, pw pN f a e < pN := by
    intro f
    induction f with
    | zero => intro a e; exact Nat.mod_lt _ pN_pos
    | succ f ih =>
      intro a e
      unfold pw
      split
      · exact Nat.mod_lt _ pN_pos
      · split
        · exact Nat.mod_lt _ pN_pos
        · exact ih _ _
  exact key 256 a.val k⟩
theorem fpow_val (a : Fp) {k : Nat} (h : k < 2 ^ 256) : (fpow a k).val = a.val ^ k % pN := pw_eq pN 256 a.val k h
theorem fpow_zero (a : Fp) : fpow a 0 = 1 := Fin.ext (by rw [fpow_val a (by decide)]; rfl)
theorem fpow_add (a : Fp) {j k : Nat} (h : j + k < 2 ^ 256) : fpow a (j + k) = fpow a j * fpow a k := Fin.ext (by
  rw [fpow_val a h, Fin.val_mul, fpow_val a (by omega), fpow_val a (by omega), ← Nat.mul_mod, Nat.pow_add])
theorem fpow_one (a : Fp) : fpow a 1 = a := Fin.ext (by rw [fpow_val a (by decide), Nat.pow_one]; exact Nat.mod_eq_of_lt a.isLt)
theorem fpow_succ (a : Fp) {k : Nat} (h : k + 1 < 2 ^ 256) : fpow a (k + 1) = fpow a k * a := by rw [fpow_add a h, fpow_one]
theorem fpow_mul (a : Fp) {j k : Nat} (hj : j < 2 ^ 256) (hk : k < 2 ^ 256) (h : j * k < 2 ^ 256) : fpow a (j * k) = fpow (fpow a j) k := Fin.ext (by
  rw [fpow_val a h, fpow_val _ hk, fpow_val a hj, ← Nat.pow_mod, Nat.pow_mul])
theorem fpow_prod (a b : Fp) {k : Nat} (h : k < 2 ^ 256) : fpow (a * b) k = fpow a k * fpow b k := Fin.ext (by
  rw [fpow_val _ h, Fin.val_mul, Fin.val_mul, fpow_val a h, fpow_val b h, ← Nat.pow_mod, ← Nat.mul_mod, Nat.mul_pow])
theorem fermatF {a : Fp} (h : a ≠ 0) : fpow a (pN - 1) = 1 := Fin.ext (by
  rw [fpow_val a (by decide +kernel), fermat (Nat.pos_of_ne_zero fun e => h (Fin.ext e)) a.isLt]
  rfl)

def finv (a : Fp) : Fp := fpow a (pN - 2)
theorem finv_ok (a : Fp) (h : a ≠ 0) : a * finv a = 1 := by
  unfold finv
  have := fpow_succ a (k := pN - 2) (by decide +kernel)
  rw [Fin.mul_comm, ← this]
  exact fermatF h
theorem fpow_of_zero {k : Nat} (h0 : 0 < k) (h : k < 2 ^ 256) : fpow 0 k = 0 := Fin.ext (by
  rw [fpow_val _ h]
  have : (0 : Fp).val = 0 := rfl
  rw [this, Nat.zero_pow h0]
  rfl)
theorem finv_zero : finv 0 = 0 := fpow_of_zero (by decide +kernel) (by decide +kernel)
theorem fp_nz (a b : Fp) (h : a * b = 0) : a = 0 ∨ b = 0 := by
  have h1 : (a.val * b.val) % pN = 0 := by rw [← Fin.val_mul, h]; rfl
  rcases pN_prime.euclid (Nat.dvd_of_mod_eq_zero h1) with h2 | h2
  · left
    exact Fin.ext (Nat.eq_zero_of_dvd_of_lt h2 a.isLt)
  · right
    exact Fin.ext (Nat.eq_zero_of_dvd_of_lt h2 b.isLt)
theorem fp_fld : Fld pN finv := ⟨fp_nz, finv_ok, by decide +kernel⟩

/-- the root of -1. -/
def iF : Fp := ⟨19681161376707505956807079304988542015446066515923890162744021073123829784752, by decide +kernel⟩
theorem iF_sq : iF * iF = -1 := by decide +kernel
def dF : Fp := ⟨37095705934669439343138083508754565189542113879843219016388785533085940283555, by decide +kernel⟩
theorem sq_pow {s : Fp} (h : s ≠ 0) : fpow (s * s) ((pN - 1) / 2) = 1 := by
  rw [fpow_prod s s (by decide +kernel), ← fpow_add s (by decide +kernel)]
  have : (pN - 1) / 2 + (pN - 1) / 2 = pN - 1 := by decide +kernel
  rw [this, fermatF h]
theorem dF_half : fpow dF ((pN - 1) / 2) = -1 := by decide +kernel
theorem one_ne : (1 : Fp) ≠ -1 := by decide +kernel
theorem dF_non (s : Fp) : s * s ≠ dF := by
  intro h
  have hs : s ≠ 0 := by
    rintro rfl
    exact absurd h (by decide +kernel)
  have := sq_pow hs
  rw [h, dF_half] at this
  exact one_ne this.symm
theorem crv : Crv pN finv dF iF := { fp_fld with hi := iF_sq, hd := dF_non }

/-- squares, by a power. -/
theorem sq_of {a r : Fp} (h : fpow a ((pN - 1) / 2) = 1) (hr : r = fpow a ((pN + 3) / 8)) : r * r = a ∨ r * r = -a := by
  have e : (r * r) * (r * r) = a * a := by
    rw [hr, ← fpow_add a (by decide +kernel), ← fpow_add a (by decide +kernel)]
    have e1 : (pN + 3) / 8 + (pN + 3) / 8 + ((pN + 3) / 8 + (pN + 3) / 8) = (pN - 1) / 2 + (1 + 1) := by decide +kernel
    rw [e1, fpow_add a (by decide +kernel), h, fpow_add a (by decide +kernel), fpow_one]
    grind
  have : (r * r - a) * (r * r + a) = 0 := by grind
  rcases fp_nz _ _ this with h | h
  · left; grind
  · right; grind
def twoQ : Fp := fpow 2 ((pN - 1) / 4)
theorem twoQ_sq : twoQ * twoQ = -1 := by decide +kernel
end Go.Proofs.Ytmjejlbmcefaoaa
