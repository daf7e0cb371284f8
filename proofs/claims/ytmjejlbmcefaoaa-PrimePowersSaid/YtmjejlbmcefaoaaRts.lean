/- Roots: what prime and its reference find is the same, and a root. -/
import Derived.Test.YtmjejlbmcefaoaaPrI
import Derived.Test.YtmjejlbmcefaoaaFpa
namespace Go.Proofs.Ytmjejlbmcefaoaa
open Go Sx

/-- a number as one of the field. -/
def toF (x : Nat) : Fp := ⟨x % pN, Nat.mod_lt _ pN_pos⟩
theorem toF_val {x : Nat} (h : x < 57896044618658097711785492504343953926634992332820282019728792003956564819949) : (toF x).val = x := Nat.mod_eq_of_lt h
theorem toF_inj {x y : Nat} (hx : x < 57896044618658097711785492504343953926634992332820282019728792003956564819949) (hy : y < 57896044618658097711785492504343953926634992332820282019728792003956564819949) (h : toF x = toF y) : x = y := by
  rw [← toF_val hx, ← toF_val hy, h]
theorem toF_mod (x : Nat) : toF (x % 57896044618658097711785492504343953926634992332820282019728792003956564819949) = toF x := Fin.ext (Nat.mod_mod x 57896044618658097711785492504343953926634992332820282019728792003956564819949)
theorem toF_mul (a b : Nat) : toF (a * b % 57896044618658097711785492504343953926634992332820282019728792003956564819949) = toF a * toF b := by
  rw [toF_mod]
  exact Fin.ext (by rw [Fin.val_mul]; exact Nat.mul_mod a b pN)
theorem toF_add (a b : Nat) : toF ((a + b) % 57896044618658097711785492504343953926634992332820282019728792003956564819949) = toF a + toF b := by
  rw [toF_mod]
  exact Fin.ext (by rw [Fin.val_add]; exact Nat.add_mod a b pN)
theorem toF_pow (a : Nat) {k : Nat} (h : k < P256) : toF (powP a k) = fpow (toF a) k := by
  refine Fin.ext ?_
  rw [fpow_val _ (show k < 2 ^ 256 from h), powP_eq a h]
  show a ^ k % 57896044618658097711785492504343953926634992332820282019728792003956564819949 % pN = (a % pN) ^ k % pN
  rw [← Nat.pow_mod]
  exact Nat.mod_mod _ _
theorem negN_eq {x : Nat} (h : x < 57896044618658097711785492504343953926634992332820282019728792003956564819949) : negN x = (57896044618658097711785492504343953926634992332820282019728792003956564819949 - x) % 57896044618658097711785492504343953926634992332820282019728792003956564819949 := by
  unfold negN
  by_cases h0 : x = 0
  · subst h0; rfl
  · rw [beq_f h0, cond_false]
    omega
theorem toF_neg {x : Nat} (h : x < 57896044618658097711785492504343953926634992332820282019728792003956564819949) : toF (negN x) = - toF x := by
  have e : toF (negN x) + toF x = 0 := by
    rw [negN_eq h, ← toF_add]
    refine Fin.ext ?_
    show ((57896044618658097711785492504343953926634992332820282019728792003956564819949 - x) % 57896044618658097711785492504343953926634992332820282019728792003956564819949 + x) % 57896044618658097711785492504343953926634992332820282019728792003956564819949 % pN = 0
    rw [Nat.mod_add_mod, show 57896044618658097711785492504343953926634992332820282019728792003956564819949 - x + x = 57896044618658097711785492504343953926634992332820282019728792003956564819949 by omega]
    rfl
  grind
theorem toF_I : toF 19681161376707505956807079304988542015446066515923890162744021073123829784752 = iF := by decide +kernel
theorem toF_eq {a b : Nat} (hb : b < 57896044618658097711785492504343953926634992332820282019728792003956564819949) : Nat.beq (a % 57896044618658097711785492504343953926634992332820282019728792003956564819949) b = true ↔ toF a = toF b := by
  rw [Nat.beq_eq]
  constructor
  · intro h
    rw [← h, toF_mod]
  · intro h
    exact toF_inj (Nat.mod_lt _ (by decide)) hb (by rw [toF_mod, h])
theorem toF_zero : toF 0 = 0 := rfl
theorem root1_lt (x : Nat) : root1 x < 57896044618658097711785492504343953926634992332820282019728792003956564819949 := by
  have hr := powP_lt x 7237005577332262213973186563042994240829374041602535252466099000494570602494
  unfold root1
  generalize powP x 7237005577332262213973186563042994240829374041602535252466099000494570602494 = r at hr
  unfold rootX
  cases Nat.beq (r * r % 57896044618658097711785492504343953926634992332820282019728792003956564819949) x with
  | true => rw [cond_true]; exact hr
  | false => rw [cond_false]; exact Nat.mod_lt _ (by decide)
theorem rootP_def (x : Nat) : rootP x = bif rootB x then (bif Nat.beq (root1 x % 2) 1 then negN (root1 x) else root1 x) else 0 := by
  unfold rootP rootB
  generalize root1 x = y
  rfl
theorem root1_F {x : Nat} (hx : x < 57896044618658097711785492504343953926634992332820282019728792003956564819949) : (fpow (toF x) ((pN + 3) / 8) * fpow (toF x) ((pN + 3) / 8) = toF x ∧ toF (root1 x) = fpow (toF x) ((pN + 3) / 8)) ∨
    (fpow (toF x) ((pN + 3) / 8) * fpow (toF x) ((pN + 3) / 8) ≠ toF x ∧ toF (root1 x) = fpow (toF x) ((pN + 3) / 8) * iF) := by
  have e8 : (pN + 3) / 8 = 7237005577332262213973186563042994240829374041602535252466099000494570602494 := by decide +kernel
  rw [e8, ← toF_pow x (show 7237005577332262213973186563042994240829374041602535252466099000494570602494 < P256 by decide), ← toF_mul]
  unfold root1
  generalize powP x 7237005577332262213973186563042994240829374041602535252466099000494570602494 = r
  unfold rootX
  cases h : Nat.beq (r * r % 57896044618658097711785492504343953926634992332820282019728792003956564819949) x with
  | true =>
    rw [cond_true]
    refine .inl ⟨?_, rfl⟩
    rw [Nat.beq_eq.mp h]
  | false =>
    rw [cond_false]
    refine .inr ⟨fun e => ?_, ?_⟩
    · have := toF_inj (Nat.mod_lt _ (by decide)) hx e
      rw [this, Nat.beq_refl] at h
      cases h
    · rw [toF_mul, toF_I]
theorem rootB_F {x : Nat} (hx : x < 57896044618658097711785492504343953926634992332820282019728792003956564819949) : rootB x = true ↔ toF (root1 x) * toF (root1 x) = toF x := by
  unfold rootB
  rw [toF_eq hx, ← toF_mul, toF_mod]
/-- who is a square. -/
theorem rootB_of {x : Nat} (hx : x < 57896044618658097711785492504343953926634992332820282019728792003956564819949) (h : toF x = 0 ∨ fpow (toF x) ((pN - 1) / 2) = 1) : rootB x = true := by
  rw [rootB_F hx]
  rcases root1_F hx with ⟨h1, h2⟩ | ⟨h1, h2⟩
  · rw [h2, h1]
  · rw [h2]
    rcases h with h | h
    · exfalso
      rw [h, fpow_of_zero (by decide +kernel) (by decide +kernel)] at h1
      exact h1 (by decide +kernel)
    · rcases sq_of h rfl with h3 | h3
      · exact absurd h3 h1
      · have := iF_sq
        generalize fpow (toF x) ((pN + 3) / 8) = r at *
        grind
theorem half_half {a : Fp} (h : a ≠ 0) : fpow a ((pN - 1) / 2) * fpow a ((pN - 1) / 2) = 1 := by
  rw [← fpow_add a (by decide +kernel)]
  have : (pN - 1) / 2 + (pN - 1) / 2 = pN - 1 := by decide +kernel
  rw [this, fermatF h]
theorem of_rootB {x : Nat} (hx : x < 57896044618658097711785492504343953926634992332820282019728792003956564819949) (h : rootB x = true) : toF x = 0 ∨ fpow (toF x) ((pN - 1) / 2) = 1 := by
  rw [rootB_F hx] at h
  by_cases h0 : toF (root1 x) = 0
  · left
    rw [← h, h0]
    decide +kernel
  · right
    rw [← h]
    exact sq_pow h0
/-- the reference's root. -/
def rootQB (a : Nat) : Bool := Nat.beq (powP a 28948022309329048855892746252171976963317496166410141009864396001978282409974) 0 || Nat.beq (powP a 28948022309329048855892746252171976963317496166410141009864396001978282409974) 1
def rootQ (a : Nat) : Nat := bif rootQB a then (bif Nat.beq (root1 a % 2) 1 then subQ 0 (root1 a) else root1 a) else 0
theorem rootQB_eq {x : Nat} (hx : x < 57896044618658097711785492504343953926634992332820282019728792003956564819949) : rootQB x = rootB x := by
  have e2 : (pN - 1) / 2 = 28948022309329048855892746252171976963317496166410141009864396001978282409974 := by decide +kernel
  have hp := toF_pow x (show 28948022309329048855892746252171976963317496166410141009864396001978282409974 < P256 by decide)
  rw [← e2] at hp
  have hlt := powP_lt x 28948022309329048855892746252171976963317496166410141009864396001978282409974
  have h0 : rootQB x = true ↔ (toF x = 0 ∨ fpow (toF x) ((pN - 1) / 2) = 1) := by
    unfold rootQB
    rw [Bool.or_eq_true, Nat.beq_eq, Nat.beq_eq, ← hp, e2]
    constructor
    · rintro (h | h)
      · left
        by_cases hz : toF x = 0
        · exact hz
        · exfalso
          have := half_half hz
          rw [← hp, e2, h] at this
          exact absurd this (by decide +kernel)
      · right
        rw [h]
        decide +kernel
    · rintro (h | h)
      · left
        have : toF (powP x 28948022309329048855892746252171976963317496166410141009864396001978282409974) = toF 0 := by
          rw [← e2, hp, h, fpow_of_zero (by decide +kernel) (by decide +kernel)]
          rfl
        exact toF_inj hlt (by decide) this
      · right
        exact toF_inj hlt (by decide) (h.trans (by decide +kernel))
  cases hq : rootQB x with
  | true => exact (rootB_of hx (h0.1 hq)).symm
  | false =>
    cases hb : rootB x with
    | false => rfl
    | true => rw [h0.2 (of_rootB hx hb)] at hq; cases hq
theorem rootQ_eq {x : Nat} (hx : x < 57896044618658097711785492504343953926634992332820282019728792003956564819949) : rootQ x = rootP x := by
  rw [rootP_def]
  unfold rootQ
  rw [rootQB_eq hx]
  have hlt := root1_lt x
  generalize root1 x = y at *
  generalize rootB x = b
  cases b with
  | false => rw [cond_false, cond_false]
  | true =>
    rw [cond_true, cond_true]
    cases ho : Nat.beq (y % 2) 1 with
    | false => rw [cond_false, cond_false]
    | true =>
      rw [cond_true, cond_true, negN_eq hlt, subQ_eq (by decide) (by omega), Nat.zero_add]
theorem rootP_lt (x : Nat) : rootP x < 57896044618658097711785492504343953926634992332820282019728792003956564819949 := by
  rw [rootP_def]
  have hlt := root1_lt x
  generalize root1 x = y at *
  generalize rootB x = b
  cases b with
  | false => rw [cond_false]; decide
  | true =>
    rw [cond_true]
    cases Nat.beq (y % 2) 1 with
    | false => rw [cond_false]; exact hlt
    | true => rw [cond_true, negN_eq hlt]; exact Nat.mod_lt _ (by decide)
/-- what is found is a root, and even. -/
theorem rootP_ok {x : Nat} (hx : x < 57896044618658097711785492504343953926634992332820282019728792003956564819949) (h : rootB x = true) : rootP x * rootP x % 57896044618658097711785492504343953926634992332820282019728792003956564819949 = x ∧ rootP x % 2 = 0 := by
  have hF := (rootB_F hx).1 h
  have hlt := root1_lt x
  have e : rootP x = bif Nat.beq (root1 x % 2) 1 then negN (root1 x) else root1 x := by
    rw [rootP_def, h, cond_true]
  rw [e]
  generalize root1 x = y at *
  cases ho : Nat.beq (y % 2) 1 with
  | true =>
    have ho' := Nat.beq_eq.mp ho
    rw [cond_true]
    constructor
    · refine toF_inj (Nat.mod_lt _ (by decide)) hx ?_
      rw [toF_mul, toF_neg hlt, ← hF]
      grind
    · rw [negN_eq hlt, Nat.mod_eq_of_lt (show 57896044618658097711785492504343953926634992332820282019728792003956564819949 - y < 57896044618658097711785492504343953926634992332820282019728792003956564819949 by omega)]
      omega
  | false =>
    have ho' : y % 2 ≠ 1 := fun h => by rw [h] at ho; cases ho
    rw [cond_false]
    exact ⟨toF_inj (Nat.mod_lt _ (by decide)) hx (by rw [toF_mul, hF]), by omega⟩
/-- a square's root. -/
theorem root_sq {x : Nat} (hx : x < 57896044618658097711785492504343953926634992332820282019728792003956564819949) : rootB (x * x % 57896044618658097711785492504343953926634992332820282019728792003956564819949) = true ∧ (rootP (x * x % 57896044618658097711785492504343953926634992332820282019728792003956564819949) = x ∨ rootP (x * x % 57896044618658097711785492504343953926634992332820282019728792003956564819949) = negN x) := by
  have hz : x * x % 57896044618658097711785492504343953926634992332820282019728792003956564819949 < 57896044618658097711785492504343953926634992332820282019728792003956564819949 := Nat.mod_lt _ (by decide)
  have hb : rootB (x * x % 57896044618658097711785492504343953926634992332820282019728792003956564819949) = true := by
    refine rootB_of hz ?_
    rw [toF_mul]
    by_cases h0 : toF x = 0
    · left; rw [h0]; decide +kernel
    · right; exact sq_pow h0
  refine ⟨hb, ?_⟩
  have hr := congrArg toF (rootP_ok hz hb).1
  rw [toF_mul, toF_mul] at hr
  have hf : (toF (rootP (x * x % 57896044618658097711785492504343953926634992332820282019728792003956564819949)) - toF x) * (toF (rootP (x * x % 57896044618658097711785492504343953926634992332820282019728792003956564819949)) + toF x) = 0 := by grind
  have hlt := rootP_lt (x * x % 57896044618658097711785492504343953926634992332820282019728792003956564819949)
  rcases fp_nz _ _ hf with h | h
  · left
    exact toF_inj hlt hx (by grind)
  · right
    refine toF_inj hlt (by rw [negN_eq hx]; exact Nat.mod_lt _ (by decide)) ?_
    rw [toF_neg hx]
    grind
theorem inv_mul {x : Nat} (hx : x < 57896044618658097711785492504343953926634992332820282019728792003956564819949) : x * powP x 57896044618658097711785492504343953926634992332820282019728792003956564819947 % 57896044618658097711785492504343953926634992332820282019728792003956564819949 = bif Nat.beq x 0 then 0 else 1 := by
  by_cases h0 : x = 0
  · subst h0
    rw [Nat.zero_mul]
    rfl
  · rw [beq_f h0, cond_false]
    have hf : toF x ≠ 0 := fun h => h0 (toF_inj hx (by decide) (h.trans toF_zero.symm))
    refine toF_inj (Nat.mod_lt _ (by decide)) (by decide) ?_
    rw [toF_mul, toF_pow x (by decide)]
    exact (finv_ok _ hf).trans (by decide +kernel)
end Go.Proofs.Ytmjejlbmcefaoaa
