/- Numbers as rows of digits to the base 65536: sums, differences, products, order. -/
import Derived.Test.YtmjejlbmcefaoaaWnF
namespace Go.Proofs.Ytmjejlbmcefaoaa
open Go Sx

/-- the number of a row of limbs, the lowest one first. -/
def valL : List Int → Nat
  | [] => 0
  | a :: l => a.toNat + 65536 * valL l
def limOk (l : List Int) : Bool := l.all fun n => decide (0 ≤ n) && decide (n < 65536)
/-- so many limbs of a number. -/
def lim (k n : Nat) : List Int := (List.range k).map fun i => ((n / 65536 ^ i % 65536 : Nat) : Int)
theorem lim_length (k n : Nat) : (lim k n).length = k := by simp [lim]
theorem lim_succ (k n : Nat) : lim (k + 1) n = lim k n ++ [((n / 65536 ^ k % 65536 : Nat) : Int)] := by simp [lim, List.range_succ]
theorem limOk_get {l : List Int} (h : limOk l = true) (i : Nat) : 0 ≤ l.getD i 0 ∧ l.getD i 0 < 65536 := by
  rcases Nat.lt_or_ge i l.length with hi | hi
  · have := List.all_eq_true.1 h _ (List.getElem_mem hi)
    simp only [Bool.and_eq_true, decide_eq_true_eq] at this
    rw [List.getD_eq_getElem?_getD, List.getElem?_eq_getElem hi]
    exact this
  · rw [List.getD_eq_getElem?_getD, List.getElem?_eq_none hi]
    exact ⟨Int.le_refl _, by decide⟩
theorem limOk_lim (k n : Nat) : limOk (lim k n) = true := by
  unfold limOk
  rw [List.all_eq_true]
  intro a ha
  obtain ⟨i, _, rfl⟩ := List.mem_map.1 ha
  have h : n / 65536 ^ i % 65536 < 65536 := Nat.mod_lt _ (by omega)
  generalize n / 65536 ^ i % 65536 = x at *
  rw [Bool.and_eq_true, decide_eq_true_eq, decide_eq_true_eq]
  omega
theorem limOk_tail {a : Int} {l : List Int} (h : limOk (a :: l) = true) : (0 ≤ a ∧ a < 65536) ∧ limOk l = true := by
  unfold limOk at *
  simp only [List.all_cons, Bool.and_eq_true, decide_eq_true_eq] at h
  exact h
theorem valL_lt : ∀ {l : List Int}, limOk l = true → valL l < 65536 ^ l.length
  | [], _ => by simp [valL]
  | a :: l, h => by
    obtain ⟨h1, h2⟩ := limOk_tail h
    have ih := valL_lt h2
    simp only [valL, List.length_cons, Nat.pow_succ]
    omega
theorem valL_get : ∀ {l : List Int}, limOk l = true → ∀ i, l.getD i 0 = ((valL l / 65536 ^ i % 65536 : Nat) : Int)
  | [], _, i => by simp [valL]
  | a :: l, h, 0 => by
    obtain ⟨h1, h2⟩ := limOk_tail h
    simp only [List.getD_cons_zero, valL, Nat.pow_zero, Nat.div_one]
    omega
  | a :: l, h, i + 1 => by
    obtain ⟨h1, h2⟩ := limOk_tail h
    rw [List.getD_cons_succ, valL_get h2 i, valL, Nat.pow_succ', ← Nat.div_div_eq_div_mul]
    congr 3
    omega
theorem valL_append : ∀ (l : List Int) (a : Int), valL (l ++ [a]) = valL l + a.toNat * 65536 ^ l.length
  | [], a => by simp [valL]
  | b :: l, a => by
    simp only [List.cons_append, valL, valL_append l a, List.length_cons, Nat.pow_succ]
    grind
theorem valL_lim (k n : Nat) : valL (lim k n) = n % 65536 ^ k := by
  induction k with
  | zero => simp [lim, valL, Nat.mod_one]
  | succ k ih =>
    rw [lim_succ, valL_append, ih, lim_length, Int.toNat_natCast, Nat.pow_succ, Nat.mod_mul, Nat.mul_comm (65536 ^ k)]
theorem lim_ext {l : List Int} {k n : Nat} (hl : l.length = k) (h : ∀ i, i < k → l.getD i 0 = ((n / 65536 ^ i % 65536 : Nat) : Int)) : l = lim k n := by
  apply List.ext_getElem?
  intro i
  rcases Nat.lt_or_ge i k with hi | hi
  · have h1 := h i hi
    have l1 : i < l.length := by omega
    rw [List.getD_eq_getElem?_getD, List.getElem?_eq_getElem l1] at h1
    rw [List.getElem?_eq_getElem l1]
    simp only [Option.getD_some] at h1
    rw [h1]
    simp [lim, hi]
  · rw [List.getElem?_eq_none (by omega), List.getElem?_eq_none (by rw [lim_length]; omega)]
theorem lim_valL {l : List Int} (h : limOk l = true) : l = lim l.length (valL l) := lim_ext rfl fun i _ => valL_get h i
theorem lim_mod (k n : Nat) : lim k (n % 65536 ^ k) = lim k n := by
  refine (lim_ext (lim_length k n) fun i hi => ?_).symm
  have e : (65536 : Nat) ^ k = 65536 ^ i * (65536 * 65536 ^ (k - i - 1)) := by
    rw [← Nat.pow_succ', ← Nat.pow_add]
    congr 1
    omega
  rw [e, Nat.mod_mul_right_div_self, Nat.mod_mul_right_mod]
  simp [lim, hi]
theorem limbI_nat (l : List Int) (i : Nat) : (bif decide ((0 : Int) ≤ (i : Int)) && decide ((i : Int) < (l.length : Int)) then l.getD (Int.toNat (i : Int)) 0 else 0) = l.getD i 0 := by
  rw [decide_eq_true (by omega), Bool.true_and]
  by_cases h : i < l.length
  · rw [decide_eq_true (by omega)]; rfl
  · rw [decide_eq_false (by omega)]
    simp [List.getD, List.getElem?_eq_none (Nat.le_of_not_lt h)]

/-- a sum's digit, and what is carried. -/
theorem add_split (x y p : Nat) (hp : 0 < p) : (x + y) / p = x / p + y / p + (x % p + y % p) / p := by
  have h1 := Nat.div_add_mod x p
  have h2 := Nat.div_add_mod y p
  have : x + y = (x % p + y % p) + p * (x / p + y / p) := by rw [Nat.mul_add]; omega
  conv => lhs; rw [this]
  rw [Nat.add_mul_div_left _ _ hp]
  omega
theorem add_digit (x y p : Nat) (hp : 0 < p) : (x + y) / p % 65536 = (x / p % 65536 + y / p % 65536 + (x % p + y % p) / p) % 65536 := by
  rw [add_split x y p hp]; omega
theorem add_carry (x y p : Nat) (hp : 0 < p) : (x % (p * 65536) + y % (p * 65536)) / (p * 65536) = (x / p % 65536 + y / p % 65536 + (x % p + y % p) / p) / 65536 := by
  rw [Nat.mod_mul, Nat.mod_mul, ← Nat.div_div_eq_div_mul]
  congr 1
  have : x % p + p * (x / p % 65536) + (y % p + p * (y / p % 65536)) = (x % p + y % p) + p * (x / p % 65536 + y / p % 65536) := by rw [Nat.mul_add]; omega
  rw [this, Nat.add_mul_div_left _ _ hp]
  omega
theorem carry_le (x y p : Nat) (hp : 0 < p) : (x % p + y % p) / p ≤ 1 := by
  have h1 := Nat.mod_lt x hp
  have h2 := Nat.mod_lt y hp
  have : x % p + y % p < p * 2 := by omega
  have := Nat.div_lt_of_lt_mul this
  omega
/-- a difference's digit, and what is borrowed. -/
def bor (x y p : Nat) : Nat := if x % p < y % p then 1 else 0
theorem sub_digit (x y q p : Nat) (hp : 0 < p) (hq : y % (p * 65536 * q) ≤ x + p * 65536 * q) : (x + p * 65536 * q - y % (p * 65536 * q)) / p % 65536 = (65536 + x / p % 65536 - y / p % 65536 - bor x y p) % 65536 := by
  have e : y % (p * 65536 * q) / p % 65536 = y / p % 65536 := by
    rw [Nat.mul_assoc, Nat.mod_mul_right_div_self, Nat.mod_mul_right_mod]
  have e2 : y % (p * 65536 * q) % p = y % p := by rw [Nat.mul_assoc, Nat.mod_mul_right_mod]
  generalize hy : y % (p * 65536 * q) = z at *
  have hb : bor x y p = bor x z p := by unfold bor; rw [e2]
  rw [hb, ← e]
  generalize hD : x + p * 65536 * q - z = D
  have hsum : D + z = x + p * (65536 * q) := by rw [← Nat.mul_assoc]; omega
  have h1 := add_split D z p hp
  rw [hsum, Nat.add_mul_div_left _ _ hp] at h1
  have h2 : (D % p + z % p) % p = x % p := by rw [← Nat.add_mod, hsum, Nat.add_mul_mod_self_left]
  have h3 := Nat.mod_lt D hp
  have h4 := Nat.mod_lt z hp
  have h5 := Nat.mod_lt x hp
  have hc : (D % p + z % p) / p = bor x z p := by
    unfold bor
    split
    · rename_i hlt
      have : p ≤ D % p + z % p := by
        rcases Nat.lt_or_ge (D % p + z % p) p with h | h
        · rw [Nat.mod_eq_of_lt h] at h2; omega
        · exact h
      have h7 : D % p + z % p < p * 2 := by omega
      have := Nat.div_lt_of_lt_mul h7
      have := Nat.div_pos ‹p ≤ D % p + z % p› hp
      omega
    · rename_i hlt
      refine Nat.div_eq_of_lt ?_
      rcases Nat.lt_or_ge (D % p + z % p) p with h | h
      · exact h
      · rw [Nat.mod_eq_sub_mod h, Nat.mod_eq_of_lt (by omega)] at h2
        omega
  rw [hc] at h1
  have hbl : bor x z p ≤ 1 := by unfold bor; split <;> omega
  omega
theorem sub_borrow (x y p : Nat) (hp : 0 < p) : bor x y (p * 65536) = 1 - (65536 + x / p % 65536 - y / p % 65536 - bor x y p) / 65536 := by
  unfold bor
  rw [Nat.mod_mul, Nat.mod_mul]
  have h1 := Nat.mod_lt x hp
  have h2 := Nat.mod_lt y hp
  generalize hX : x / p % 65536 = X at *
  generalize hY : y / p % 65536 = Y at *
  have hX' : X < 65536 := by omega
  have hY' : Y < 65536 := by omega
  generalize x % p = a at *
  generalize y % p = b at *
  rcases Nat.lt_trichotomy X Y with h | h | h
  · have : a + p * X < b + p * Y := by
      have : p * (X + 1) ≤ p * Y := Nat.mul_le_mul_left _ h
      rw [Nat.mul_add] at this
      omega
    rw [if_pos this]
    split <;> omega
  · subst h
    by_cases hab : a < b
    · rw [if_pos (by omega), if_pos hab]; omega
    · rw [if_neg (by omega), if_neg hab]; omega
  · have : ¬ a + p * X < b + p * Y := by
      have : p * (Y + 1) ≤ p * X := Nat.mul_le_mul_left _ h
      rw [Nat.mul_add] at this
      omega
    rw [if_neg this]
    split <;> omega
/-- what stands first decides. -/
theorem lt_digit {x y p : Nat} (hp : 0 < p) (h : x / (p * 65536) = y / (p * 65536)) (hn : x / p % 65536 ≠ y / p % 65536) : (x < y) = (x / p % 65536 < y / p % 65536) := by
  rw [← Nat.div_div_eq_div_mul, ← Nat.div_div_eq_div_mul] at h
  have e : (x / p < y / p) = (x / p % 65536 < y / p % 65536) := by
    apply propext; omega
  rw [← e]
  apply propext
  constructor
  · intro hlt
    have := Nat.div_le_div_right (c := p) (Nat.le_of_lt hlt)
    rcases Nat.lt_or_ge (x / p) (y / p) with h' | h'
    · exact h'
    · have : x / p = y / p := by omega
      rw [this] at hn
      exact absurd rfl hn
  · intro hlt
    rcases Nat.lt_or_ge x y with h' | h'
    · exact h'
    · have := Nat.div_le_div_right (c := p) h'
      omega
theorem eq_digit {x y p : Nat} (h : x / (p * 65536) = y / (p * 65536)) (hn : x / p % 65536 = y / p % 65536) : x / p = y / p := by
  rw [← Nat.div_div_eq_div_mul, ← Nat.div_div_eq_div_mul] at h
  omega

/-- products, digit by digit. -/
def valI : List Int → Int
  | [] => 0
  | a :: l => a + 65536 * valI l
theorem valI_nat : ∀ {l : List Int}, limOk l = true → valI l = (valL l : Int)
  | [], _ => rfl
  | a :: l, h => by
    obtain ⟨h1, h2⟩ := limOk_tail h
    simp only [valI, valL, valI_nat h2]
    omega
theorem valI_set : ∀ (l : List Int) (j : Nat) (x : Int), j < l.length → valI (l.set j x) = valI l + (x - l.getD j 0) * 65536 ^ j
  | [], j, x, h => by simp at h
  | a :: l, 0, x, h => by simp [valI]; omega
  | a :: l, j + 1, x, h => by
    have ih := valI_set l j x (by simpa using h)
    simp only [List.set_cons_succ, valI, ih, List.getD_cons_succ, Int.pow_succ]
    grind
theorem valI_take_succ (l : List Int) (k : Nat) (h : k < l.length) : valI (l.take (k + 1)) = valI (l.take k) + l.getD k 0 * 65536 ^ k := by
  have key : ∀ (l : List Int) (a : Int), valI (l ++ [a]) = valI l + a * 65536 ^ l.length := by
    intro l
    induction l with
    | nil => intro a; simp [valI]
    | cons b l ih => intro a; simp only [List.cons_append, valI, ih a, List.length_cons, Int.pow_succ]; grind
  rw [List.take_add_one, List.getElem?_eq_getElem h]
  simp only [Option.toList_some]
  rw [key, List.length_take, Nat.min_eq_left (Nat.le_of_lt h), List.getD_eq_getElem?_getD, List.getElem?_eq_getElem h]
  rfl
structure LInv (l m : List Int) (i k : Nat) (row : List Int) (o : Int) : Prop where
  len : row.length = l.length + m.length
  rng : ∀ j, 0 ≤ row.getD j 0 ∧ row.getD j 0 < 65536
  zer : ∀ j, i + m.length ≤ j → row.getD j 0 = 0
  o0 : 0 ≤ o
  o1 : o < 65536
  val : valI row + o * 65536 ^ (i + k) = valI (l.take i) * valI m + l.getD i 0 * 65536 ^ i * valI (m.take k)
theorem LInv.turn {l m : List Int} {i k : Nat} {row : List Int} {o w' o' : Int} (h : LInv l m i k row o) (hi : i < l.length) (hk : k < m.length) (hw : 0 ≤ w' ∧ w' < 65536) (ho : 0 ≤ o' ∧ o' < 65536) (e : w' + 65536 * o' = row.getD (i + k) 0 + l.getD i 0 * m.getD k 0 + o) :
    LInv l m i (k + 1) (row.set (i + k) w') o' where
  len := by simp [h.len]
  rng := fun j => by
    rw [getD_set _ _ _ _ (by rw [h.len]; omega)]
    split
    · exact hw
    · exact h.rng j
  zer := fun j hj => by
    rw [getD_set _ _ _ _ (by rw [h.len]; omega), if_neg (by omega)]
    exact h.zer j hj
  o0 := ho.1
  o1 := ho.2
  val := by
    have hv := h.val
    rw [valI_set _ _ _ (by rw [h.len]; omega), valI_take_succ m k hk, ← Nat.add_assoc, Int.pow_succ]
    rw [Int.pow_add] at hv ⊢
    generalize (65536 : Int) ^ i = p at *
    generalize (65536 : Int) ^ k = q at *
    generalize valI row = v at *
    generalize row.getD (i + k) 0 = x at *
    generalize valI (l.take i) * valI m = A at *
    generalize l.getD i 0 = ai at *
    generalize m.getD k 0 = bk at *
    generalize valI (m.take k) = B at *
    grind
end Go.Proofs.Ytmjejlbmcefaoaa
