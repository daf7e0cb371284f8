/- A symbolic executor, checked once, and what it shows of the functions: part 2. -/
import Derived.Test.YtmjejlbmcefaoaaPkA
import Derived.KernelRfl
namespace Go.Proofs.Ytmjejlbmcefaoaa

/-- a power's rest, by halves. -/
def pw (n : Nat) : Nat → Nat → Nat → Nat
  | 0, _, _ => 1 % n
  | f + 1, a, e => if e = 0 then 1 % n else if e % 2 = 1 then a * pw n f (a * a % n) (e / 2) % n else pw n f (a * a % n) (e / 2)
theorem pw_eq (n : Nat) : ∀ (f a e : Nat), e < 2 ^ f → pw n f a e = a ^ e % n
  | 0, a, e, h => by
    have : e = 0 := by simpa using h
    subst this
    rfl
  | f + 1, a, e, h => by
    have h2 : e / 2 < 2 ^ f := by rw [Nat.pow_succ] at h; omega
    have hsq : (a * a % n) ^ (e / 2) % n = a ^ (2 * (e / 2)) % n := by
      rw [← Nat.pow_mod, ← Nat.pow_two, ← Nat.pow_mul]
    unfold pw
    by_cases h0 : e = 0
    · subst h0; simp
    · rw [if_neg h0, pw_eq n f _ _ h2, hsq]
      by_cases h1 : e % 2 = 1
      · rw [if_pos h1, Nat.mul_mod, Nat.mod_mod, ← Nat.mul_mod, ← Nat.pow_succ']
        have : (2 * (e / 2)).succ = e := by omega
        rw [this]
      · rw [if_neg h1]
        have : 2 * (e / 2) = e := by omega
        rw [this]

def Prime (p : Nat) : Prop := 2 ≤ p ∧ ∀ d, d ∣ p → d = 1 ∨ d = p

theorem Prime.euclid {p a b : Nat} (hp : Prime p) (h : p ∣ a * b) : p ∣ a ∨ p ∣ b := by
  rcases hp.2 (Nat.gcd p a) (Nat.gcd_dvd_left p a) with h1 | h1
  · exact .inr (Nat.Coprime.dvd_of_dvd_mul_left h1 h)
  · exact .inl (h1 ▸ Nat.gcd_dvd_right p a)

theorem exists_prime (n : Nat) (h : 2 ≤ n) : ∃ q, Prime q ∧ q ∣ n := by
  induction n using Nat.strongRecOn with
  | _ n ih =>
    by_cases hp : Prime n
    · exact ⟨n, hp, Nat.dvd_refl n⟩
    · have : ∃ d, d ∣ n ∧ d ≠ 1 ∧ d ≠ n := by
        apply Classical.byContradiction
        intro hc
        apply hp
        refine ⟨h, fun d hd => ?_⟩
        apply Classical.byContradiction
        intro hn
        exact hc ⟨d, hd, fun e => hn (.inl e), fun e => hn (.inr e)⟩
      obtain ⟨d, h1, h2, h3⟩ := this
      have hd0 : d ≠ 0 := by rintro rfl; rw [Nat.zero_dvd] at h1; omega
      have hle := Nat.le_of_dvd (by omega) h1
      obtain ⟨q, hq, hqd⟩ := ih d (by omega) (by omega)
      exact ⟨q, hq, Nat.dvd_trans hqd h1⟩

def prodL : List Nat → Nat
  | [] => 1
  | x :: r => x * prodL r
theorem dvd_prod {q : Nat} (hq : Prime q) : ∀ {l : List Nat}, (∀ x ∈ l, Prime x) → q ∣ prodL l → q ∈ l
  | [], _, h => by
    have : q = 1 := Nat.dvd_one.1 h
    have := hq.1
    omega
  | x :: r, hl, h => by
    rcases hq.euclid h with h | h
    · rcases (hl x (by simp)).2 q h with e | e
      · have := hq.1; omega
      · simp [e]
    · exact List.mem_cons_of_mem _ (dvd_prod hq (fun y hy => hl y (by simp [hy])) h)

/-- numbers below m that are unlike and below m are all of them. -/
theorem pigeon : ∀ (m : Nat) (f : Nat → Nat), (∀ i, i < m → f i < m) → (∀ i j, i < m → j < m → f i = f j → i = j) → ∀ y, y < m → ∃ i, i < m ∧ f i = y
  | 0, _, _, _, y, hy => by omega
  | m + 1, f, hb, hi, y, hy => by
    -- the last one is moved to where m is met
    have key : ∀ (g : Nat → Nat), (∀ i, i < m + 1 → g i < m + 1) → (∀ i j, i < m + 1 → j < m + 1 → g i = g j → i = j) → g m = m → ∀ y, y < m + 1 → ∃ i, i < m + 1 ∧ g i = y := by
      intro g gb gi gm y hy
      rcases Nat.lt_or_ge y m with h | h
      · obtain ⟨i, h1, h2⟩ := pigeon m g (fun i hi' => by
          have h1 := gb i (by omega)
          have h2 : g i ≠ m := fun e => by
            have := gi i m (by omega) (by omega) (by rw [e, gm])
            omega
          omega) (fun i j h1 h2 h3 => gi i j (by omega) (by omega) h3) y h
        exact ⟨i, by omega, h2⟩
      · exact ⟨m, by omega, by rw [gm]; omega⟩
    let s : Nat → Nat := fun v => if v = f m then m else if v = m then f m else v
    have hfm := hb m (by omega)
    have sb : ∀ v, v < m + 1 → s v < m + 1 := by intro v hv; simp only [s]; split <;> (try split) <;> omega
    have si : ∀ v u, s v = s u → v = u := by
      intro v u h
      simp only [s] at h
      split at h <;> split at h <;> (try split at h) <;> (try split at h) <;> omega
    obtain ⟨i, h1, h2⟩ := key (fun i => s (f i)) (fun i h => sb _ (hb i h)) (fun i j h1 h2 h3 => hi i j h1 h2 (si _ _ h3)) (by simp [s]) (s y) (sb y hy)
    exact ⟨i, h1, si _ _ h2⟩

/-- order: the least exponent that gives 1 divides any that does. -/
theorem pow_order {n a N : Nat} (hn : 2 ≤ n) (hN : 0 < N) (h1 : a ^ N % n = 1) (hq : ∀ q, Prime q → q ∣ N → a ^ (N / q) % n ≠ 1) : ∀ k, 0 < k → k < N → a ^ k % n ≠ 1 := by
  intro k hk0 hkN hk
  -- powers of exponents that give 1: the greatest common divisor
  have hmulti : ∀ e t, a ^ e % n = 1 → a ^ (e * t) % n = 1 := by
    intro e t h
    rw [Nat.pow_mul, Nat.pow_mod, h, Nat.one_pow, Nat.mod_eq_of_lt (by omega)]
  have hgcd : ∀ x y, a ^ x % n = 1 → a ^ y % n = 1 → a ^ (Nat.gcd x y) % n = 1 := by
    intro x
    induction x using Nat.strongRecOn with
    | _ x ih =>
      intro y hx hy
      by_cases h0 : x = 0
      · subst h0; simpa using hy
      · rw [Nat.gcd_rec]
        apply ih (y % x) (Nat.mod_lt _ (by omega)) x _ hx
        have e := Nat.div_add_mod y x
        rw [← e, Nat.pow_add, Nat.mul_mod, hmulti x _ hx, Nat.one_mul, Nat.mod_mod] at hy
        exact hy
  have hg := hgcd k N hk h1
  generalize hge : Nat.gcd k N = g at hg
  have g1 : g ∣ N := hge ▸ Nat.gcd_dvd_right k N
  have g2 : g ≤ k := Nat.le_of_dvd hk0 (hge ▸ Nat.gcd_dvd_left k N)
  obtain ⟨c, hc⟩ := g1
  have hc2 : 2 ≤ c := by
    rcases Nat.lt_or_ge c 2 with h | h
    · exfalso
      have : c = 0 ∨ c = 1 := by omega
      rcases this with rfl | rfl <;> simp at hc <;> omega
    · exact h
  obtain ⟨q, hqp, c', hc'⟩ := exists_prime c hc2
  have hq0 : 0 < q := by have := hqp.1; omega
  refine hq q hqp ⟨g * c', by rw [hc, hc', ← Nat.mul_assoc, Nat.mul_comm g q, Nat.mul_assoc]⟩ ?_
  have : N / q = g * c' := by
    rw [hc, hc', ← Nat.mul_assoc, Nat.mul_comm g q, Nat.mul_assoc, Nat.mul_div_cancel_left _ hq0]
  rw [this]
  exact hmulti g c' hg

theorem unit_dvd {n a b : Nat} (h : a * b % n = 1) {d : Nat} (hd : d ∣ n) (hda : d ∣ a) : d = 1 := by
  have h1 : d ∣ a * b := Nat.dvd_trans hda ⟨b, rfl⟩
  have h2 : d ∣ a * b % n := (Nat.dvd_mod_iff hd).2 h1
  rw [h] at h2
  exact Nat.dvd_one.1 h2

/-- a root: each number below n but 0 is a power of it. -/
theorem root_all {n a : Nat} (hn : 2 ≤ n) (h1 : a ^ (n - 1) % n = 1) (ho : ∀ k, 0 < k → k < n - 1 → a ^ k % n ≠ 1) : ∀ y, 0 < y → y < n → ∃ k, k < n - 1 ∧ a ^ k % n = y := by
  have hunit : ∀ k, k ≤ n - 1 → a ^ k * a ^ (n - 1 - k) % n = 1 := by
    intro k hk
    rw [← Nat.pow_add]
    have : k + (n - 1 - k) = n - 1 := by omega
    rw [this, h1]
  have hpos : ∀ k, k ≤ n - 1 → 0 < a ^ k % n := by
    intro k hk
    rcases Nat.eq_zero_or_pos (a ^ k % n) with h | h
    · exfalso
      have := hunit k hk
      rw [Nat.mul_mod, h] at this
      simp at this
    · exact h
  have hcanc : ∀ i j, i ≤ j → j < n - 1 → a ^ i % n = a ^ j % n → i = j := by
    intro i j hij hj he
    rcases Nat.lt_or_ge i j with h | h
    · exfalso
      apply ho (j - i) (by omega) (by omega)
      have e1 := hunit i (by omega)
      have e2 : a ^ (j - i) % n = (a ^ i * a ^ (n - 1 - i)) * a ^ (j - i) % n := by
        rw [Nat.mul_mod (a ^ i * a ^ (n - 1 - i)), e1, Nat.one_mul, Nat.mod_mod]
      have e3 : (a ^ i * a ^ (n - 1 - i)) * a ^ (j - i) = a ^ j * a ^ (n - 1 - i) := by
        rw [← Nat.pow_add, ← Nat.pow_add, ← Nat.pow_add]
        congr 1
        omega
      rw [e2, e3, Nat.mul_mod, ← he, ← Nat.mul_mod, e1]
    · omega
  intro y hy0 hy
  obtain ⟨k, hk, he⟩ := pigeon (n - 1) (fun k => a ^ k % n - 1) (fun i hi => by
      have := Nat.mod_lt (a ^ i) (show 0 < n by omega)
      have := hpos i (by omega)
      show a ^ i % n - 1 < n - 1
      omega) (fun i j hi hj h => by
      have e1 := hpos i (by omega)
      have e2 := hpos j (by omega)
      have h' : a ^ i % n - 1 = a ^ j % n - 1 := h
      have h'' : a ^ i % n = a ^ j % n := by omega
      rcases Nat.le_total i j with hij | hij
      · exact hcanc i j hij hj h''
      · exact (hcanc j i hij hi h''.symm).symm) (y - 1) (by omega)
  refine ⟨k, hk, ?_⟩
  have := hpos k (by omega)
  have he' : a ^ k % n - 1 = y - 1 := he
  omega

theorem root_prime {n a : Nat} (hn : 2 ≤ n) (h1 : a ^ (n - 1) % n = 1) (ho : ∀ k, 0 < k → k < n - 1 → a ^ k % n ≠ 1) : Prime n := by
  refine ⟨hn, fun d hd => ?_⟩
  have hd0 : 0 < d := Nat.pos_of_ne_zero (by rintro rfl; rw [Nat.zero_dvd] at hd; omega)
  have hle := Nat.le_of_dvd (by omega) hd
  rcases Nat.lt_or_ge d n with h | h
  · left
    obtain ⟨k, hk, he⟩ := root_all hn h1 ho d hd0 h
    have : a ^ k * a ^ (n - 1 - k) % n = 1 := by
      rw [← Nat.pow_add]
      have : k + (n - 1 - k) = n - 1 := by omega
      rw [this, h1]
    rw [Nat.mul_mod, he] at this
    have := unit_dvd (a := d) (b := a ^ (n - 1 - k) % n) this hd (Nat.dvd_refl d)
    exact this
  · right; omega

/-- Pratt's certificate: a root, the primes of n - 1. -/
def pratt (n a : Nat) (l : List Nat) : Bool :=
  decide (2 ≤ n) && (decide (prodL l = n - 1) && (decide (pw n 256 a (n - 1) = 1) && l.all fun q => decide (1 < q) && !(decide (pw n 256 a ((n - 1) / q) = 1))))

theorem pratt_order {n a : Nat} {l : List Nat} (hb : n < 2 ^ 256) (h : pratt n a l = true) (hl : ∀ x ∈ l, Prime x) : 2 ≤ n ∧ a ^ (n - 1) % n = 1 ∧ ∀ k, 0 < k → k < n - 1 → a ^ k % n ≠ 1 := by
  unfold pratt at h
  simp only [Bool.and_eq_true, decide_eq_true_eq, List.all_eq_true, Bool.not_eq_true', decide_eq_false_iff_not] at h
  obtain ⟨h1, h2, h3, h4⟩ := h
  have hb' : n - 1 < 2 ^ 256 := by omega
  rw [pw_eq n 256 a (n - 1) hb'] at h3
  refine ⟨h1, h3, ?_⟩
  apply pow_order h1 (by omega) h3
  intro q hq hqd
  have := dvd_prod hq hl (h2 ▸ hqd)
  have hne := (h4 q this).2
  rwa [pw_eq n 256 a _ (Nat.lt_of_le_of_lt (Nat.div_le_self _ _) hb')] at hne

theorem pratt_prime {n a : Nat} {l : List Nat} (hb : n < 2 ^ 256) (h : pratt n a l = true) (hl : ∀ x ∈ l, Prime x) : Prime n := by
  obtain ⟨h1, h2, h3⟩ := pratt_order hb h hl
  exact root_prime h1 h2 h3

/-- small ones by trial. -/
def trial (n : Nat) : Bool := decide (2 ≤ n) && (List.range n).all fun d => Nat.ble d 1 || !(Nat.beq (n % d) 0)
theorem trial_prime {n : Nat} (h : trial n = true) : Prime n := by
  unfold trial at h
  simp only [Bool.and_eq_true, decide_eq_true_eq, List.all_eq_true, List.mem_range, Bool.or_eq_true, Nat.ble_eq, Bool.not_eq_true'] at h
  obtain ⟨h1, h2⟩ := h
  refine ⟨h1, fun d hd => ?_⟩
  have hd0 : 0 < d := Nat.pos_of_ne_zero (by rintro rfl; rw [Nat.zero_dvd] at hd; omega)
  have hle := Nat.le_of_dvd (by omega) hd
  rcases Nat.lt_or_ge d n with h | h
  · left
    rcases h2 d h with h3 | h3
    · omega
    · exfalso
      have : n % d = 0 := Nat.mod_eq_zero_of_dvd hd
      rw [this] at h3
      cases h3
  · right; omega

theorem pnil : ∀ x ∈ ([] : List Nat), Prime x := by simp
theorem pcons {q : Nat} {l : List Nat} (h : Prime q) (hl : ∀ x ∈ l, Prime x) : ∀ x ∈ q :: l, Prime x := by
  intro x hx
  rcases List.mem_cons.1 hx with rfl | hx
  · exact h
  · exact hl x hx
theorem prime2 : Prime 2 := trial_prime (by kernel_rfl)
theorem prime3 : Prime 3 := trial_prime (by kernel_rfl)
theorem prime5 : Prime 5 := trial_prime (by kernel_rfl)
theorem prime7 : Prime 7 := trial_prime (by kernel_rfl)
theorem prime11 : Prime 11 := trial_prime (by kernel_rfl)
theorem prime13 : Prime 13 := trial_prime (by kernel_rfl)
theorem prime17 : Prime 17 := trial_prime (by kernel_rfl)
theorem prime19 : Prime 19 := trial_prime (by kernel_rfl)
theorem prime23 : Prime 23 := trial_prime (by kernel_rfl)
theorem prime29 : Prime 29 := trial_prime (by kernel_rfl)
theorem prime31 : Prime 31 := trial_prime (by kernel_rfl)
theorem prime41 : Prime 41 := trial_prime (by kernel_rfl)
theorem prime43 : Prime 43 := trial_prime (by kernel_rfl)
theorem prime47 : Prime 47 := trial_prime (by kernel_rfl)
theorem prime59 : Prime 59 := trial_prime (by kernel_rfl)
theorem prime67 : Prime 67 := trial_prime (by kernel_rfl)
theorem prime73 : Prime 73 := trial_prime (by kernel_rfl)
theorem prime79 : Prime 79 := trial_prime (by kernel_rfl)
theorem prime83 : Prime 83 := trial_prime (by kernel_rfl)
theorem prime97 : Prime 97 := trial_prime (by kernel_rfl)
theorem prime103 : Prime 103 := trial_prime (by kernel_rfl)
theorem prime107 : Prime 107 := trial_prime (by kernel_rfl)
theorem prime113 : Prime 113 := trial_prime (by kernel_rfl)
theorem prime127 : Prime 127 := trial_prime (by kernel_rfl)
theorem prime131 : Prime 131 := trial_prime (by kernel_rfl)
theorem prime173 : Prime 173 := trial_prime (by kernel_rfl)
theorem prime223 : Prime 223 := trial_prime (by kernel_rfl)
theorem prime269 : Prime 269 := trial_prime (by kernel_rfl)
theorem prime307 : Prime 307 := trial_prime (by kernel_rfl)
theorem prime353 : Prime 353 := trial_prime (by kernel_rfl)
theorem prime419 : Prime 419 := trial_prime (by kernel_rfl)
theorem prime479 : Prime 479 := trial_prime (by kernel_rfl)
theorem prime487 : Prime 487 := trial_prime (by kernel_rfl)
theorem prime991 : Prime 991 := trial_prime (by kernel_rfl)
theorem prime1361 : Prime 1361 := pratt_prime (a := 3) (l := [2, 2, 2, 2, 5, 17]) (by decide +kernel) (by kernel_rfl) (pcons prime2 (pcons prime2 (pcons prime2 (pcons prime2 (pcons prime5 (pcons prime17 pnil))))))
theorem prime1723 : Prime 1723 := pratt_prime (a := 3) (l := [2, 3, 7, 41]) (by decide +kernel) (by kernel_rfl) (pcons prime2 (pcons prime3 (pcons prime7 (pcons prime41 pnil))))
theorem prime2437 : Prime 2437 := pratt_prime (a := 2) (l := [2, 2, 3, 7, 29]) (by decide +kernel) (by kernel_rfl) (pcons prime2 (pcons prime2 (pcons prime3 (pcons prime7 (pcons prime29 pnil)))))
theorem prime2551 : Prime 2551 := pratt_prime (a := 6) (l := [2, 3, 5, 5, 17]) (by decide +kernel) (by kernel_rfl) (pcons prime2 (pcons prime3 (pcons prime5 (pcons prime5 (pcons prime17 pnil)))))
theorem prime2851 : Prime 2851 := pratt_prime (a := 2) (l := [2, 3, 5, 5, 19]) (by decide +kernel) (by kernel_rfl) (pcons prime2 (pcons prime3 (pcons prime5 (pcons prime5 (pcons prime19 pnil)))))
theorem prime2939 : Prime 2939 := pratt_prime (a := 2) (l := [2, 13, 113]) (by decide +kernel) (by kernel_rfl) (pcons prime2 (pcons prime13 (pcons prime113 pnil)))
theorem prime3727 : Prime 3727 := pratt_prime (a := 3) (l := [2, 3, 3, 3, 3, 23]) (by decide +kernel) (by kernel_rfl) (pcons prime2 (pcons prime3 (pcons prime3 (pcons prime3 (pcons prime3 (pcons prime23 pnil))))))
theorem prime3797 : Prime 3797 := pratt_prime (a := 2) (l := [2, 2, 13, 73]) (by decide +kernel) (by kernel_rfl) (pcons prime2 (pcons prime2 (pcons prime13 (pcons prime73 pnil))))
theorem prime4153 : Prime 4153 := pratt_prime (a := 5) (l := [2, 2, 2, 3, 173]) (by decide +kernel) (by kernel_rfl) (pcons prime2 (pcons prime2 (pcons prime2 (pcons prime3 (pcons prime173 pnil)))))
theorem prime5879 : Prime 5879 := pratt_prime (a := 11) (l := [2, 2939]) (by decide +kernel) (by kernel_rfl) (pcons prime2 (pcons prime2939 pnil))
theorem prime9463 : Prime 9463 := pratt_prime (a := 3) (l := [2, 3, 19, 83]) (by decide +kernel) (by kernel_rfl) (pcons prime2 (pcons prime3 (pcons prime19 (pcons prime83 pnil))))
theorem prime17231 : Prime 17231 := pratt_prime (a := 13) (l := [2, 5, 1723]) (by decide +kernel) (by kernel_rfl) (pcons prime2 (pcons prime5 (pcons prime1723 pnil)))
theorem prime22111 : Prime 22111 := pratt_prime (a := 6) (l := [2, 3, 5, 11, 67]) (by decide +kernel) (by kernel_rfl) (pcons prime2 (pcons prime3 (pcons prime5 (pcons prime11 (pcons prime67 pnil)))))
theorem prime30703 : Prime 30703 := pratt_prime (a := 3) (l := [2, 3, 7, 17, 43]) (by decide +kernel) (by kernel_rfl) (pcons prime2 (pcons prime3 (pcons prime7 (pcons prime17 (pcons prime43 pnil)))))
theorem prime32573 : Prime 32573 := pratt_prime (a := 2) (l := [2, 2, 17, 479]) (by decide +kernel) (by kernel_rfl) (pcons prime2 (pcons prime2 (pcons prime17 (pcons prime479 pnil))))
theorem prime34123 : Prime 34123 := pratt_prime (a := 2) (l := [2, 3, 11, 11, 47]) (by decide +kernel) (by kernel_rfl) (pcons prime2 (pcons prime3 (pcons prime11 (pcons prime11 (pcons prime47 pnil)))))
theorem prime37853 : Prime 37853 := pratt_prime (a := 2) (l := [2, 2, 9463]) (by decide +kernel) (by kernel_rfl) (pcons prime2 (pcons prime2 (pcons prime9463 pnil)))
theorem prime41081 : Prime 41081 := pratt_prime (a := 3) (l := [2, 2, 2, 5, 13, 79]) (by decide +kernel) (by kernel_rfl) (pcons prime2 (pcons prime2 (pcons prime2 (pcons prime5 (pcons prime13 (pcons prime79 pnil))))))
theorem prime57467 : Prime 57467 := pratt_prime (a := 2) (l := [2, 59, 487]) (by decide +kernel) (by kernel_rfl) (pcons prime2 (pcons prime59 (pcons prime487 pnil)))
theorem prime65147 : Prime 65147 := pratt_prime (a := 2) (l := [2, 32573]) (by decide +kernel) (by kernel_rfl) (pcons prime2 (pcons prime32573 pnil))
theorem prime75707 : Prime 75707 := pratt_prime (a := 2) (l := [2, 37853]) (by decide +kernel) (by kernel_rfl) (pcons prime2 (pcons prime37853 pnil))
theorem prime82163 : Prime 82163 := pratt_prime (a := 2) (l := [2, 41081]) (by decide +kernel) (by kernel_rfl) (pcons prime2 (pcons prime41081 pnil))
theorem prime132049 : Prime 132049 := pratt_prime (a := 26) (l := [2, 2, 2, 2, 3, 3, 7, 131]) (by decide +kernel) (by kernel_rfl) (pcons prime2 (pcons prime2 (pcons prime2 (pcons prime2 (pcons prime3 (pcons prime3 (pcons prime7 (pcons prime131 pnil))))))))
theorem prime132667 : Prime 132667 := pratt_prime (a := 5) (l := [2, 3, 22111]) (by decide +kernel) (by kernel_rfl) (pcons prime2 (pcons prime3 (pcons prime22111 pnil)))
theorem prime137849 : Prime 137849 := pratt_prime (a := 3) (l := [2, 2, 2, 17231]) (by decide +kernel) (by kernel_rfl) (pcons prime2 (pcons prime2 (pcons prime2 (pcons prime17231 pnil))))
theorem prime409477 : Prime 409477 := pratt_prime (a := 2) (l := [2, 2, 3, 34123]) (by decide +kernel) (by kernel_rfl) (pcons prime2 (pcons prime2 (pcons prime3 (pcons prime34123 pnil))))
theorem prime430751 : Prime 430751 := pratt_prime (a := 17) (l := [2, 5, 5, 5, 1723]) (by decide +kernel) (by kernel_rfl) (pcons prime2 (pcons prime5 (pcons prime5 (pcons prime5 (pcons prime1723 pnil)))))
theorem prime531581 : Prime 531581 := pratt_prime (a := 2) (l := [2, 2, 5, 7, 3797]) (by decide +kernel) (by kernel_rfl) (pcons prime2 (pcons prime2 (pcons prime5 (pcons prime7 (pcons prime3797 pnil)))))
theorem prime569003 : Prime 569003 := pratt_prime (a := 2) (l := [2, 7, 97, 419]) (by decide +kernel) (by kernel_rfl) (pcons prime2 (pcons prime7 (pcons prime97 (pcons prime419 pnil))))
theorem prime1224481 : Prime 1224481 := pratt_prime (a := 13) (l := [2, 2, 2, 2, 2, 3, 5, 2551]) (by decide +kernel) (by kernel_rfl) (pcons prime2 (pcons prime2 (pcons prime2 (pcons prime2 (pcons prime2 (pcons prime3 (pcons prime5 (pcons prime2551 pnil))))))))
theorem prime1923133 : Prime 1923133 := pratt_prime (a := 2) (l := [2, 2, 3, 43, 3727]) (by decide +kernel) (by kernel_rfl) (pcons prime2 (pcons prime2 (pcons prime3 (pcons prime43 (pcons prime3727 pnil)))))
theorem prime8574133 : Prime 8574133 := pratt_prime (a := 2) (l := [2, 2, 3, 7, 103, 991]) (by decide +kernel) (by kernel_rfl) (pcons prime2 (pcons prime2 (pcons prime3 (pcons prime7 (pcons prime103 (pcons prime991 pnil))))))
theorem prime14741173 : Prime 14741173 := pratt_prime (a := 2) (l := [2, 2, 3, 3, 409477]) (by decide +kernel) (by kernel_rfl) (pcons prime2 (pcons prime2 (pcons prime3 (pcons prime3 (pcons prime409477 pnil)))))
theorem prime58964693 : Prime 58964693 := pratt_prime (a := 2) (l := [2, 2, 14741173]) (by decide +kernel) (by kernel_rfl) (pcons prime2 (pcons prime2 (pcons prime14741173 pnil)))
theorem prime292386187 : Prime 292386187 := pratt_prime (a := 2) (l := [2, 3, 3, 3, 3, 307, 5879]) (by decide +kernel) (by kernel_rfl) (pcons prime2 (pcons prime3 (pcons prime3 (pcons prime3 (pcons prime3 (pcons prime307 (pcons prime5879 pnil)))))))
theorem prime2773320623 : Prime 2773320623 := pratt_prime (a := 5) (l := [2, 2437, 569003]) (by decide +kernel) (by kernel_rfl) (pcons prime2 (pcons prime2437 (pcons prime569003 pnil)))
theorem prime72106336199 : Prime 72106336199 := pratt_prime (a := 7) (l := [2, 13, 2773320623]) (by decide +kernel) (by kernel_rfl) (pcons prime2 (pcons prime13 (pcons prime2773320623 pnil)))
theorem prime213441916511 : Prime 213441916511 := pratt_prime (a := 13) (l := [2, 5, 73, 292386187]) (by decide +kernel) (by kernel_rfl) (pcons prime2 (pcons prime5 (pcons prime73 (pcons prime292386187 pnil))))
theorem prime1257559732178653 : Prime 1257559732178653 := pratt_prime (a := 2) (l := [2, 2, 3, 7, 23, 531581, 1224481]) (by decide +kernel) (by kernel_rfl) (pcons prime2 (pcons prime2 (pcons prime3 (pcons prime7 (pcons prime23 (pcons prime531581 (pcons prime1224481 pnil)))))))
theorem prime1919519569386763 : Prime 1919519569386763 := pratt_prime (a := 2) (l := [2, 3, 7, 19, 47, 47, 127, 8574133]) (by decide +kernel) (by kernel_rfl) (pcons prime2 (pcons prime3 (pcons prime7 (pcons prime19 (pcons prime47 (pcons prime47 (pcons prime127 (pcons prime8574133 pnil))))))))
theorem prime31757755568855353 : Prime 31757755568855353 := pratt_prime (a := 10) (l := [2, 2, 2, 3, 31, 107, 223, 4153, 430751]) (by decide +kernel) (by kernel_rfl) (pcons prime2 (pcons prime2 (pcons prime2 (pcons prime3 (pcons prime31 (pcons prime107 (pcons prime223 (pcons prime4153 (pcons prime430751 pnil)))))))))
theorem prime4434155615661930479 : Prime 4434155615661930479 := pratt_prime (a := 17) (l := [2, 41, 43, 1257559732178653]) (by decide +kernel) (by kernel_rfl) (pcons prime2 (pcons prime41 (pcons prime43 (pcons prime1257559732178653 pnil))))
theorem prime3044861653679985063343 : Prime 3044861653679985063343 := pratt_prime (a := 5) (l := [2, 3, 11, 30703, 82163, 132667, 137849]) (by decide +kernel) (by kernel_rfl) (pcons prime2 (pcons prime3 (pcons prime11 (pcons prime30703 (pcons prime82163 (pcons prime132667 (pcons prime137849 pnil)))))))
theorem prime172054593956031949258510691 : Prime 172054593956031949258510691 := pratt_prime (a := 2) (l := [2, 5, 1361, 2851, 4434155615661930479]) (by decide +kernel) (by kernel_rfl) (pcons prime2 (pcons prime5 (pcons prime1361 (pcons prime2851 (pcons prime4434155615661930479 pnil)))))
theorem prime198211423230930754013084525763697 : Prime 198211423230930754013084525763697 := pratt_prime (a := 5) (l := [2, 2, 2, 2, 3, 23, 58964693, 3044861653679985063343]) (by decide +kernel) (by kernel_rfl) (pcons prime2 (pcons prime2 (pcons prime2 (pcons prime2 (pcons prime3 (pcons prime23 (pcons prime58964693 (pcons prime3044861653679985063343 pnil))))))))
theorem prime75445702479781427272750846543864801 : Prime 75445702479781427272750846543864801 := pratt_prime (a := 7) (l := [2, 2, 2, 2, 2, 3, 3, 5, 5, 75707, 72106336199, 1919519569386763]) (by decide +kernel) (by kernel_rfl) (pcons prime2 (pcons prime2 (pcons prime2 (pcons prime2 (pcons prime2 (pcons prime3 (pcons prime3 (pcons prime5 (pcons prime5 (pcons prime75707 (pcons prime72106336199 (pcons prime1919519569386763 pnil))))))))))))
theorem prime19757330305831588566944191468367130476339 : Prime 19757330305831588566944191468367130476339 := pratt_prime (a := 2) (l := [2, 269, 213441916511, 172054593956031949258510691]) (by decide +kernel) (by kernel_rfl) (pcons prime2 (pcons prime269 (pcons prime213441916511 (pcons prime172054593956031949258510691 pnil))))
theorem prime276602624281642239937218680557139826668747 : Prime 276602624281642239937218680557139826668747 := pratt_prime (a := 2) (l := [2, 7, 19757330305831588566944191468367130476339]) (by decide +kernel) (by kernel_rfl) (pcons prime2 (pcons prime7 (pcons prime19757330305831588566944191468367130476339 pnil)))
theorem prime74058212732561358302231226437062788676166966415465897661863160754340907 : Prime 74058212732561358302231226437062788676166966415465897661863160754340907 := pratt_prime (a := 2) (l := [2, 3, 353, 57467, 132049, 1923133, 31757755568855353, 75445702479781427272750846543864801]) (by decide +kernel) (by kernel_rfl) (pcons prime2 (pcons prime3 (pcons prime353 (pcons prime57467 (pcons prime132049 (pcons prime1923133 (pcons prime31757755568855353 (pcons prime75445702479781427272750846543864801 pnil))))))))
theorem prime7237005577332262213973186563042994240857116359379907606001950938285454250989 : Prime 7237005577332262213973186563042994240857116359379907606001950938285454250989 := pratt_prime (a := 2) (l := [2, 2, 3, 11, 198211423230930754013084525763697, 276602624281642239937218680557139826668747]) (by decide +kernel) (by kernel_rfl) (pcons prime2 (pcons prime2 (pcons prime3 (pcons prime11 (pcons prime198211423230930754013084525763697 (pcons prime276602624281642239937218680557139826668747 pnil))))))
theorem prime57896044618658097711785492504343953926634992332820282019728792003956564819949 : Prime 57896044618658097711785492504343953926634992332820282019728792003956564819949 := pratt_prime (a := 2) (l := [2, 2, 3, 65147, 74058212732561358302231226437062788676166966415465897661863160754340907]) (by decide +kernel) (by kernel_rfl) (pcons prime2 (pcons prime2 (pcons prime3 (pcons prime65147 (pcons prime74058212732561358302231226437062788676166966415465897661863160754340907 pnil)))))

end Go.Proofs.Ytmjejlbmcefaoaa
namespace Go.Proofs.Ytmjejlbmcefaoaa

def pN : Nat := 57896044618658097711785492504343953926634992332820282019728792003956564819949
theorem pN_pos : 0 < pN := by decide +kernel
instance : NeZero pN := ⟨Nat.pos_iff_ne_zero.1 pN_pos⟩
theorem pN_prime : Prime pN := prime57896044618658097711785492504343953926634992332820282019728792003956564819949
theorem pN_root : 2 ≤ pN ∧ 2 ^ (pN - 1) % pN = 1 ∧ ∀ k, 0 < k → k < pN - 1 → 2 ^ k % pN ≠ 1 :=
  pratt_order (l := [2, 2, 3, 65147, 74058212732561358302231226437062788676166966415465897661863160754340907]) (by decide +kernel) (by kernel_rfl) (pcons prime2 (pcons prime2 (pcons prime3 (pcons prime65147 (pcons prime74058212732561358302231226437062788676166966415465897661863160754340907 pnil)))))
theorem pN_all : ∀ y, 0 < y → y < pN → ∃ k, k < pN - 1 ∧ 2 ^ k % pN = y := root_all pN_root.1 pN_root.2.1 pN_root.2.2
theorem fermat {y : Nat} (h0 : 0 < y) (h : y < pN) : y ^ (pN - 1) % pN = 1 := by
  obtain ⟨k, _, hk⟩ := pN_all y h0 h
  rw [← hk, ← Nat.pow_mod, ← Nat.pow_mul, Nat.mul_comm, Nat.pow_mul, Nat.pow_mod, pN_root.2.1, Nat.one_pow]
  exact Nat.mod_eq_of_lt (by decide +kernel)

abbrev Fp := Fin pN
def fpow (a : Fp) (k : Nat) : Fp := ⟨pw pN 256 a.val k, by
  have key : ∀ f a e, pw pN f a e < pN := by
    intro f
    induction f with
    | zero => intro a e; exact Nat.mod_lt _ pN_pos
    | succ f ih =>
      intro a e
      unfold pw
      split
      · exact Nat.mod_lt _ pN_pos
      · split
        · exact Nat.mod_lt _ pN_pos
        · exact ih _ _
  exact key 256 a.val k⟩
theorem fpow_val (a : Fp) {k : Nat} (h : k < 2 ^ 256) : (fpow a k).val = a.val ^ k % pN := pw_eq pN 256 a.val k h
theorem fpow_add (a : Fp) {j k : Nat} (h : j + k < 2 ^ 256) : fpow a (j + k) = fpow a j * fpow a k := Fin.ext (by
  rw [fpow_val a h, Fin.val_mul, fpow_val a (by omega), fpow_val a (by omega), ← Nat.mul_mod, Nat.pow_add])
theorem fpow_one (a : Fp) : fpow a 1 = a := Fin.ext (by rw [fpow_val a (by decide), Nat.pow_one]; exact Nat.mod_eq_of_lt a.isLt)
theorem fpow_succ (a : Fp) {k : Nat} (h : k + 1 < 2 ^ 256) : fpow a (k + 1) = fpow a k * a := by rw [fpow_add a h, fpow_one]
theorem fpow_prod (a b : Fp) {k : Nat} (h : k < 2 ^ 256) : fpow (a * b) k = fpow a k * fpow b k := Fin.ext (by
  rw [fpow_val _ h, Fin.val_mul, Fin.val_mul, fpow_val a h, fpow_val b h, ← Nat.pow_mod, ← Nat.mul_mod, Nat.mul_pow])
theorem fermatF {a : Fp} (h : a ≠ 0) : fpow a (pN - 1) = 1 := Fin.ext (by
  rw [fpow_val a (by decide +kernel), fermat (Nat.pos_of_ne_zero fun e => h (Fin.ext e)) a.isLt]
  rfl)

def finv (a : Fp) : Fp := fpow a (pN - 2)
theorem finv_ok (a : Fp) (h : a ≠ 0) : a * finv a = 1 := by
  unfold finv
  have := fpow_succ a (k := pN - 2) (by decide +kernel)
  rw [Fin.mul_comm, ← this]
  exact fermatF h
theorem fp_nz (a b : Fp) (h : a * b = 0) : a = 0 ∨ b = 0 := by
  have h1 : (a.val * b.val) % pN = 0 := by rw [← Fin.val_mul, h]; rfl
  rcases pN_prime.euclid (Nat.dvd_of_mod_eq_zero h1) with h2 | h2
  · left
    exact Fin.ext (Nat.eq_zero_of_dvd_of_lt h2 a.isLt)
  · right
    exact Fin.ext (Nat.eq_zero_of_dvd_of_lt h2 b.isLt)
theorem fp_fld : Fld pN finv := ⟨fp_nz, finv_ok, by decide +kernel⟩

/-- the root of -1. -/
def iF : Fp := ⟨19681161376707505956807079304988542015446066515923890162744021073123829784752, by decide +kernel⟩
theorem iF_sq : iF * iF = -1 := by decide +kernel
def dF : Fp := ⟨37095705934669439343138083508754565189542113879843219016388785533085940283555, by decide +kernel⟩
theorem sq_pow {s : Fp} (h : s ≠ 0) : fpow (s * s) ((pN - 1) / 2) = 1 := by
  rw [fpow_prod s s (by decide +kernel), ← fpow_add s (by decide +kernel)]
  have : (pN - 1) / 2 + (pN - 1) / 2 = pN - 1 := by decide +kernel
  rw [this, fermatF h]
theorem dF_half : fpow dF ((pN - 1) / 2) = -1 := by decide +kernel
theorem one_ne : (1 : Fp) ≠ -1 := by decide +kernel
theorem dF_non (s : Fp) : s * s ≠ dF := by
  intro h
  have hs : s ≠ 0 := by
    rintro rfl
    exact absurd h (by decide +kernel)
  have := sq_pow hs
  rw [h, dF_half] at this
  exact one_ne this.symm
theorem crv : Crv pN finv dF iF := { fp_fld with hi := iF_sq, hd := dF_non }

end Go.Proofs.Ytmjejlbmcefaoaa
