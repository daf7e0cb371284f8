/- The law MixJoins: for any three words the law answers true: what is chosen, what most have, and sums are the document's. -/
import Derived.Test.YtmjejlbmcefaoaaMixE
import Derived.Test.YtmjejlbmcefaoaaHead
namespace Go.Proofs.Ytmjejlbmcefaoaa
open Go Sx Go.ChangeShapes Go.WideShapes Go.ChangeAt Go.RowKit

theorem bit_step {N j acc : Nat} {b : Int} (hj : j < 64) (hacc : acc = N % 2 ^ j) (hb : b = ((N.testBit j).toNat : Int)) : u64 ((acc : Int) + shl .u64 b (j : Int)) = ((N % 2 ^ (j + 1) : Nat) : Int) := by
  have hbit : (N.testBit j).toNat ≤ 1 := by cases N.testBit j <;> simp
  have hp : 2 ^ (j + 1) ≤ 2 ^ 64 := Nat.pow_le_pow_right (by omega) (by omega)
  have hmul : 2 ^ j * (N.testBit j).toNat ≤ 2 ^ j := by
    refine Nat.le_trans (Nat.mul_le_mul_left _ hbit) ?_
    rw [Nat.mul_one]
    exact Nat.le_refl _
  have hlt : 2 ^ j * (N.testBit j).toNat < 2 ^ 64 := by
    have := Nat.two_pow_pos j
    rw [Nat.pow_succ] at hp
    omega
  rw [hb, shl_nat un64, bits64, Nat.shiftLeft_eq, Nat.mul_comm _ (2 ^ j), Nat.mod_eq_of_lt hlt]
  have : ((acc : Nat) : Int) + ((2 ^ j * (N.testBit j).toNat : Nat) : Int) = ((N % 2 ^ (j + 1) : Nat) : Int) := by
    rw [hacc, Nat.mod_pow_succ, Nat.toNat_testBit]; simp
  rw [this, u64_nat, Nat.mod_eq_of_lt]
  exact Nat.lt_of_lt_of_le (Nat.mod_lt _ (Nat.two_pow_pos _)) hp

theorem bitM_nat {X : Nat} (hX : X < 2 ^ 64) (j : Nat) : bitM (X : Int) (j : Int) = ((X.testBit j).toNat : Int) := by
  unfold bitM
  rw [shr_nat _ (by rw [bits64]; exact hX), Int.tmod_eq_emod_of_nonneg (Int.natCast_nonneg _), Nat.toNat_testBit, Nat.shiftRight_eq_div_pow]
  simp

def chooseC (b X Y Z : Nat) : Nat := (X &&& Y) ^^^ ((2 ^ b - 1 ^^^ X) &&& Z)
def mostC (X Y Z : Nat) : Nat := ((X &&& Y) ^^^ (X &&& Z)) ^^^ (Y &&& Z)

theorem notI_nat {k : IntKind} (hk : uns k) {X : Nat} (hX : X < 2 ^ k.bits) : notI k (X : Int) = ((2 ^ k.bits - 1 ^^^ X : Nat) : Int) := by
  unfold uns at hk
  have h1 : (if k.signed then -1 else k.max) = ((2 ^ k.bits - 1 : Nat) : Int) := by
    cases k <;> first | rfl | exact absurd hk (by decide)
  unfold notI
  rw [h1]
  have h2 : 2 ^ k.bits - 1 < 2 ^ k.bits := by have := Nat.two_pow_pos k.bits; omega
  exact xorI_nat hk h2 hX

theorem chooseM_nat {k : IntKind} (hk : uns k) {X Y Z : Nat} (hX : X < 2 ^ k.bits) (hY : Y < 2 ^ k.bits) (hZ : Z < 2 ^ k.bits) : chooseM k X Y Z = ((chooseC k.bits X Y Z : Nat) : Int) := by
  have h2 : 2 ^ k.bits - 1 < 2 ^ k.bits := by have := Nat.two_pow_pos k.bits; omega
  unfold chooseM chooseC
  rw [notI_nat hk hX, andI_nat hk hX hY, andI_nat hk (Nat.xor_lt_two_pow h2 hX) hZ, xorI_nat hk (Nat.and_lt_two_pow _ hY) (Nat.and_lt_two_pow _ hZ)]
theorem mostM_nat {k : IntKind} (hk : uns k) {X Y Z : Nat} (hX : X < 2 ^ k.bits) (hY : Y < 2 ^ k.bits) (hZ : Z < 2 ^ k.bits) : mostM k X Y Z = ((mostC X Y Z : Nat) : Int) := by
  unfold mostM mostC
  rw [andI_nat hk hX hY, andI_nat hk hX hZ, andI_nat hk hY hZ, xorI_nat hk (Nat.and_lt_two_pow _ hY) (Nat.and_lt_two_pow _ hZ), xorI_nat hk (Nat.xor_lt_two_pow (Nat.and_lt_two_pow _ hY) (Nat.and_lt_two_pow _ hZ)) (Nat.and_lt_two_pow _ hZ)]

theorem chooseC_lt {b X Y Z : Nat} (hY : Y < 2 ^ b) (hZ : Z < 2 ^ b) : chooseC b X Y Z < 2 ^ b := Nat.xor_lt_two_pow (Nat.and_lt_two_pow _ hY) (Nat.and_lt_two_pow _ hZ)
theorem mostC_lt {b X Y Z : Nat} (hY : Y < 2 ^ b) (hZ : Z < 2 ^ b) : mostC X Y Z < 2 ^ b := Nat.xor_lt_two_pow (Nat.xor_lt_two_pow (Nat.and_lt_two_pow _ hY) (Nat.and_lt_two_pow _ hZ)) (Nat.and_lt_two_pow _ hZ)

theorem chooseC_bit {b X Y Z j : Nat} (hj : j < b) : (chooseC b X Y Z).testBit j = (if X.testBit j then Y.testBit j else Z.testBit j) := by
  unfold chooseC
  simp only [Nat.testBit_xor, Nat.testBit_and, Nat.testBit_two_pow_sub_one, hj, decide_true]
  cases X.testBit j <;> cases Y.testBit j <;> cases Z.testBit j <;> rfl

theorem chooseS_eq {X Y Z : Nat} (hX : X < 2 ^ 64) (hY : Y < 2 ^ 64) (hZ : Z < 2 ^ 64) : ∀ j, j ≤ 64 → chooseS X Y Z j = ((chooseC 64 X Y Z % 2 ^ j : Nat) : Int)
  | 0, _ => by simp [chooseS, Nat.mod_one]
  | j + 1, hj => by
    simp only [chooseS]
    rw [chooseS_eq hX hY hZ j (by omega)]
    refine bit_step (by omega) rfl ?_
    unfold chooseN
    rw [bitM_nat hX, bitM_nat hY, bitM_nat hZ, chooseC_bit (by omega)]
    cases X.testBit j <;> simp

theorem mostS_eq {X Y Z : Nat} (hX : X < 2 ^ 64) (hY : Y < 2 ^ 64) (hZ : Z < 2 ^ 64) : ∀ j, j ≤ 64 → mostS X Y Z j = ((mostC X Y Z % 2 ^ j : Nat) : Int)
  | 0, _ => by simp [mostS, Nat.mod_one]
  | j + 1, hj => by
    simp only [mostS]
    rw [mostS_eq hX hY hZ j (by omega)]
    refine bit_step (by omega) rfl ?_
    unfold mostN mostC
    rw [bitM_nat hX, bitM_nat hY, bitM_nat hZ]
    simp only [Nat.testBit_xor, Nat.testBit_and]
    cases X.testBit j <;> cases Y.testBit j <;> cases Z.testBit j <;> decide

theorem chooseC_mod {X Y Z : Nat} : chooseC 32 (X % 2 ^ 32) (Y % 2 ^ 32) (Z % 2 ^ 32) = chooseC 64 X Y Z % 2 ^ 32 := by
  apply Nat.eq_of_testBit_eq
  intro j
  rw [Nat.testBit_mod_two_pow]
  rcases Nat.lt_or_ge j 32 with h | h
  · rw [chooseC_bit h, chooseC_bit (by omega)]
    simp only [Nat.testBit_mod_two_pow, h, decide_true, Bool.true_and]
  · have : chooseC 32 (X % 2 ^ 32) (Y % 2 ^ 32) (Z % 2 ^ 32) < 2 ^ j := Nat.lt_of_lt_of_le (chooseC_lt (Nat.mod_lt _ (Nat.two_pow_pos _)) (Nat.mod_lt _ (Nat.two_pow_pos _))) (Nat.pow_le_pow_right (by omega) h)
    rw [Nat.testBit_lt_two_pow this]
    have : ¬ j < 32 := by omega
    simp [this]
theorem mostC_mod {X Y Z : Nat} : mostC (X % 2 ^ 32) (Y % 2 ^ 32) (Z % 2 ^ 32) = mostC X Y Z % 2 ^ 32 := by
  apply Nat.eq_of_testBit_eq
  intro j
  unfold mostC
  simp only [Nat.testBit_mod_two_pow, Nat.testBit_xor, Nat.testBit_and]
  cases decide (j < 32) <;> simp

theorem s4 (X Y Z : Nat) (hX : X < 2 ^ 64) (hY : Y < 2 ^ 64) (hZ : Z < 2 ^ 64) : Sx.Spec Try.prog 4 [W.int .u64 X, W.int .u64 Y, W.int .u64 Z] [] ⟨V.bool true, [], []⟩ := by
  refine spec_of_whole (tab_ok lib5_ok) mixed Try.func4 [(31, false), (38, false), (47, false), (56, false), (68, true), (80, true), (91, true)] 1000000 []
    (o := [!(chooseM .u64 X Y Z != chooseS X Y Z 64), !(mostM .u64 X Y Z != mostS X Y Z 64), !(chooseM .u32 (u32 X) (u32 Y) (u32 Z) != u32 (chooseS X Y Z 64)), !(mostM .u32 (u32 X) (u32 Y) (u32 Z) != u32 (mostS X Y Z 64)), true, true,
      sumM .u64 [X, Y, Z] == u64 (u64 ((X : Int) + Y) + Z), true, true, sumM .u32 [u32 X, u32 Y, u32 Z] == u32 (u32 (u32 X + u32 Y) + u32 Z), true, true, true, true, sumM .u64 [X] == (X : Int)]) (by kernel_rfl) (by kernel_rfl) (by kernel_rfl) (by kernel_rfl) (by kernel_rfl) (by kernel_rfl) ?_
  have cS := chooseS_eq hX hY hZ 64 (by omega)
  have mS := mostS_eq hX hY hZ 64 (by omega)
  rw [Nat.mod_eq_of_lt (chooseC_lt hY hZ)] at cS
  rw [Nat.mod_eq_of_lt (mostC_lt hY hZ)] at mS
  have h32 : ∀ n : Nat, n % 2 ^ 32 < 2 ^ IntKind.u32.bits := fun n => Nat.mod_lt _ (Nat.two_pow_pos _)
  have c1 : chooseM .u64 X Y Z = ((chooseC 64 X Y Z : Nat) : Int) := chooseM_nat un64 hX hY hZ
  have m1 : mostM .u64 X Y Z = ((mostC X Y Z : Nat) : Int) := mostM_nat un64 hX hY hZ
  have c2 : chooseM .u32 (u32 X) (u32 Y) (u32 Z) = ((chooseC 32 (X % 2 ^ 32) (Y % 2 ^ 32) (Z % 2 ^ 32) : Nat) : Int) := by
    rw [u32_nat, u32_nat, u32_nat]; exact chooseM_nat un32 (h32 _) (h32 _) (h32 _)
  have m2 : mostM .u32 (u32 X) (u32 Y) (u32 Z) = ((mostC (X % 2 ^ 32) (Y % 2 ^ 32) (Z % 2 ^ 32) : Nat) : Int) := by
    rw [u32_nat, u32_nat, u32_nat]; exact mostM_nat un32 (h32 _) (h32 _) (h32 _)
  have x0 : u64 (0 + (X : Int)) = X := by rw [Int.zero_add, u64_nat, Nat.mod_eq_of_lt hX]
  have x1 : u32 (0 + u32 (X : Int)) = u32 X := by rw [Int.zero_add, wrap_u32, wrap_u32]; omega
  have s1 : sumM .u64 [X, Y, Z] = u64 (u64 ((X : Int) + Y) + Z) := by
    show u64 (u64 (u64 (0 + (X : Int)) + Y) + Z) = _
    rw [x0]
  have s2 : sumM .u32 [u32 X, u32 Y, u32 Z] = u32 (u32 (u32 X + u32 Y) + u32 Z) := by
    show u32 (u32 (u32 (0 + u32 (X : Int)) + u32 Y) + u32 Z) = _
    rw [x1]
  have s3 : sumM .u64 [X] = (X : Int) := x0
  rw [cS, mS, c1, m1, c2, m2, s1, s2, s3, chooseC_mod, mostC_mod, u32_nat, u32_nat]
  simp

def ks4 : List Kind := [.int .u64, .int .u64, .int .u64]
theorem open4 : ∀ l, AllIs ks4 l → Sx.Spec Try.prog 4 (allW l 0) (allB l) ⟨V.bool true, [], []⟩ := by
  intro l h
  match l, h with
  | [.int .u64 x, .int .u64 y, .int .u64 z], ⟨⟨_, hx⟩, ⟨_, hy⟩, ⟨_, hz⟩, _⟩ =>
    obtain ⟨X, rfl, hX⟩ := nat_of_wf64 hx
    obtain ⟨Y, rfl, hY⟩ := nat_of_wf64 hy
    obtain ⟨Z, rfl, hZ⟩ := nat_of_wf64 hz
    exact s4 X Y Z hX hY hZ

set_option maxRecDepth 100000 in
theorem lifted4 (os : Os) (started : os.Started) (H : Type) (enc : TypeId × Value → H) :
    ReturnsInHanded {} Try.checked os 4 .any (Rows.mixJoinsSpec.pre6 enc Try.prog Try.f4 Rows.mixJoinsRow.domain false) (Rows.mixJoinsSpec.post enc Try.prog Try.f4 false true false false) := by
  refine returnsInHanded_of_change (C := Try.checked) (by kernel_rfl) started (by kernel_rfl) Try.func4
    (ChangeSpec.witness6 (enc := enc) (C := Try.checked) false ⟨#[], #[.int .u64 0, .int .u64 0, .int .u64 0], []⟩ 8 (by kernel_rfl) (by kernel_rfl) (by kernel_rfl) (by kernel_rfl)) ?_
  intro W base args ds gs before hval0 hW hcnd _
  exact law_step (ks := ks4) (tb := 4) laid (by kernel_rfl) (by kernel_rfl) rfl (by kernel_rfl) Try.underlying4 (fun ds hds => by
    match ds, hds with
    | [_, _, _], _ => rfl) open4 hval0 hW
theorem closed4 : joinedFacts Try.prog 4 Try.f4 Rows.mixJoinsSpec Rows.mixJoinsRow = true :=
  joined rfl rfl rfl rfl (by kernel_rfl) (by kernel_rfl) (by kernel_rfl) (by kernel_rfl) (by kernel_rfl) (by kernel_rfl) (by kernel_rfl) (by kernel_rfl) (by kernel_rfl) (by kernel_rfl) rfl (by kernel_rfl) (by kernel_rfl)
theorem named4 : Try.prog.funcNamed Rows.mixJoinsRow.func = some 4 := by kernel_rfl
theorem over4 : Rows.mixJoinsRow.holds Try.pinned (OpenSpec.ofChange Rows.mixJoinsSpec) :=
  OpenClaim.holds_of_wide 4 Try.f4 rfl rfl rfl rfl rfl rfl rfl ⟨rfl, rfl, rfl, rfl, rfl⟩ rfl rfl rfl rfl rfl named4 Try.func4 closed4
    (of_decide_eq_true (by kernel_rfl)) (by unfold Func.isWrapper; first | (rw [if_pos (by decide +kernel)]; kernel_rfl) | (rw [if_neg (by decide +kernel)]; exact ⟨rfl, rfl⟩))
    (fun os started H enc _ => lifted4 os started H enc)
theorem mixJoins_proved : Rows.MixJoinsSaid :=
  over4
#print axioms mixJoins_proved
end Go.Proofs.Ytmjejlbmcefaoaa
