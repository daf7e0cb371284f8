/- A symbolic executor, checked once, and what it shows of the functions: part 10. -/
import Derived.Test.YtmjejlbmcefaoaaPkI
namespace Go.Proofs.Ytmjejlbmcefaoaa
open Go Sx
def libr2 : List (Nat × Entry) := [(103, e103), (119, e119), (228, e228)] ++ libr1
/-- powers, but the one of 2 that is a root of -1 is told. -/
def pow2P (a k : Nat) : Nat := bif Nat.beq k 14474011154664524427946373126085988481658748083205070504932198000989141204987 && Nat.beq a 2 then 19681161376707505956807079304988542015446066515923890162744021073123829784752 else powP a k
def e119x : Entry := numsE [1, 1] (nm2 fun a k => vN (pow2P a k))
/-- a number that the kernel does not look into. -/
noncomputable def sealN (n : Nat) : Nat := Classical.choose (⟨n, rfl⟩ : ∃ m, m = n)
noncomputable def e112s : Entry := numsE [1, 1] (nm2 fun a b => vN (sealN (a * b % 57896044618658097711785492504343953926634992332820282019728792003956564819949)))
noncomputable def libr2x : List (Nat × Entry) := (112, e112s) :: (119, e119x) :: libr2
theorem libr2_ok : AllOk Try.prog libr2 := .cons e103_ok (.cons e119_ok (.cons e228_ok libr1_ok))
theorem pow2P_eq (a k : Nat) : pow2P a k = powP a k := by
  unfold pow2P
  cases h : Nat.beq k 14474011154664524427946373126085988481658748083205070504932198000989141204987 && Nat.beq a 2 with
  | false => rw [cond_false]
  | true =>
    rw [Bool.and_eq_true, Nat.beq_eq, Nat.beq_eq] at h
    obtain ⟨rfl, rfl⟩ := h
    rw [cond_true]
    decide +kernel
theorem e119x_ok : EntryOk Try.prog 119 e119x := numsE_ok fun ns h hl => by
  obtain ⟨a, b, rfl⟩ := ns2 h
  show Sx.Spec _ _ _ _ ⟨vN (pow2P a b), [], []⟩
  rw [pow2P_eq]
  exact s119n (hl a (by simp)) (hl b (by simp))
theorem sealN_eq (n : Nat) : sealN n = n := Classical.choose_spec (⟨n, rfl⟩ : ∃ m, m = n)
theorem e112s_ok : EntryOk Try.prog 112 e112s := by
  have h : e112s = e112 := by
    unfold e112s e112
    simp only [sealN_eq]
  rw [h]
  exact e112_ok
theorem libr2x_ok : AllOk Try.prog libr2x := .cons e112s_ok (.cons e119x_ok libr2_ok)
theorem s120_1 (a : Nat) : Sx.Spec Try.prog 120 [W.agg (numC a)] [] ⟨V.w (W.agg (numC (powP (nn a) 57896044618658097711785492504343953926634992332820282019728792003956564819947))), [], []⟩ :=
  spec_of_whole (tab_ok libr2_ok) mixed Try.func120 [] 1000000 [] (by kernel_rfl) (by kernel_rfl) (by kernel_rfl) (by kernel_rfl) (by kernel_rfl) (by kernel_rfl)
    (ocons rfl onil)


def e120 : Entry := numsE [1] (nm1 fun a => vN (powP a 57896044618658097711785492504343953926634992332820282019728792003956564819947))
theorem e120_ok : EntryOk Try.prog 120 e120 := numsE_ok fun ns h hl => by
  obtain ⟨a, rfl⟩ := ns1 h
  have k := s120_1 a
  rw [nn_id (hl a (by simp))] at k
  exact k
end Go.Proofs.Ytmjejlbmcefaoaa
namespace Go.Proofs.Ytmjejlbmcefaoaa
open Go Sx

/-- a number as one of the field. -/
def toF (x : Nat) : Fp := ⟨x % pN, Nat.mod_lt _ pN_pos⟩
theorem toF_val {x : Nat} (h : x < 57896044618658097711785492504343953926634992332820282019728792003956564819949) : (toF x).val = x := Nat.mod_eq_of_lt h
theorem toF_mod (x : Nat) : toF (x % 57896044618658097711785492504343953926634992332820282019728792003956564819949) = toF x := Fin.ext (Nat.mod_mod x 57896044618658097711785492504343953926634992332820282019728792003956564819949)
theorem toF_mul (a b : Nat) : toF (a * b % 57896044618658097711785492504343953926634992332820282019728792003956564819949) = toF a * toF b := by
  rw [toF_mod]
  exact Fin.ext (by rw [Fin.val_mul]; exact Nat.mul_mod a b pN)
theorem toF_add (a b : Nat) : toF ((a + b) % 57896044618658097711785492504343953926634992332820282019728792003956564819949) = toF a + toF b := by
  rw [toF_mod]
  exact Fin.ext (by rw [Fin.val_add]; exact Nat.add_mod a b pN)
theorem negN_eq {x : Nat} (h : x < 57896044618658097711785492504343953926634992332820282019728792003956564819949) : negN x = (57896044618658097711785492504343953926634992332820282019728792003956564819949 - x) % 57896044618658097711785492504343953926634992332820282019728792003956564819949 := by
  unfold negN
  by_cases h0 : x = 0
  · subst h0; rfl
  · rw [beq_f h0, cond_false]
    omega
theorem toF_neg {x : Nat} (h : x < 57896044618658097711785492504343953926634992332820282019728792003956564819949) : toF (negN x) = - toF x := by
  have e : toF (negN x) + toF x = 0 := by
    rw [negN_eq h, ← toF_add]
    refine Fin.ext ?_
    show ((57896044618658097711785492504343953926634992332820282019728792003956564819949 - x) % 57896044618658097711785492504343953926634992332820282019728792003956564819949 + x) % 57896044618658097711785492504343953926634992332820282019728792003956564819949 % pN = 0
    rw [Nat.mod_add_mod, show 57896044618658097711785492504343953926634992332820282019728792003956564819949 - x + x = 57896044618658097711785492504343953926634992332820282019728792003956564819949 by omega]
    rfl
  grind
/-- the reference's root. -/
def rootQB (a : Nat) : Bool := Nat.beq (powP a 28948022309329048855892746252171976963317496166410141009864396001978282409974) 0 || Nat.beq (powP a 28948022309329048855892746252171976963317496166410141009864396001978282409974) 1
def rootQ (a : Nat) : Nat := bif rootQB a then (bif Nat.beq (root1 a % 2) 1 then subQ 0 (root1 a) else root1 a) else 0
end Go.Proofs.Ytmjejlbmcefaoaa
namespace Go.Proofs.Ytmjejlbmcefaoaa
open Go Sx

/-- a number that stands for one of the field. -/
def El (a : Nat) (A : Fp) : Prop := a < 57896044618658097711785492504343953926634992332820282019728792003956564819949 ∧ toF a = A
theorem El.lt {a : Nat} {A : Fp} (h : El a A) : a < P256 := Nat.lt_trans h.1 (by decide)
theorem El.nn {a : Nat} {A : Fp} (h : El a A) : nn a = a := nn_id h.lt
theorem El.val {a : Nat} {A : Fp} (h : El a A) : a = A.val := by rw [← h.2, toF_val h.1]
theorem El.of {a : Nat} (h : a < 57896044618658097711785492504343953926634992332820282019728792003956564819949) : El a (toF a) := ⟨h, rfl⟩
theorem El.inj {a b : Nat} {A : Fp} (h : El a A) (k : El b A) : a = b := by rw [h.val, k.val]
theorem mulP_two (a b : Nat) : mulP [a, b] = nn a % 57896044618658097711785492504343953926634992332820282019728792003956564819949 * nn b % 57896044618658097711785492504343953926634992332820282019728792003956564819949 := by
  show mulS (mulS 1 a) b = _
  unfold mulS
  rw [Nat.one_mul]
theorem El.mul {a b : Nat} {A B : Fp} (h : El a A) (k : El b B) : El (mulP [a, b]) (A * B) := by
  rw [mulP_two, h.nn, k.nn]
  refine ⟨Nat.mod_lt _ (by decide), ?_⟩
  rw [toF_mul, toF_mod, h.2, k.2]
theorem addP_two (a b : Nat) : addP [a, b] = addS (addS 0 a) b := rfl
theorem El.add {a b : Nat} {A B : Fp} (h : El a A) (k : El b B) : El (addP [a, b]) (A + B) := by
  have e : addP [a, b] = (a % 57896044618658097711785492504343953926634992332820282019728792003956564819949 + b) % 57896044618658097711785492504343953926634992332820282019728792003956564819949 := by
    rw [addP_two]
    unfold addS
    rw [h.nn, k.nn, Nat.zero_add, h.nn, nn_id (show a % 57896044618658097711785492504343953926634992332820282019728792003956564819949 + b < P256 by have := Nat.mod_lt a (show 0 < 57896044618658097711785492504343953926634992332820282019728792003956564819949 by decide); have := k.1; unfold P256; omega)]
  rw [e]
  refine ⟨Nat.mod_lt _ (by decide), ?_⟩
  rw [toF_add, toF_mod, h.2, k.2]
theorem El.neg {a : Nat} {A : Fp} (h : El a A) : El (negN a) (-A) := by
  refine ⟨?_, by rw [toF_neg h.1, h.2]⟩
  rw [negN_eq h.1]
  exact Nat.mod_lt _ (by decide)
theorem El.sub {a b : Nat} {A B : Fp} (h : El a A) (k : El b B) : El (subP a b) (A - B) := by
  have e : A - B = A + -B := by grind
  rw [e]
  exact h.add k.neg
theorem El.zero : El 0 0 := ⟨by decide, rfl⟩
/-- the reference's sums and products. -/
theorem El.mulR {a b : Nat} {A B : Fp} (h : El a A) (k : El b B) : El (a * b % 57896044618658097711785492504343953926634992332820282019728792003956564819949) (A * B) := ⟨Nat.mod_lt _ (by decide), by rw [toF_mul, h.2, k.2]⟩
theorem El.addR {a b : Nat} {A B : Fp} (h : El a A) (k : El b B) : El ((a + b) % 57896044618658097711785492504343953926634992332820282019728792003956564819949) (A + B) := ⟨Nat.mod_lt _ (by decide), by rw [toF_add, h.2, k.2]⟩
theorem El.subR {a b : Nat} {A B : Fp} (h : El a A) (k : El b B) : El (subQ a b) (A - B) := by
  have e1 : subQ a b = (a + 57896044618658097711785492504343953926634992332820282019728792003956564819949 - b) % 57896044618658097711785492504343953926634992332820282019728792003956564819949 := subQ_eq h.lt (Nat.le_of_lt k.1)
  rw [e1]
  refine ⟨Nat.mod_lt _ (by decide), ?_⟩
  have e2 : toF ((a + 57896044618658097711785492504343953926634992332820282019728792003956564819949 - b) % 57896044618658097711785492504343953926634992332820282019728792003956564819949) + toF b = toF a := by
    rw [← toF_add]
    refine Fin.ext ?_
    show ((a + 57896044618658097711785492504343953926634992332820282019728792003956564819949 - b) % 57896044618658097711785492504343953926634992332820282019728792003956564819949 + b) % 57896044618658097711785492504343953926634992332820282019728792003956564819949 % 57896044618658097711785492504343953926634992332820282019728792003956564819949 = a % 57896044618658097711785492504343953926634992332820282019728792003956564819949
    rw [Nat.mod_add_mod, show a + 57896044618658097711785492504343953926634992332820282019728792003956564819949 - b + b = a + 57896044618658097711785492504343953926634992332820282019728792003956564819949 by have := k.1; omega, Nat.add_mod_right, Nat.mod_mod]
  rw [h.2, k.2] at e2
  rw [← e2]
  grind
end Go.Proofs.Ytmjejlbmcefaoaa
namespace Go.Proofs.Ytmjejlbmcefaoaa
open Go Sx

end Go.Proofs.Ytmjejlbmcefaoaa
namespace Go.Proofs.Ytmjejlbmcefaoaa
open Go Sx
theorem s116_1 (a : Nat) (h1 : (!eqNs [nn (pow2P (nn a) 28948022309329048855892746252171976963317496166410141009864396001978282409974)] [0]) = true) (h2 : (!eqNs [nn (pow2P (nn a) 28948022309329048855892746252171976963317496166410141009864396001978282409974)] [1]) = true) : Sx.Spec Try.prog 116 [W.agg (numC a)] [] ⟨V.tup [W.agg [C.u 0, C.u 0, C.u 0, C.u 0], W.c (C.v (Value.bool false))], [], []⟩ :=
  spec_of_whole (tab_ok libr2x_ok) mixed Try.func116 [(12, true), (16, true)] 1000000 [] (by kernel_rfl) (by kernel_rfl) (by kernel_rfl) (by kernel_rfl) (by kernel_rfl) (by kernel_rfl)
    (ocons rfl (ocons rfl (ocons h1 (ocons rfl (ocons h2 (ocons rfl onil))))))
theorem s116_2 (a : Nat) (h1 : (!eqNs [nn (pow2P (nn a) 28948022309329048855892746252171976963317496166410141009864396001978282409974)] [0]) = true) (h2 : (!!eqNs [nn (pow2P (nn a) 28948022309329048855892746252171976963317496166410141009864396001978282409974)] [1]) = true) (h3 : (!eqNs [nn (sealN (nn (pow2P (nn a) 7237005577332262213973186563042994240829374041602535252466099000494570602494) * nn (pow2P (nn a) 7237005577332262213973186563042994240829374041602535252466099000494570602494) % 57896044618658097711785492504343953926634992332820282019728792003956564819949))] [nn a]) = true) (h4 : Int.tmod (↑(sealN (nn (pow2P (nn a) 7237005577332262213973186563042994240829374041602535252466099000494570602494) * 19681161376707505956807079304988542015446066515923890162744021073123829784752 % 57896044618658097711785492504343953926634992332820282019728792003956564819949) % 18446744073709551616) : Int) 2 = 1) : Sx.Spec Try.prog 116 [W.agg (numC a)] [] ⟨V.tup [W.agg (numC (subQ 0 (nn (sealN (nn (pow2P (nn a) 7237005577332262213973186563042994240829374041602535252466099000494570602494) * 19681161376707505956807079304988542015446066515923890162744021073123829784752 % 57896044618658097711785492504343953926634992332820282019728792003956564819949))))), W.c (C.v (Value.bool true))], [], []⟩ :=
  spec_of_whole (tab_ok libr2x_ok) mixed Try.func116 [(12, true), (16, false), (25, true), (34, true)] 1000000 [] (by kernel_rfl) (by kernel_rfl) (by kernel_rfl) (by kernel_rfl) (by kernel_rfl) (by kernel_rfl)
    (ocons rfl (ocons rfl (ocons h1 (ocons rfl (ocons h2 (ocons rfl (ocons h3 (ocons rfl (ocons rfl (ocons rfl (ocons rfl (ocons rfl (ocons (eqI h4) (ocons rfl (ocons rfl (ocons rfl onil))))))))))))))))
theorem s116_3 (a : Nat) (h1 : (!eqNs [nn (pow2P (nn a) 28948022309329048855892746252171976963317496166410141009864396001978282409974)] [0]) = true) (h2 : (!!eqNs [nn (pow2P (nn a) 28948022309329048855892746252171976963317496166410141009864396001978282409974)] [1]) = true) (h3 : (!eqNs [nn (sealN (nn (pow2P (nn a) 7237005577332262213973186563042994240829374041602535252466099000494570602494) * nn (pow2P (nn a) 7237005577332262213973186563042994240829374041602535252466099000494570602494) % 57896044618658097711785492504343953926634992332820282019728792003956564819949))] [nn a]) = true) (h4 : ¬Int.tmod (↑(sealN (nn (pow2P (nn a) 7237005577332262213973186563042994240829374041602535252466099000494570602494) * 19681161376707505956807079304988542015446066515923890162744021073123829784752 % 57896044618658097711785492504343953926634992332820282019728792003956564819949) % 18446744073709551616) : Int) 2 = 1) : Sx.Spec Try.prog 116 [W.agg (numC a)] [] ⟨V.tup [W.agg (numC (sealN (nn (pow2P (nn a) 7237005577332262213973186563042994240829374041602535252466099000494570602494) * 19681161376707505956807079304988542015446066515923890162744021073123829784752 % 57896044618658097711785492504343953926634992332820282019728792003956564819949))), W.c (C.v (Value.bool true))], [], []⟩ :=
  spec_of_whole (tab_ok libr2x_ok) mixed Try.func116 [(12, true), (16, false), (25, true), (34, false)] 1000000 [] (by kernel_rfl) (by kernel_rfl) (by kernel_rfl) (by kernel_rfl) (by kernel_rfl) (by kernel_rfl)
    (ocons rfl (ocons rfl (ocons h1 (ocons rfl (ocons h2 (ocons rfl (ocons h3 (ocons rfl (ocons rfl (ocons rfl (ocons rfl (ocons rfl (ocons (neI h4) (ocons rfl onil))))))))))))))
theorem s116_4 (a : Nat) (h1 : (!eqNs [nn (pow2P (nn a) 28948022309329048855892746252171976963317496166410141009864396001978282409974)] [0]) = true) (h2 : (!!eqNs [nn (pow2P (nn a) 28948022309329048855892746252171976963317496166410141009864396001978282409974)] [1]) = true) (h3 : (!!eqNs [nn (sealN (nn (pow2P (nn a) 7237005577332262213973186563042994240829374041602535252466099000494570602494) * nn (pow2P (nn a) 7237005577332262213973186563042994240829374041602535252466099000494570602494) % 57896044618658097711785492504343953926634992332820282019728792003956564819949))] [nn a]) = true) (h4 : Int.tmod (↑(pow2P (nn a) 7237005577332262213973186563042994240829374041602535252466099000494570602494 % 18446744073709551616) : Int) 2 = 1) : Sx.Spec Try.prog 116 [W.agg (numC a)] [] ⟨V.tup [W.agg (numC (subQ 0 (nn (pow2P (nn a) 7237005577332262213973186563042994240829374041602535252466099000494570602494)))), W.c (C.v (Value.bool true))], [], []⟩ :=
  spec_of_whole (tab_ok libr2x_ok) mixed Try.func116 [(12, true), (16, false), (25, false), (34, true)] 1000000 [] (by kernel_rfl) (by kernel_rfl) (by kernel_rfl) (by kernel_rfl) (by kernel_rfl) (by kernel_rfl)
    (ocons rfl (ocons rfl (ocons h1 (ocons rfl (ocons h2 (ocons rfl (ocons h3 (ocons rfl (ocons rfl (ocons rfl (ocons (eqI h4) (ocons rfl (ocons rfl (ocons rfl onil))))))))))))))
theorem s116_5 (a : Nat) (h1 : (!eqNs [nn (pow2P (nn a) 28948022309329048855892746252171976963317496166410141009864396001978282409974)] [0]) = true) (h2 : (!!eqNs [nn (pow2P (nn a) 28948022309329048855892746252171976963317496166410141009864396001978282409974)] [1]) = true) (h3 : (!!eqNs [nn (sealN (nn (pow2P (nn a) 7237005577332262213973186563042994240829374041602535252466099000494570602494) * nn (pow2P (nn a) 7237005577332262213973186563042994240829374041602535252466099000494570602494) % 57896044618658097711785492504343953926634992332820282019728792003956564819949))] [nn a]) = true) (h4 : ¬Int.tmod (↑(pow2P (nn a) 7237005577332262213973186563042994240829374041602535252466099000494570602494 % 18446744073709551616) : Int) 2 = 1) : Sx.Spec Try.prog 116 [W.agg (numC a)] [] ⟨V.tup [W.agg (numC (pow2P (nn a) 7237005577332262213973186563042994240829374041602535252466099000494570602494)), W.c (C.v (Value.bool true))], [], []⟩ :=
  spec_of_whole (tab_ok libr2x_ok) mixed Try.func116 [(12, true), (16, false), (25, false), (34, false)] 1000000 [] (by kernel_rfl) (by kernel_rfl) (by kernel_rfl) (by kernel_rfl) (by kernel_rfl) (by kernel_rfl)
    (ocons rfl (ocons rfl (ocons h1 (ocons rfl (ocons h2 (ocons rfl (ocons h3 (ocons rfl (ocons rfl (ocons rfl (ocons (neI h4) (ocons rfl onil))))))))))))
theorem s116_6 (a : Nat) (h1 : (!!eqNs [nn (pow2P (nn a) 28948022309329048855892746252171976963317496166410141009864396001978282409974)] [0]) = true) (h2 : (!eqNs [nn (sealN (nn (pow2P (nn a) 7237005577332262213973186563042994240829374041602535252466099000494570602494) * nn (pow2P (nn a) 7237005577332262213973186563042994240829374041602535252466099000494570602494) % 57896044618658097711785492504343953926634992332820282019728792003956564819949))] [nn a]) = true) (h3 : Int.tmod (↑(sealN (nn (pow2P (nn a) 7237005577332262213973186563042994240829374041602535252466099000494570602494) * 19681161376707505956807079304988542015446066515923890162744021073123829784752 % 57896044618658097711785492504343953926634992332820282019728792003956564819949) % 18446744073709551616) : Int) 2 = 1) : Sx.Spec Try.prog 116 [W.agg (numC a)] [] ⟨V.tup [W.agg (numC (subQ 0 (nn (sealN (nn (pow2P (nn a) 7237005577332262213973186563042994240829374041602535252466099000494570602494) * 19681161376707505956807079304988542015446066515923890162744021073123829784752 % 57896044618658097711785492504343953926634992332820282019728792003956564819949))))), W.c (C.v (Value.bool true))], [], []⟩ :=
  spec_of_whole (tab_ok libr2x_ok) mixed Try.func116 [(12, false), (25, true), (34, true)] 1000000 [] (by kernel_rfl) (by kernel_rfl) (by kernel_rfl) (by kernel_rfl) (by kernel_rfl) (by kernel_rfl)
    (ocons rfl (ocons rfl (ocons h1 (ocons rfl (ocons h2 (ocons rfl (ocons rfl (ocons rfl (ocons rfl (ocons rfl (ocons (eqI h3) (ocons rfl (ocons rfl (ocons rfl onil))))))))))))))
theorem s116_7 (a : Nat) (h1 : (!!eqNs [nn (pow2P (nn a) 28948022309329048855892746252171976963317496166410141009864396001978282409974)] [0]) = true) (h2 : (!eqNs [nn (sealN (nn (pow2P (nn a) 7237005577332262213973186563042994240829374041602535252466099000494570602494) * nn (pow2P (nn a) 7237005577332262213973186563042994240829374041602535252466099000494570602494) % 57896044618658097711785492504343953926634992332820282019728792003956564819949))] [nn a]) = true) (h3 : ¬Int.tmod (↑(sealN (nn (pow2P (nn a) 7237005577332262213973186563042994240829374041602535252466099000494570602494) * 19681161376707505956807079304988542015446066515923890162744021073123829784752 % 57896044618658097711785492504343953926634992332820282019728792003956564819949) % 18446744073709551616) : Int) 2 = 1) : Sx.Spec Try.prog 116 [W.agg (numC a)] [] ⟨V.tup [W.agg (numC (sealN (nn (pow2P (nn a) 7237005577332262213973186563042994240829374041602535252466099000494570602494) * 19681161376707505956807079304988542015446066515923890162744021073123829784752 % 57896044618658097711785492504343953926634992332820282019728792003956564819949))), W.c (C.v (Value.bool true))], [], []⟩ :=
  spec_of_whole (tab_ok libr2x_ok) mixed Try.func116 [(12, false), (25, true), (34, false)] 1000000 [] (by kernel_rfl) (by kernel_rfl) (by kernel_rfl) (by kernel_rfl) (by kernel_rfl) (by kernel_rfl)
    (ocons rfl (ocons rfl (ocons h1 (ocons rfl (ocons h2 (ocons rfl (ocons rfl (ocons rfl (ocons rfl (ocons rfl (ocons (neI h3) (ocons rfl onil))))))))))))
theorem s116_8 (a : Nat) (h1 : (!!eqNs [nn (pow2P (nn a) 28948022309329048855892746252171976963317496166410141009864396001978282409974)] [0]) = true) (h2 : (!!eqNs [nn (sealN (nn (pow2P (nn a) 7237005577332262213973186563042994240829374041602535252466099000494570602494) * nn (pow2P (nn a) 7237005577332262213973186563042994240829374041602535252466099000494570602494) % 57896044618658097711785492504343953926634992332820282019728792003956564819949))] [nn a]) = true) (h3 : Int.tmod (↑(pow2P (nn a) 7237005577332262213973186563042994240829374041602535252466099000494570602494 % 18446744073709551616) : Int) 2 = 1) : Sx.Spec Try.prog 116 [W.agg (numC a)] [] ⟨V.tup [W.agg (numC (subQ 0 (nn (pow2P (nn a) 7237005577332262213973186563042994240829374041602535252466099000494570602494)))), W.c (C.v (Value.bool true))], [], []⟩ :=
  spec_of_whole (tab_ok libr2x_ok) mixed Try.func116 [(12, false), (25, false), (34, true)] 1000000 [] (by kernel_rfl) (by kernel_rfl) (by kernel_rfl) (by kernel_rfl) (by kernel_rfl) (by kernel_rfl)
    (ocons rfl (ocons rfl (ocons h1 (ocons rfl (ocons h2 (ocons rfl (ocons rfl (ocons rfl (ocons (eqI h3) (ocons rfl (ocons rfl (ocons rfl onil))))))))))))
theorem s116_9 (a : Nat) (h1 : (!!eqNs [nn (pow2P (nn a) 28948022309329048855892746252171976963317496166410141009864396001978282409974)] [0]) = true) (h2 : (!!eqNs [nn (sealN (nn (pow2P (nn a) 7237005577332262213973186563042994240829374041602535252466099000494570602494) * nn (pow2P (nn a) 7237005577332262213973186563042994240829374041602535252466099000494570602494) % 57896044618658097711785492504343953926634992332820282019728792003956564819949))] [nn a]) = true) (h3 : ¬Int.tmod (↑(pow2P (nn a) 7237005577332262213973186563042994240829374041602535252466099000494570602494 % 18446744073709551616) : Int) 2 = 1) : Sx.Spec Try.prog 116 [W.agg (numC a)] [] ⟨V.tup [W.agg (numC (pow2P (nn a) 7237005577332262213973186563042994240829374041602535252466099000494570602494)), W.c (C.v (Value.bool true))], [], []⟩ :=
  spec_of_whole (tab_ok libr2x_ok) mixed Try.func116 [(12, false), (25, false), (34, false)] 1000000 [] (by kernel_rfl) (by kernel_rfl) (by kernel_rfl) (by kernel_rfl) (by kernel_rfl) (by kernel_rfl)
    (ocons rfl (ocons rfl (ocons h1 (ocons rfl (ocons h2 (ocons rfl (ocons rfl (ocons rfl (ocons (neI h3) (ocons rfl onil))))))))))


theorem tmod_odd (x : Nat) : Int.tmod (((x % 18446744073709551616 : Nat)) : Int) 2 = ((x % 2 : Nat) : Int) := by
  rw [Int.tmod_eq_emod_of_nonneg (by omega)]
  omega
def e116 : Entry := numsE [1] (nm1 fun a => .tup [.agg (numC (rootQ a)), .c (.v (.bool (rootQB a)))])
theorem e116_ok : EntryOk Try.prog 116 e116 := numsE_ok fun ns h hl => by
  obtain ⟨a, rfl⟩ := ns1 h
  have na := nn_id (hl a (by simp))
  have np := nn_p (powP_lt a 7237005577332262213973186563042994240829374041602535252466099000494570602494)
  have nq := nn_p (powP_lt a 28948022309329048855892746252171976963317496166410141009864396001978282409974)
  have nm : ∀ x, nn (x % 57896044618658097711785492504343953926634992332820282019728792003956564819949) = x % 57896044618658097711785492504343953926634992332820282019728792003956564819949 := fun x => nn_p (Nat.mod_lt _ (by decide))
  have k1 := s116_1 a
  have k2 := s116_2 a
  have k3 := s116_3 a
  have k4 := s116_4 a
  have k5 := s116_5 a
  have k6 := s116_6 a
  have k7 := s116_7 a
  have k8 := s116_8 a
  have k9 := s116_9 a
  simp only [sealN_eq, pow2P_eq, na, np, nq, nm, eqNs1, tmod_odd] at k1 k2 k3 k4 k5 k6 k7 k8 k9
  show Sx.Spec _ _ _ _ ⟨.tup [.agg (numC (rootQ a)), .c (.v (.bool (rootQB a)))], [], []⟩
  unfold rootQ rootQB root1
  generalize powP a 7237005577332262213973186563042994240829374041602535252466099000494570602494 = x at *
  generalize powP a 28948022309329048855892746252171976963317496166410141009864396001978282409974 = e at *
  have fin : ∀ (y : Nat) (b : Bool), (b = true) → (∀ (h : ((y % 2 : Nat) : Int) = 1), Sx.Spec Try.prog 116 [.agg (numC a)] [] ⟨.tup [.agg (numC (subQ 0 y)), .c (.v (.bool true))], [], []⟩) → (∀ (h : ¬ ((y % 2 : Nat) : Int) = 1), Sx.Spec Try.prog 116 [.agg (numC a)] [] ⟨.tup [.agg (numC y), .c (.v (.bool true))], [], []⟩) →
      Sx.Spec Try.prog 116 [.agg (numC a)] [] ⟨.tup [.agg (numC (bif b then (bif Nat.beq (y % 2) 1 then subQ 0 y else y) else 0)), .c (.v (.bool b))], [], []⟩ := by
    intro y b hb h1 h2
    subst hb
    rw [cond_true]
    cases ho : Nat.beq (y % 2) 1 with
    | true => rw [cond_true]; exact h1 (by rw [Nat.beq_eq.mp ho]; rfl)
    | false =>
      rw [cond_false]
      refine h2 fun h => ?_
      rw [show y % 2 = 1 by omega] at ho
      cases ho
  unfold rootX
  cases h0 : Nat.beq e 0 with
  | false =>
    rw [h0] at k1 k2 k3 k4 k5
    cases h1 : Nat.beq e 1 with
    | false =>
      rw [h1] at k1
      rw [Bool.or_false, cond_false]
      exact k1 rfl rfl
    | true =>
      rw [h1] at k2 k3 k4 k5
      cases hx : Nat.beq (x * x % 57896044618658097711785492504343953926634992332820282019728792003956564819949) a with
      | false =>
        rw [hx] at k2 k3
        rw [cond_false]
        exact fin _ _ rfl (k2 rfl rfl rfl) (k3 rfl rfl rfl)
      | true =>
        rw [hx] at k4 k5
        rw [cond_true]
        exact fin _ _ rfl (k4 rfl rfl rfl) (k5 rfl rfl rfl)
  | true =>
    rw [h0] at k6 k7 k8 k9
    cases hx : Nat.beq (x * x % 57896044618658097711785492504343953926634992332820282019728792003956564819949) a with
    | false =>
      rw [hx] at k6 k7
      rw [cond_false]
      exact fin _ _ rfl (k6 rfl rfl) (k7 rfl rfl)
    | true =>
      rw [hx] at k8 k9
      rw [cond_true]
      exact fin _ _ rfl (k8 rfl rfl) (k9 rfl rfl)
def libr3 : List (Nat × Entry) := [(116, e116), (120, e120)] ++ libr2
theorem libr3_ok : AllOk Try.prog libr3 := .cons e116_ok (.cons e120_ok libr2_ok)
end Go.Proofs.Ytmjejlbmcefaoaa
namespace Go.Proofs.Ytmjejlbmcefaoaa
open Go Sx
noncomputable def e111s : Entry := listE fun ns => ⟨vN (sealN (mulP ns)), [], []⟩
theorem e111s_ok : EntryOk Try.prog 111 e111s := by
  have h : e111s = e111 := by
    unfold e111s e111
    simp only [sealN_eq]
  rw [h]
  exact e111_ok
noncomputable def e113s : Entry := listE fun ns => ⟨vN (sealN (addP ns)), [], []⟩
theorem e113s_ok : EntryOk Try.prog 113 e113s := by
  have h : e113s = e113 := by
    unfold e113s e113
    simp only [sealN_eq]
  rw [h]
  exact e113_ok
noncomputable def e108s : Entry := numsE [1, 1] (nm2 fun a b => vN (sealN (subP a b)))
theorem e108s_ok : EntryOk Try.prog 108 e108s := by
  have h : e108s = e108 := by
    unfold e108s e108
    simp only [sealN_eq]
  rw [h]
  exact e108_ok
noncomputable def e110s : Entry := numsE [1] (nm1 fun a => vN (sealN (negN a)))
theorem e110s_ok : EntryOk Try.prog 110 e110s := by
  have h : e110s = e110 := by
    unfold e110s e110
    simp only [sealN_eq]
  rw [h]
  exact e110_ok
noncomputable def e117s : Entry := numsE [1] (nm1 fun a => vN (sealN (powP a 57896044618658097711785492504343953926634992332820282019728792003956564819947)))
theorem e117s_ok : EntryOk Try.prog 117 e117s := by
  have h : e117s = e117 := by
    unfold e117s e117
    simp only [sealN_eq]
  rw [h]
  exact e117_ok
noncomputable def e114s : Entry := numsE [1, 1] (nm2 fun a b => vN (sealN ((a + b) % 57896044618658097711785492504343953926634992332820282019728792003956564819949)))
theorem e114s_ok : EntryOk Try.prog 114 e114s := by
  have h : e114s = e114 := by
    unfold e114s e114
    simp only [sealN_eq]
  rw [h]
  exact e114_ok
noncomputable def e109s : Entry := numsE [1, 1] (nm2 fun a b => vN (sealN (subQ a b)))
theorem e109s_ok : EntryOk Try.prog 109 e109s := by
  have h : e109s = e109 := by
    unfold e109s e109
    simp only [sealN_eq]
  rw [h]
  exact e109_ok
noncomputable def e120s : Entry := numsE [1] (nm1 fun a => vN (sealN (powP a 57896044618658097711785492504343953926634992332820282019728792003956564819947)))
theorem e120s_ok : EntryOk Try.prog 120 e120s := by
  have h : e120s = e120 := by
    unfold e120s e120
    simp only [sealN_eq]
  rw [h]
  exact e120_ok
noncomputable def e115s : Entry := numsE [1] (nm1 fun a => .tup [.agg (numC (sealN (rootP a))), .c (.v (.bool (rootB a)))])
theorem e115s_ok : EntryOk Try.prog 115 e115s := by
  have h : e115s = e115 := by
    unfold e115s e115
    simp only [sealN_eq]
  rw [h]
  exact e115_ok
noncomputable def e116s : Entry := numsE [1] (nm1 fun a => .tup [.agg (numC (sealN (rootQ a))), .c (.v (.bool (rootQB a)))])
theorem e116s_ok : EntryOk Try.prog 116 e116s := by
  have h : e116s = e116 := by
    unfold e116s e116
    simp only [sealN_eq]
  rw [h]
  exact e116_ok
noncomputable def e105s : Entry := numsE [1] (nm1 fun a => vN (sealN (a % 57896044618658097711785492504343953926634992332820282019728792003956564819949)))
theorem e105s_ok : EntryOk Try.prog 105 e105s := by
  have h : e105s = e105 := by
    unfold e105s e105
    simp only [sealN_eq]
  rw [h]
  exact e105_ok
noncomputable def e106s : Entry := numsE [1] (nm1 fun a => vN (sealN (a % 57896044618658097711785492504343953926634992332820282019728792003956564819949)))
theorem e106s_ok : EntryOk Try.prog 106 e106s := by
  have h : e106s = e106 := by
    unfold e106s e106
    simp only [sealN_eq]
  rw [h]
  exact e106_ok
noncomputable def libcs : List (Nat × Entry) := [(112, e112s), (111, roE [.words] e111s), (113, roE [.words] e113s), (108, e108s), (110, e110s), (117, e117s), (114, e114s), (109, e109s), (120, e120s), (115, e115s), (116, e116s), (105, e105s), (106, e106s)] ++ libr3
theorem libcs_ok : AllOk Try.prog libcs := .cons e112s_ok (.cons (roE_ok e111s_ok) (.cons (roE_ok e113s_ok) (.cons e108s_ok (.cons e110s_ok (.cons e117s_ok (.cons e114s_ok (.cons e109s_ok (.cons e120s_ok (.cons e115s_ok (.cons e116s_ok (.cons e105s_ok (.cons e106s_ok libr3_ok))))))))))))
end Go.Proofs.Ytmjejlbmcefaoaa
namespace Go.Proofs.Ytmjejlbmcefaoaa
open Go Sx
theorem mulP_lt (l : List Nat) : mulP l < 57896044618658097711785492504343953926634992332820282019728792003956564819949 := by
  have key : ∀ (l : List Nat) (a : Nat), a < 57896044618658097711785492504343953926634992332820282019728792003956564819949 → l.foldl mulS a < 57896044618658097711785492504343953926634992332820282019728792003956564819949 := by
    intro l
    induction l with
    | nil => intro a h; exact h
    | cons b l ih => intro a _; exact ih _ (Nat.mod_lt _ (by decide))
  exact key l 1 (by decide)
theorem addP_lt (l : List Nat) : addP l < 57896044618658097711785492504343953926634992332820282019728792003956564819949 := by
  have key : ∀ (l : List Nat) (a : Nat), a < 57896044618658097711785492504343953926634992332820282019728792003956564819949 → l.foldl addS a < 57896044618658097711785492504343953926634992332820282019728792003956564819949 := by
    intro l
    induction l with
    | nil => intro a h; exact h
    | cons b l ih => intro a _; exact ih _ (Nat.mod_lt _ (by decide))
  exact key l 0 (by decide)
end Go.Proofs.Ytmjejlbmcefaoaa
