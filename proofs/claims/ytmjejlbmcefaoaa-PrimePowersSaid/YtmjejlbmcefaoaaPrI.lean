/- The reference: inverses; a table of it all. -/
import Derived.Test.YtmjejlbmcefaoaaPrH
namespace Go.Proofs.Ytmjejlbmcefaoaa
open Go Sx
def libr2 : List (Nat × Entry) := [(103, e103), (119, e119), (228, e228)] ++ libr1
/-- powers, but the one of 2 that is a root of -1 is told. -/
def pow2P (a k : Nat) : Nat := bif Nat.beq k 14474011154664524427946373126085988481658748083205070504932198000989141204987 && Nat.beq a 2 then 19681161376707505956807079304988542015446066515923890162744021073123829784752 else powP a k
def e119x : Entry := numsE [1, 1] (nm2 fun a k => vN (pow2P a k))
/-- a number that the kernel does not look into. -/
noncomputable def sealN (n : Nat) : Nat := Classical.choose (⟨n, rfl⟩ : ∃ m, m = n)
noncomputable def e112s : Entry := numsE [1, 1] (nm2 fun a b => vN (sealN (a * b % 57896044618658097711785492504343953926634992332820282019728792003956564819949)))
noncomputable def libr2x : List (Nat × Entry) := (112, e112s) :: (119, e119x) :: libr2
theorem libr2_ok : AllOk Try.prog libr2 := .cons e103_ok (.cons e119_ok (.cons e228_ok libr1_ok))
theorem pow2P_eq (a k : Nat) : pow2P a k = powP a k := by
  unfold pow2P
  cases h : Nat.beq k 14474011154664524427946373126085988481658748083205070504932198000989141204987 && Nat.beq a 2 with
  | false => rw [cond_false]
  | true =>
    rw [Bool.and_eq_true, Nat.beq_eq, Nat.beq_eq] at h
    obtain ⟨rfl, rfl⟩ := h
    rw [cond_true]
    decide +kernel
theorem e119x_ok : EntryOk Try.prog 119 e119x := numsE_ok fun ns h hl => by
  obtain ⟨a, b, rfl⟩ := ns2 h
  show Sx.Spec _ _ _ _ ⟨vN (pow2P a b), [], []⟩
  rw [pow2P_eq]
  exact s119n (hl a (by simp)) (hl b (by simp))
theorem sealN_eq (n : Nat) : sealN n = n := Classical.choose_spec (⟨n, rfl⟩ : ∃ m, m = n)
theorem e112s_ok : EntryOk Try.prog 112 e112s := by
  have h : e112s = e112 := by
    unfold e112s e112
    simp only [sealN_eq]
  rw [h]
  exact e112_ok
theorem libr2x_ok : AllOk Try.prog libr2x := .cons e112s_ok (.cons e119x_ok libr2_ok)
theorem s120_1 (a : Nat) : Sx.Spec Try.prog 120 [W.agg [C.u a, C.u (a / 18446744073709551616), C.u (a / 340282366920938463463374607431768211456), C.u (a / 6277101735386680763835789423207666416102355444464034512896)]] [] ⟨V.w (W.agg [C.u (powP (nn a) 57896044618658097711785492504343953926634992332820282019728792003956564819947), C.u (powP (nn a) 57896044618658097711785492504343953926634992332820282019728792003956564819947 / 18446744073709551616), C.u (powP (nn a) 57896044618658097711785492504343953926634992332820282019728792003956564819947 / 340282366920938463463374607431768211456), C.u (powP (nn a) 57896044618658097711785492504343953926634992332820282019728792003956564819947 / 6277101735386680763835789423207666416102355444464034512896)]), [], []⟩ :=
  spec_of_whole (tab_ok libr2_ok) mixed Try.func120 [] 1000000 [] (by kernel_rfl) (by kernel_rfl) (by kernel_rfl) (by kernel_rfl) (by kernel_rfl) (by kernel_rfl)
    (ocons rfl onil)


def e120 : Entry := numsE [1] (nm1 fun a => vN (powP a 57896044618658097711785492504343953926634992332820282019728792003956564819947))
theorem e120_ok : EntryOk Try.prog 120 e120 := numsE_ok fun ns h hl => by
  obtain ⟨a, rfl⟩ := ns1 h
  have k := s120_1 a
  rw [nn_id (hl a (by simp))] at k
  exact k
end Go.Proofs.Ytmjejlbmcefaoaa
