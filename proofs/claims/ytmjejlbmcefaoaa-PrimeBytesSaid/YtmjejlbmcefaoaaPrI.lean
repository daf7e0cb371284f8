/- The reference: inverses; a table of it all. -/
import Derived.Test.YtmjejlbmcefaoaaPrH
namespace Go.Proofs.Ytmjejlbmcefaoaa
open Go Sx
def libr2 : List (Nat × Entry) := [(103, e103), (119, e119), (228, e228)] ++ libr1
theorem libr2_ok : AllOk Try.prog libr2 := .cons e103_ok (.cons e119_ok (.cons e228_ok libr1_ok))
theorem s120_1 (a : Nat) : Sx.Spec Try.prog 120 [W.agg [C.u a, C.u (a / 18446744073709551616), C.u (a / 340282366920938463463374607431768211456), C.u (a / 6277101735386680763835789423207666416102355444464034512896)]] [] ⟨V.w (W.agg [C.u (powP (nn a) 57896044618658097711785492504343953926634992332820282019728792003956564819947), C.u (powP (nn a) 57896044618658097711785492504343953926634992332820282019728792003956564819947 / 18446744073709551616), C.u (powP (nn a) 57896044618658097711785492504343953926634992332820282019728792003956564819947 / 340282366920938463463374607431768211456), C.u (powP (nn a) 57896044618658097711785492504343953926634992332820282019728792003956564819947 / 6277101735386680763835789423207666416102355444464034512896)]), [], []⟩ :=
  spec_of_whole (tab_ok libr2_ok) mixed Try.func120 [] 1000000 [] (by kernel_rfl) (by kernel_rfl) (by kernel_rfl) (by kernel_rfl) (by kernel_rfl) (by kernel_rfl)
    (ocons rfl onil)


def e120 : Entry := numsE [1] (nm1 fun a => vN (powP a 57896044618658097711785492504343953926634992332820282019728792003956564819947))
theorem e120_ok : EntryOk Try.prog 120 e120 := numsE_ok fun ns h hl => by
  obtain ⟨a, rfl⟩ := ns1 h
  have k := s120_1 a
  rw [nn_id (hl a (by simp))] at k
  exact k
end Go.Proofs.Ytmjejlbmcefaoaa
