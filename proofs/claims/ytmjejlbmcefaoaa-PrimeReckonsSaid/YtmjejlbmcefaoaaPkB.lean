/- A symbolic executor, checked once, and what it shows of the functions: part 2. -/
import Derived.Test.YtmjejlbmcefaoaaPkA
import Derived.KernelRfl
namespace Go.Proofs.Ytmjejlbmcefaoaa

end Go.Proofs.Ytmjejlbmcefaoaa
namespace Go.Proofs.Ytmjejlbmcefaoaa

def pN : Nat := 57896044618658097711785492504343953926634992332820282019728792003956564819949
theorem pN_pos : 0 < pN := by decide +kernel
instance : NeZero pN := ⟨Nat.pos_iff_ne_zero.1 pN_pos⟩
abbrev Fp := Fin pN
end Go.Proofs.Ytmjejlbmcefaoaa
