/- Facts about the program as a whole that every walk leans on. -/
import Derived.Test.YtmjejlbmcefaoaaSc
import Derived.Test.YtmjejlbmcefaoaaProg
namespace Go.Proofs.Ytmjejlbmcefaoaa
open Go Sx

theorem mixed : Try.prog.follows .mixedOrders = true := by kernel_rfl
theorem noRoutines : (Try.prog.funcs.toList.all fun fn => !(fn.name == "runtime.NumGoroutine")) = true := by kernel_rfl
theorem laid : laidOutB Try.prog = true := by kernel_rfl
theorem ext219 : extName Try.prog 219 "math/bits.Add64" (carryRow 0) := ⟨Try.f219, Try.func219, by kernel_rfl, by kernel_rfl, by kernel_rfl, by kernel_rfl, by kernel_rfl⟩
theorem ext256 : extName Try.prog 256 "math/bits.Sub64" (carryRow 1) := ⟨Try.f256, Try.func256, by kernel_rfl, by kernel_rfl, by kernel_rfl, by kernel_rfl, by kernel_rfl⟩

/-- types whose '==' is held cell by cell: [4]uint64, wide.Num, prime.El, curve.Point. -/
def eqTypes : List (TypeId × List Nat) := [(79, [0, 0, 0, 0]), (80, [0, 0, 0, 0]), (106, [0, 0, 0, 0]), (129, [0, 0, 0, 0, 0, 0, 0, 0, 0, 0, 0, 0, 0, 0, 0, 0])]
theorem eqTypes_ok : eqListOk Try.prog eqTypes = true := by kernel_rfl

abbrev tab (l : List (Nat × Entry)) : Tab := tabOf l 219 256 eqTypes
theorem tab_ok {l : List (Nat × Entry)} (h : AllOk Try.prog l) : TabOk Try.prog (tab l) := tabOf_ok h noRoutines ext219 ext256 eqTypes_ok

end Go.Proofs.Ytmjejlbmcefaoaa
