/- Obligations out of premises. -/
import Derived.Test.YtmjejlbmcefaoaaStr
namespace Go.Proofs.Ytmjejlbmcefaoaa
open Go Sx
theorem ndec {p : Prop} [Decidable p] (h : ¬p) : (!decide p) = true := by simp [h]
theorem bltT {a b : Nat} (h : a < b) : Nat.blt a b = true := by simpa using h
theorem bleT {a b : Nat} (h : a ≤ b) : Nat.ble a b = true := by simpa using h
theorem beqT {a b : Nat} (h : a = b) : Nat.beq a b = true := by simpa using h
theorem neS {a b : ByteArray} (h : ¬a = b) : (!(a.toList == b.toList)) = true := by rw [eqS_ne h]; rfl
theorem nnS {a b : ByteArray} (h : a = b) : (!(!(a.toList == b.toList))) = true := by rw [eqS_of h]; rfl
theorem eqI {a b : Int} (h : a = b) : (a == b) = true := by simpa using h
theorem neI {a b : Int} (h : ¬a = b) : (!(a == b)) = true := by simpa using h
theorem bneI {a b : Int} (h : ¬a = b) : (a != b) = true := by simpa using h
theorem nbneI {a b : Int} (h : a = b) : (!(a != b)) = true := by simpa using h
/-- an entry without premises, at open arguments. -/
theorem spec_res {P : Program} {f : FuncId} {args : List W} {ms : List Blk} {r r' : Res} (h : Sx.Spec P f args ms r) (e : r = r') : Sx.Spec P f args ms r' := e ▸ h
end Go.Proofs.Ytmjejlbmcefaoaa
