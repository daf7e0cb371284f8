/- wide.Add, wide.Sub, bits.Mul64: their walks. -/
import Derived.Test.YtmjejlbmcefaoaaWidB
namespace Go.Proofs.Ytmjejlbmcefaoaa
open Go Sx
theorem s84_1 (a0 : Int) (a1 : Int) (a2 : Int) (a3 : Int) (b0 : Int) (b1 : Int) (b2 : Int) (b3 : Int) (h1 : w64 a0 = true) (h2 : w64 a1 = true) (h3 : w64 a2 = true) (h4 : w64 a3 = true) (h5 : w64 b0 = true) (h6 : w64 b1 = true) (h7 : w64 b2 = true) (h8 : w64 b3 = true) : Sx.Spec Try.prog 84 [W.agg [C.v (Value.int IntKind.u64 a0), C.v (Value.int IntKind.u64 a1), C.v (Value.int IntKind.u64 a2), C.v (Value.int IntKind.u64 a3)], W.agg [C.v (Value.int IntKind.u64 b0), C.v (Value.int IntKind.u64 b1), C.v (Value.int IntKind.u64 b2), C.v (Value.int IntKind.u64 b3)]] [] ⟨V.tup [W.agg [C.v (Value.int IntKind.u64 (l0 (v4 a0 a1 a2 a3 + v4 b0 b1 b2 b3))), C.v (Value.int IntKind.u64 (l1 (v4 a0 a1 a2 a3 + v4 b0 b1 b2 b3))), C.v (Value.int IntKind.u64 (l2 (v4 a0 a1 a2 a3 + v4 b0 b1 b2 b3))), C.v (Value.int IntKind.u64 (l3 (v4 a0 a1 a2 a3 + v4 b0 b1 b2 b3)))], W.int IntKind.u64 ((v4 a0 a1 a2 a3 + v4 b0 b1 b2 b3) / 115792089237316195423570985008687907853269984665640564039457584007913129639936)], [], []⟩ :=
  spec_of_whole (tab_ok libwb_ok) mixed Try.func84 [] 1000000 [] (by kernel_rfl) (by kernel_rfl) (by kernel_rfl) (by kernel_rfl) (by kernel_rfl) (by kernel_rfl)
    (ocons h1 (ocons h2 (ocons h3 (ocons h4 (ocons h5 (ocons h6 (ocons h7 (ocons h8 (ocons rfl (ocons rfl (ocons rfl onil)))))))))))
theorem s87_1 (a0 : Int) (a1 : Int) (a2 : Int) (a3 : Int) (b0 : Int) (b1 : Int) (b2 : Int) (b3 : Int) (h1 : w64 a0 = true) (h2 : w64 a1 = true) (h3 : w64 a2 = true) (h4 : w64 a3 = true) (h5 : w64 b0 = true) (h6 : w64 b1 = true) (h7 : w64 b2 = true) (h8 : w64 b3 = true) : Sx.Spec Try.prog 87 [W.agg [C.v (Value.int IntKind.u64 a0), C.v (Value.int IntKind.u64 a1), C.v (Value.int IntKind.u64 a2), C.v (Value.int IntKind.u64 a3)], W.agg [C.v (Value.int IntKind.u64 b0), C.v (Value.int IntKind.u64 b1), C.v (Value.int IntKind.u64 b2), C.v (Value.int IntKind.u64 b3)]] [] ⟨V.tup [W.agg [C.v (Value.int IntKind.u64 (l0 (v4 a0 a1 a2 a3 - v4 b0 b1 b2 b3))), C.v (Value.int IntKind.u64 (l1 (v4 a0 a1 a2 a3 - v4 b0 b1 b2 b3))), C.v (Value.int IntKind.u64 (l2 (v4 a0 a1 a2 a3 - v4 b0 b1 b2 b3))), C.v (Value.int IntKind.u64 (l3 (v4 a0 a1 a2 a3 - v4 b0 b1 b2 b3)))], W.int IntKind.u64 (if v4 a0 a1 a2 a3 < v4 b0 b1 b2 b3 then 1 else 0)], [], []⟩ :=
  spec_of_whole (tab_ok libwb_ok) mixed Try.func87 [] 1000000 [] (by kernel_rfl) (by kernel_rfl) (by kernel_rfl) (by kernel_rfl) (by kernel_rfl) (by kernel_rfl)
    (ocons h1 (ocons h2 (ocons h3 (ocons h4 (ocons h5 (ocons h6 (ocons h7 (ocons h8 (ocons rfl (ocons rfl (ocons rfl onil)))))))))))
def e84 : Entry := fun args ms => match args, ms with
  | [.agg [.v (.int .u64 a0), .v (.int .u64 a1), .v (.int .u64 a2), .v (.int .u64 a3)], .agg [.v (.int .u64 b0), .v (.int .u64 b1), .v (.int .u64 b2), .v (.int .u64 b3)]], [] => some (⟨.tup [.agg [.v (.int .u64 (l0 (v4 a0 a1 a2 a3 + v4 b0 b1 b2 b3))), .v (.int .u64 (l1 (v4 a0 a1 a2 a3 + v4 b0 b1 b2 b3))), .v (.int .u64 (l2 (v4 a0 a1 a2 a3 + v4 b0 b1 b2 b3))), .v (.int .u64 (l3 (v4 a0 a1 a2 a3 + v4 b0 b1 b2 b3)))], .c (.v (.int .u64 ((v4 a0 a1 a2 a3 + v4 b0 b1 b2 b3) / 115792089237316195423570985008687907853269984665640564039457584007913129639936)))], [], []⟩, [w64 a0, w64 a1, w64 a2, w64 a3, w64 b0, w64 b1, w64 b2, w64 b3])
  | _, _ => none
theorem e84_ok : EntryOk Try.prog 84 e84 := by
  intro args ms r obs h ho
  unfold e84 at h
  split at h
  · cases h
    simp only [List.mem_cons, List.not_mem_nil, or_false, forall_eq_or_imp, forall_eq] at ho
    obtain ⟨h1, h2, h3, h4, h5, h6, h7, h8⟩ := ho
    exact s84_1 _ _ _ _ _ _ _ _ h1 h2 h3 h4 h5 h6 h7 h8
  · cases h
def e87 : Entry := fun args ms => match args, ms with
  | [.agg [.v (.int .u64 a0), .v (.int .u64 a1), .v (.int .u64 a2), .v (.int .u64 a3)], .agg [.v (.int .u64 b0), .v (.int .u64 b1), .v (.int .u64 b2), .v (.int .u64 b3)]], [] => some (⟨.tup [.agg [.v (.int .u64 (l0 (v4 a0 a1 a2 a3 - v4 b0 b1 b2 b3))), .v (.int .u64 (l1 (v4 a0 a1 a2 a3 - v4 b0 b1 b2 b3))), .v (.int .u64 (l2 (v4 a0 a1 a2 a3 - v4 b0 b1 b2 b3))), .v (.int .u64 (l3 (v4 a0 a1 a2 a3 - v4 b0 b1 b2 b3)))], .c (.v (.int .u64 (if v4 a0 a1 a2 a3 < v4 b0 b1 b2 b3 then 1 else 0)))], [], []⟩, [w64 a0, w64 a1, w64 a2, w64 a3, w64 b0, w64 b1, w64 b2, w64 b3])
  | _, _ => none
theorem e87_ok : EntryOk Try.prog 87 e87 := by
  intro args ms r obs h ho
  unfold e87 at h
  split at h
  · cases h
    simp only [List.mem_cons, List.not_mem_nil, or_false, forall_eq_or_imp, forall_eq] at ho
    obtain ⟨h1, h2, h3, h4, h5, h6, h7, h8⟩ := ho
    exact s87_1 _ _ _ _ _ _ _ _ h1 h2 h3 h4 h5 h6 h7 h8
  · cases h
end Go.Proofs.Ytmjejlbmcefaoaa
