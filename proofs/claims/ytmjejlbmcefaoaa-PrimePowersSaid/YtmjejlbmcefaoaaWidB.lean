/- Numbers of four words: wide.Add and wide.Sub. -/
import Derived.Test.YtmjejlbmcefaoaaWidA
namespace Go.Proofs.Ytmjejlbmcefaoaa
open Go Sx

theorem s214a {a0 a1 a2 a3 b0 b1 b2 b3 : Int} (ha0 : 0 ≤ a0 ∧ a0 < 18446744073709551616) (ha1 : 0 ≤ a1 ∧ a1 < 18446744073709551616) (ha2 : 0 ≤ a2 ∧ a2 < 18446744073709551616) (ha3 : 0 ≤ a3 ∧ a3 < 18446744073709551616) (hb0 : 0 ≤ b0 ∧ b0 < 18446744073709551616) (hb1 : 0 ≤ b1 ∧ b1 < 18446744073709551616) (hb2 : 0 ≤ b2 ∧ b2 < 18446744073709551616) (hb3 : 0 ≤ b3 ∧ b3 < 18446744073709551616) :
    Sx.Spec Try.prog 214 [.c (.v (.func (.func 215) #[] #[])), .agg [.v (.int .u64 a0), .v (.int .u64 a1), .v (.int .u64 a2), .v (.int .u64 a3)], .agg [.v (.int .u64 b0), .v (.int .u64 b1), .v (.int .u64 b2), .v (.int .u64 b3)]] [] ⟨.tup [.agg [.v (.int .u64 (l0 (v4 a0 a1 a2 a3 + v4 b0 b1 b2 b3))), .v (.int .u64 (l1 (v4 a0 a1 a2 a3 + v4 b0 b1 b2 b3))), .v (.int .u64 (l2 (v4 a0 a1 a2 a3 + v4 b0 b1 b2 b3))), .v (.int .u64 (l3 (v4 a0 a1 a2 a3 + v4 b0 b1 b2 b3)))], .c (.v (.int .u64 ((v4 a0 a1 a2 a3 + v4 b0 b1 b2 b3) / 115792089237316195423570985008687907853269984665640564039457584007913129639936)))], [], []⟩ := by
  have c0 : addC a0 b0 0 = (a0 + b0) / 18446744073709551616 := by rw [addC_eq ha0.1 hb0.1 (by omega), Int.add_zero]
  have p0 : 0 ≤ addC a0 b0 0 ∧ addC a0 b0 0 ≤ 1 := by rw [c0]; omega
  have c1 : addC a1 b1 (addC a0 b0 0) = (a1 + b1 + addC a0 b0 0) / 18446744073709551616 := addC_eq ha1.1 hb1.1 p0.1
  have p1 : 0 ≤ addC a1 b1 (addC a0 b0 0) ∧ addC a1 b1 (addC a0 b0 0) ≤ 1 := by rw [c1]; omega
  have c2 : addC a2 b2 (addC a1 b1 (addC a0 b0 0)) = (a2 + b2 + addC a1 b1 (addC a0 b0 0)) / 18446744073709551616 := addC_eq ha2.1 hb2.1 p1.1
  have p2 : 0 ≤ addC a2 b2 (addC a1 b1 (addC a0 b0 0)) ∧ addC a2 b2 (addC a1 b1 (addC a0 b0 0)) ≤ 1 := by rw [c2]; omega
  obtain ⟨e0, e1, e2, e3, e4⟩ := add4 ha0 ha1 ha2 ha3 hb0 hb1 hb2 hb3 c0 c1 c2
  refine spec_res (s214a_1 a0 a1 a2 a3 b0 b1 b2 b3 (by omega) (by omega) (by omega)) ?_
  rw [addS_eq ha0.1 hb0.1 (by omega), addS_eq ha1.1 hb1.1 p0.1, addS_eq ha2.1 hb2.1 p1.1, addS_eq ha3.1 hb3.1 p2.1, addC_eq ha3.1 hb3.1 p2.1, Int.add_zero, e0, e1, e2, e3, e4]
theorem sub4 {a0 a1 a2 a3 b0 b1 b2 b3 c0 c1 c2 : Int} (ha0 : 0 ≤ a0 ∧ a0 < 18446744073709551616) (ha1 : 0 ≤ a1 ∧ a1 < 18446744073709551616) (ha2 : 0 ≤ a2 ∧ a2 < 18446744073709551616) (ha3 : 0 ≤ a3 ∧ a3 < 18446744073709551616) (hb0 : 0 ≤ b0 ∧ b0 < 18446744073709551616) (hb1 : 0 ≤ b1 ∧ b1 < 18446744073709551616) (hb2 : 0 ≤ b2 ∧ b2 < 18446744073709551616) (hb3 : 0 ≤ b3 ∧ b3 < 18446744073709551616)
    (h0 : c0 = if a0 < b0 then 1 else 0) (h1 : c1 = if a1 < b1 + c0 then 1 else 0) (h2 : c2 = if a2 < b2 + c1 then 1 else 0) :
    (a0 - b0) % 18446744073709551616 = l0 (v4 a0 a1 a2 a3 - v4 b0 b1 b2 b3) ∧ (a1 - b1 - c0) % 18446744073709551616 = l1 (v4 a0 a1 a2 a3 - v4 b0 b1 b2 b3) ∧ (a2 - b2 - c1) % 18446744073709551616 = l2 (v4 a0 a1 a2 a3 - v4 b0 b1 b2 b3) ∧
    (a3 - b3 - c2) % 18446744073709551616 = l3 (v4 a0 a1 a2 a3 - v4 b0 b1 b2 b3) ∧ (if a3 < b3 + c2 then (1 : Int) else 0) = if v4 a0 a1 a2 a3 < v4 b0 b1 b2 b3 then 1 else 0 := by
  have e0 : c0 = -((a0 - b0) / 18446744073709551616) := by split at h0 <;> omega
  have e1 : c1 = -((a1 - b1 - c0) / 18446744073709551616) := by split at h1 <;> omega
  have e2 : c2 = -((a2 - b2 - c1) / 18446744073709551616) := by split at h2 <;> omega
  clear h0 h1 h2
  unfold v4 l0 l1 l2 l3
  refine ⟨?_, ?_, ?_, ?_, ?_⟩
  · omega
  · omega
  · omega
  · omega
  · split <;> split <;> omega
theorem s214s {a0 a1 a2 a3 b0 b1 b2 b3 : Int} (ha0 : 0 ≤ a0 ∧ a0 < 18446744073709551616) (ha1 : 0 ≤ a1 ∧ a1 < 18446744073709551616) (ha2 : 0 ≤ a2 ∧ a2 < 18446744073709551616) (ha3 : 0 ≤ a3 ∧ a3 < 18446744073709551616) (hb0 : 0 ≤ b0 ∧ b0 < 18446744073709551616) (hb1 : 0 ≤ b1 ∧ b1 < 18446744073709551616) (hb2 : 0 ≤ b2 ∧ b2 < 18446744073709551616) (hb3 : 0 ≤ b3 ∧ b3 < 18446744073709551616) :
    Sx.Spec Try.prog 214 [.c (.v (.func (.func 217) #[] #[])), .agg [.v (.int .u64 a0), .v (.int .u64 a1), .v (.int .u64 a2), .v (.int .u64 a3)], .agg [.v (.int .u64 b0), .v (.int .u64 b1), .v (.int .u64 b2), .v (.int .u64 b3)]] [] ⟨.tup [.agg [.v (.int .u64 (l0 (v4 a0 a1 a2 a3 - v4 b0 b1 b2 b3))), .v (.int .u64 (l1 (v4 a0 a1 a2 a3 - v4 b0 b1 b2 b3))), .v (.int .u64 (l2 (v4 a0 a1 a2 a3 - v4 b0 b1 b2 b3))), .v (.int .u64 (l3 (v4 a0 a1 a2 a3 - v4 b0 b1 b2 b3)))], .c (.v (.int .u64 (if v4 a0 a1 a2 a3 < v4 b0 b1 b2 b3 then 1 else 0)))], [], []⟩ := by
  have c0 : subB a0 b0 0 = if a0 < b0 then 1 else 0 := by rw [subB_eq ha0.1 hb0.1 (by omega), Int.add_zero]
  have p0 : 0 ≤ subB a0 b0 0 ∧ subB a0 b0 0 ≤ 1 := by rw [c0]; split <;> omega
  have c1 : subB a1 b1 (subB a0 b0 0) = if a1 < b1 + subB a0 b0 0 then 1 else 0 := subB_eq ha1.1 hb1.1 p0.1
  have p1 : 0 ≤ subB a1 b1 (subB a0 b0 0) ∧ subB a1 b1 (subB a0 b0 0) ≤ 1 := by rw [c1]; split <;> omega
  have c2 : subB a2 b2 (subB a1 b1 (subB a0 b0 0)) = if a2 < b2 + subB a1 b1 (subB a0 b0 0) then 1 else 0 := subB_eq ha2.1 hb2.1 p1.1
  have p2 : 0 ≤ subB a2 b2 (subB a1 b1 (subB a0 b0 0)) ∧ subB a2 b2 (subB a1 b1 (subB a0 b0 0)) ≤ 1 := by rw [c2]; split <;> omega
  obtain ⟨e0, e1, e2, e3, e4⟩ := sub4 ha0 ha1 ha2 ha3 hb0 hb1 hb2 hb3 c0 c1 c2
  refine spec_res (s214s_1 a0 a1 a2 a3 b0 b1 b2 b3 (by omega) (by omega) (by omega)) ?_
  rw [subS_eq ha0.1 hb0.1 hb0.2 (by omega) (by omega), subS_eq ha1.1 hb1.1 hb1.2 p0.1 p0.2, subS_eq ha2.1 hb2.1 hb2.2 p1.1 p1.2, subS_eq ha3.1 hb3.1 hb3.2 p2.1 p2.2, subB_eq ha3.1 hb3.1 p2.1, Int.sub_zero, e0, e1, e2, e3, e4]

def e214a : Entry := fun args ms => match args, ms with
  | [.c (.v (.func (.func 215) f g)), .agg [.v (.int .u64 a0), .v (.int .u64 a1), .v (.int .u64 a2), .v (.int .u64 a3)], .agg [.v (.int .u64 b0), .v (.int .u64 b1), .v (.int .u64 b2), .v (.int .u64 b3)]], [] => some (⟨.tup [.agg [.v (.int .u64 (l0 (v4 a0 a1 a2 a3 + v4 b0 b1 b2 b3))), .v (.int .u64 (l1 (v4 a0 a1 a2 a3 + v4 b0 b1 b2 b3))), .v (.int .u64 (l2 (v4 a0 a1 a2 a3 + v4 b0 b1 b2 b3))), .v (.int .u64 (l3 (v4 a0 a1 a2 a3 + v4 b0 b1 b2 b3)))], .c (.v (.int .u64 ((v4 a0 a1 a2 a3 + v4 b0 b1 b2 b3) / 115792089237316195423570985008687907853269984665640564039457584007913129639936)))], [], []⟩, [w64 a0, w64 a1, w64 a2, w64 a3, w64 b0, w64 b1, w64 b2, w64 b3, Nat.beq f.size 0, Nat.beq g.size 0])
  | _, _ => none
def e214s : Entry := fun args ms => match args, ms with
  | [.c (.v (.func (.func 217) f g)), .agg [.v (.int .u64 a0), .v (.int .u64 a1), .v (.int .u64 a2), .v (.int .u64 a3)], .agg [.v (.int .u64 b0), .v (.int .u64 b1), .v (.int .u64 b2), .v (.int .u64 b3)]], [] => some (⟨.tup [.agg [.v (.int .u64 (l0 (v4 a0 a1 a2 a3 - v4 b0 b1 b2 b3))), .v (.int .u64 (l1 (v4 a0 a1 a2 a3 - v4 b0 b1 b2 b3))), .v (.int .u64 (l2 (v4 a0 a1 a2 a3 - v4 b0 b1 b2 b3))), .v (.int .u64 (l3 (v4 a0 a1 a2 a3 - v4 b0 b1 b2 b3)))], .c (.v (.int .u64 (if v4 a0 a1 a2 a3 < v4 b0 b1 b2 b3 then 1 else 0)))], [], []⟩, [w64 a0, w64 a1, w64 a2, w64 a3, w64 b0, w64 b1, w64 b2, w64 b3, Nat.beq f.size 0, Nat.beq g.size 0])
  | _, _ => none
theorem e214a_ok : EntryOk Try.prog 214 e214a := by
  intro args ms r obs h ho
  unfold e214a at h
  split at h
  · cases h
    simp only [List.mem_cons, List.not_mem_nil, or_false, forall_eq_or_imp, forall_eq] at ho
    obtain ⟨h1, h2, h3, h4, h5, h6, h7, h8, h9, h10⟩ := ho
    have ha := Array.eq_empty_of_size_eq_zero (Nat.beq_eq.mp h9)
    have hb := Array.eq_empty_of_size_eq_zero (Nat.beq_eq.mp h10)
    subst ha
    subst hb
    exact s214a (w64_of h1) (w64_of h2) (w64_of h3) (w64_of h4) (w64_of h5) (w64_of h6) (w64_of h7) (w64_of h8)
  · cases h
theorem e214s_ok : EntryOk Try.prog 214 e214s := by
  intro args ms r obs h ho
  unfold e214s at h
  split at h
  · cases h
    simp only [List.mem_cons, List.not_mem_nil, or_false, forall_eq_or_imp, forall_eq] at ho
    obtain ⟨h1, h2, h3, h4, h5, h6, h7, h8, h9, h10⟩ := ho
    have ha := Array.eq_empty_of_size_eq_zero (Nat.beq_eq.mp h9)
    have hb := Array.eq_empty_of_size_eq_zero (Nat.beq_eq.mp h10)
    subst ha
    subst hb
    exact s214s (w64_of h1) (w64_of h2) (w64_of h3) (w64_of h4) (w64_of h5) (w64_of h6) (w64_of h7) (w64_of h8)
  · cases h
def libwb : List (Nat × Entry) := [(214, orE e214a e214s)]
theorem libwb_ok : AllOk Try.prog libwb := .cons (orE_ok e214a_ok e214s_ok) (.nil _)
end Go.Proofs.Ytmjejlbmcefaoaa
