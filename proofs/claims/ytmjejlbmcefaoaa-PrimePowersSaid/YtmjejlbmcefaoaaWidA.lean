/- Numbers of four words: sums and differences. -/
import Derived.Test.YtmjejlbmcefaoaaOctE
namespace Go.Proofs.Ytmjejlbmcefaoaa
open Go Sx

/-- a number of four words. -/
def v4 (a b c d : Int) : Int := a + 18446744073709551616 * (b + 18446744073709551616 * (c + 18446744073709551616 * d))
def l0 (n : Int) : Int := n % 18446744073709551616
def l1 (n : Int) : Int := n / 18446744073709551616 % 18446744073709551616
def l2 (n : Int) : Int := n / 340282366920938463463374607431768211456 % 18446744073709551616
def l3 (n : Int) : Int := n / 6277101735386680763835789423207666416102355444464034512896 % 18446744073709551616
def w64 (a : Int) : Bool := decide (0 ≤ a) && decide (a < 18446744073709551616)
def e215 : Entry := fun args ms => match args, ms with
  | [.c (.ptr 0 0), .c (.v (.int .u64 x)), .c (.v (.int .u64 y))], [⟨244, .rw, .cs [.v (.int .u64 c)]⟩] => some (⟨V.int .u64 (addS x y c), [(0, ⟨244, .rw, .cs [.v (.int .u64 (addC x y c))]⟩)], []⟩, [Nat.ble c.toNat 1])
  | _, _ => none
def e217 : Entry := fun args ms => match args, ms with
  | [.c (.ptr 0 0), .c (.v (.int .u64 x)), .c (.v (.int .u64 y))], [⟨244, .rw, .cs [.v (.int .u64 c)]⟩] => some (⟨V.int .u64 (subS x y c), [(0, ⟨244, .rw, .cs [.v (.int .u64 (subB x y c))]⟩)], []⟩, [Nat.ble c.toNat 1])
  | _, _ => none
def libwa : List (Nat × Entry) := [(215, e215), (217, e217)]
theorem s215_1 (x : Int) (y : Int) (c : Int) (h1 : Int.toNat c ≤ 1) : Sx.Spec Try.prog 215 [W.c (C.ptr 0 0), W.int IntKind.u64 x, W.int IntKind.u64 y] [Blk.mk 244 Mode.rw (K.cs [C.v (Value.int IntKind.u64 c)])] ⟨V.int IntKind.u64 (addS x y c), [(0, Blk.mk 244 Mode.rw (K.cs [C.v (Value.int IntKind.u64 (addC x y c))]))], []⟩ :=
  spec_of_whole (tab_ok libn_ok) mixed Try.func215 [] 1000000 [(0, none)] (by kernel_rfl) (by kernel_rfl) (by kernel_rfl) (by kernel_rfl) (by kernel_rfl) (by kernel_rfl)
    (ocons (bleT h1) (ocons rfl onil))
theorem s217_1 (x : Int) (y : Int) (c : Int) (h1 : Int.toNat c ≤ 1) : Sx.Spec Try.prog 217 [W.c (C.ptr 0 0), W.int IntKind.u64 x, W.int IntKind.u64 y] [Blk.mk 244 Mode.rw (K.cs [C.v (Value.int IntKind.u64 c)])] ⟨V.int IntKind.u64 (subS x y c), [(0, Blk.mk 244 Mode.rw (K.cs [C.v (Value.int IntKind.u64 (subB x y c))]))], []⟩ :=
  spec_of_whole (tab_ok libn_ok) mixed Try.func217 [] 1000000 [(0, none)] (by kernel_rfl) (by kernel_rfl) (by kernel_rfl) (by kernel_rfl) (by kernel_rfl) (by kernel_rfl)
    (ocons (bleT h1) (ocons rfl onil))

theorem e215_ok : EntryOk Try.prog 215 e215 := by
  intro args ms r obs h ho
  unfold e215 at h
  split at h
  · cases h; exact s215_1 _ _ _ (by simpa using ohead ho)
  · cases h
theorem e217_ok : EntryOk Try.prog 217 e217 := by
  intro args ms r obs h ho
  unfold e217 at h
  split at h
  · cases h; exact s217_1 _ _ _ (by simpa using ohead ho)
  · cases h
theorem libwa_ok : AllOk Try.prog libwa := .cons e215_ok (.cons e217_ok (.nil _))
theorem s214a_1 (a0 : Int) (a1 : Int) (a2 : Int) (a3 : Int) (b0 : Int) (b1 : Int) (b2 : Int) (b3 : Int) (h1 : Int.toNat (addC a0 b0 0) ≤ 1) (h2 : Int.toNat (addC a1 b1 (addC a0 b0 0)) ≤ 1) (h3 : Int.toNat (addC a2 b2 (addC a1 b1 (addC a0 b0 0))) ≤ 1) : Sx.Spec Try.prog 214 [W.c (C.v (Value.func (Fn.func 215) #[] #[])), W.agg [C.v (Value.int IntKind.u64 a0), C.v (Value.int IntKind.u64 a1), C.v (Value.int IntKind.u64 a2), C.v (Value.int IntKind.u64 a3)], W.agg [C.v (Value.int IntKind.u64 b0), C.v (Value.int IntKind.u64 b1), C.v (Value.int IntKind.u64 b2), C.v (Value.int IntKind.u64 b3)]] [] ⟨V.tup [W.agg [C.v (Value.int IntKind.u64 (addS a0 b0 0)), C.v (Value.int IntKind.u64 (addS a1 b1 (addC a0 b0 0))), C.v (Value.int IntKind.u64 (addS a2 b2 (addC a1 b1 (addC a0 b0 0)))), C.v (Value.int IntKind.u64 (addS a3 b3 (addC a2 b2 (addC a1 b1 (addC a0 b0 0)))))], W.int IntKind.u64 (addC a3 b3 (addC a2 b2 (addC a1 b1 (addC a0 b0 0))))], [], []⟩ :=
  spec_of_whole (tab_ok libwa_ok) mixed Try.func214 [] 1000000 [] (by kernel_rfl) (by kernel_rfl) (by kernel_rfl) (by kernel_rfl) (by kernel_rfl) (by kernel_rfl)
    (ocons rfl (ocons rfl (ocons rfl (ocons rfl (ocons rfl (ocons rfl (ocons rfl (ocons rfl (ocons rfl (ocons rfl (ocons rfl (ocons rfl (ocons (bleT h1) (ocons rfl (ocons rfl (ocons rfl (ocons rfl (ocons rfl (ocons rfl (ocons rfl (ocons (bleT h2) (ocons rfl (ocons rfl (ocons rfl (ocons rfl (ocons rfl (ocons rfl (ocons rfl (ocons (bleT h3) (ocons rfl (ocons rfl (ocons rfl (ocons rfl onil)))))))))))))))))))))))))))))))))
theorem s214s_1 (a0 : Int) (a1 : Int) (a2 : Int) (a3 : Int) (b0 : Int) (b1 : Int) (b2 : Int) (b3 : Int) (h1 : Int.toNat (subB a0 b0 0) ≤ 1) (h2 : Int.toNat (subB a1 b1 (subB a0 b0 0)) ≤ 1) (h3 : Int.toNat (subB a2 b2 (subB a1 b1 (subB a0 b0 0))) ≤ 1) : Sx.Spec Try.prog 214 [W.c (C.v (Value.func (Fn.func 217) #[] #[])), W.agg [C.v (Value.int IntKind.u64 a0), C.v (Value.int IntKind.u64 a1), C.v (Value.int IntKind.u64 a2), C.v (Value.int IntKind.u64 a3)], W.agg [C.v (Value.int IntKind.u64 b0), C.v (Value.int IntKind.u64 b1), C.v (Value.int IntKind.u64 b2), C.v (Value.int IntKind.u64 b3)]] [] ⟨V.tup [W.agg [C.v (Value.int IntKind.u64 (subS a0 b0 0)), C.v (Value.int IntKind.u64 (subS a1 b1 (subB a0 b0 0))), C.v (Value.int IntKind.u64 (subS a2 b2 (subB a1 b1 (subB a0 b0 0)))), C.v (Value.int IntKind.u64 (subS a3 b3 (subB a2 b2 (subB a1 b1 (subB a0 b0 0)))))], W.int IntKind.u64 (subB a3 b3 (subB a2 b2 (subB a1 b1 (subB a0 b0 0))))], [], []⟩ :=
  spec_of_whole (tab_ok libwa_ok) mixed Try.func214 [] 1000000 [] (by kernel_rfl) (by kernel_rfl) (by kernel_rfl) (by kernel_rfl) (by kernel_rfl) (by kernel_rfl)
    (ocons rfl (ocons rfl (ocons rfl (ocons rfl (ocons rfl (ocons rfl (ocons rfl (ocons rfl (ocons rfl (ocons rfl (ocons rfl (ocons rfl (ocons (bleT h1) (ocons rfl (ocons rfl (ocons rfl (ocons rfl (ocons rfl (ocons rfl (ocons rfl (ocons (bleT h2) (ocons rfl (ocons rfl (ocons rfl (ocons rfl (ocons rfl (ocons rfl (ocons rfl (ocons (bleT h3) (ocons rfl (ocons rfl (ocons rfl (ocons rfl onil)))))))))))))))))))))))))))))))))

theorem w64_of {a : Int} (h : w64 a = true) : 0 ≤ a ∧ a < 18446744073709551616 := by simpa [w64] using h
theorem addS_eq {x y c : Int} (hx : 0 ≤ x) (hy : 0 ≤ y) (hc : 0 ≤ c) : addS x y c = (x + y + c) % 18446744073709551616 := by
  unfold addS; rw [Int.ofNat_eq_natCast]; omega
theorem addC_eq {x y c : Int} (hx : 0 ≤ x) (hy : 0 ≤ y) (hc : 0 ≤ c) : addC x y c = (x + y + c) / 18446744073709551616 := by
  unfold addC; rw [Int.ofNat_eq_natCast]; omega
theorem subS_eq {x y c : Int} (hx : 0 ≤ x) (hy : 0 ≤ y) (hy' : y < 18446744073709551616) (hc : 0 ≤ c) (hc' : c ≤ 1) : subS x y c = (x - y - c) % 18446744073709551616 := by
  unfold subS; rw [Int.ofNat_eq_natCast]; omega
theorem subB_eq {x y c : Int} (hx : 0 ≤ x) (hy : 0 ≤ y) (hc : 0 ≤ c) : subB x y c = if x < y + c then 1 else 0 := by
  unfold subB; rw [Int.ofNat_eq_natCast]; split <;> split <;> omega
theorem v4_range {a b c d : Int} (ha : 0 ≤ a ∧ a < 18446744073709551616) (hb : 0 ≤ b ∧ b < 18446744073709551616) (hc : 0 ≤ c ∧ c < 18446744073709551616) (hd : 0 ≤ d ∧ d < 18446744073709551616) :
    0 ≤ v4 a b c d ∧ v4 a b c d < 115792089237316195423570985008687907853269984665640564039457584007913129639936 := by unfold v4; omega
theorem l_range (n : Int) : (0 ≤ l0 n ∧ l0 n < 18446744073709551616) ∧ (0 ≤ l1 n ∧ l1 n < 18446744073709551616) ∧ (0 ≤ l2 n ∧ l2 n < 18446744073709551616) ∧ (0 ≤ l3 n ∧ l3 n < 18446744073709551616) := by
  unfold l0 l1 l2 l3; omega
theorem v4_l {n : Int} (h : 0 ≤ n) (h' : n < 115792089237316195423570985008687907853269984665640564039457584007913129639936) : v4 (l0 n) (l1 n) (l2 n) (l3 n) = n := by
  unfold v4 l0 l1 l2 l3; omega
theorem l_v4 {a b c d : Int} (ha : 0 ≤ a ∧ a < 18446744073709551616) (hb : 0 ≤ b ∧ b < 18446744073709551616) (hc : 0 ≤ c ∧ c < 18446744073709551616) (hd : 0 ≤ d ∧ d < 18446744073709551616) :
    l0 (v4 a b c d) = a ∧ l1 (v4 a b c d) = b ∧ l2 (v4 a b c d) = c ∧ l3 (v4 a b c d) = d := by
  unfold v4 l0 l1 l2 l3; omega
/-- the words of a sum, one after the other. -/
theorem add4 {a0 a1 a2 a3 b0 b1 b2 b3 c0 c1 c2 : Int} (ha0 : 0 ≤ a0 ∧ a0 < 18446744073709551616) (ha1 : 0 ≤ a1 ∧ a1 < 18446744073709551616) (ha2 : 0 ≤ a2 ∧ a2 < 18446744073709551616) (ha3 : 0 ≤ a3 ∧ a3 < 18446744073709551616)
    (hb0 : 0 ≤ b0 ∧ b0 < 18446744073709551616) (hb1 : 0 ≤ b1 ∧ b1 < 18446744073709551616) (hb2 : 0 ≤ b2 ∧ b2 < 18446744073709551616) (hb3 : 0 ≤ b3 ∧ b3 < 18446744073709551616)
    (h0 : c0 = (a0 + b0) / 18446744073709551616) (h1 : c1 = (a1 + b1 + c0) / 18446744073709551616) (h2 : c2 = (a2 + b2 + c1) / 18446744073709551616) :
    (a0 + b0) % 18446744073709551616 = l0 (v4 a0 a1 a2 a3 + v4 b0 b1 b2 b3) ∧ (a1 + b1 + c0) % 18446744073709551616 = l1 (v4 a0 a1 a2 a3 + v4 b0 b1 b2 b3) ∧ (a2 + b2 + c1) % 18446744073709551616 = l2 (v4 a0 a1 a2 a3 + v4 b0 b1 b2 b3) ∧
    (a3 + b3 + c2) % 18446744073709551616 = l3 (v4 a0 a1 a2 a3 + v4 b0 b1 b2 b3) ∧ (a3 + b3 + c2) / 18446744073709551616 = (v4 a0 a1 a2 a3 + v4 b0 b1 b2 b3) / 115792089237316195423570985008687907853269984665640564039457584007913129639936 := by
  unfold v4 l0 l1 l2 l3
  refine ⟨?_, ?_, ?_, ?_, ?_⟩ <;> omega
end Go.Proofs.Ytmjejlbmcefaoaa
