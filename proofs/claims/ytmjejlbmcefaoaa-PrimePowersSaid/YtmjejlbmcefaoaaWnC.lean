/- Numbers of four words: sums, differences, what stands at their bits; by plain numbers. -/
import Derived.Test.YtmjejlbmcefaoaaWidD
import Derived.Test.YtmjejlbmcefaoaaWn
namespace Go.Proofs.Ytmjejlbmcefaoaa
open Go Sx

def b2n (b : Bool) : Nat := cond b 1 0
def r84 : List Nat → Res := fun ns => match ns with | [a, b] => ⟨.tup [.agg (numC (a + b)), .c (.u ((a + b) / 115792089237316195423570985008687907853269984665640564039457584007913129639936))], [], []⟩ | _ => ⟨.tup [], [], []⟩
def r87 : List Nat → Res := fun ns => match ns with | [a, b] => ⟨.tup [.agg (numC (a + (115792089237316195423570985008687907853269984665640564039457584007913129639936 - b))), .c (.u (b2n (Nat.blt a b)))], [], []⟩ | _ => ⟨.tup [], [], []⟩
def r89 : List Nat → Res := fun ns => match ns with | [a, b] => ⟨.tup [.agg (numC (a * b)), .agg (numC (a * b / 115792089237316195423570985008687907853269984665640564039457584007913129639936))], [], []⟩ | _ => ⟨.tup [], [], []⟩
def cmpN (a b : Nat) : Int := bif Nat.blt a b then -1 else bif Nat.beq a b then 0 else 1
def r91 : List Nat → Res := fun ns => match ns with | [a, b] => ⟨V.int .i64 (cmpN a b), [], []⟩ | _ => ⟨.tup [], [], []⟩
def remN (a b m : Nat) : Nat := bif Nat.beq m 0 then 0 else (a + 115792089237316195423570985008687907853269984665640564039457584007913129639936 * b) % m
def r93 : List Nat → Res := fun ns => match ns with | [a, b, m] => ⟨.w (.agg (numC (remN a b m))), [], []⟩ | _ => ⟨.tup [], [], []⟩
def r94 : List Nat → Res := fun ns => match ns with | [a] => ⟨V.bool (Nat.beq a 0), [], []⟩ | _ => ⟨.tup [], [], []⟩
def cmpI (a b : Int) : Int := bif decide (a < b) then -1 else bif decide (b < a) then 1 else 0
def lenI (n : Int) : Int := bif decide (n = 0) then 0 else ((Nat.log2 n.toNat + 1 : Nat) : Int)
def bitI (n : Nat) (i : Int) : Nat := bif decide (0 ≤ i) && decide (i < 256) then n / 2 ^ i.toNat % 2 else 0
def e220 : Entry := fun args ms => match args, ms with
  | [.c (.v (.int .u64 x)), .c (.v (.int .u64 y))], [] => some (⟨V.int .i64 (cmpI x y), [], []⟩, [])
  | _, _ => none
def e257 : Entry := fun args ms => match args, ms with
  | [.c (.v (.int .u64 _))], [] => some (⟨V.bool false, [], []⟩, [])
  | _, _ => none
def e222 : Entry := fun args ms => match args, ms with
  | [.c (.v (.int .u64 x))], [] => some (⟨V.int .i64 (lenI x), [], []⟩, [w64 x])
  | _, _ => none
def e101n : Entry := fun args ms => match args, ms with
  | [.agg l, .c (.v (.int .i64 i))], [] => match nums l with
    | some (n :: _, o) => some (⟨.w (.c (.u (bitI n i))), [], []⟩, Nat.beq l.length 4 :: o)
    | _ => none
  | _, _ => none

def len8 : ByteArray := (ByteArray.mk (List.toArray (List.append (List.append [OfNat.ofNat 0, OfNat.ofNat 1, OfNat.ofNat 2, OfNat.ofNat 2, OfNat.ofNat 3, OfNat.ofNat 3, OfNat.ofNat 3, OfNat.ofNat 3, OfNat.ofNat 4, OfNat.ofNat 4, OfNat.ofNat 4, OfNat.ofNat 4, OfNat.ofNat 4, OfNat.ofNat 4, OfNat.ofNat 4, OfNat.ofNat 4, OfNat.ofNat 5, OfNat.ofNat 5, OfNat.ofNat 5, OfNat.ofNat 5, OfNat.ofNat 5, OfNat.ofNat 5, OfNat.ofNat 5, OfNat.ofNat 5, OfNat.ofNat 5, OfNat.ofNat 5, OfNat.ofNat 5, OfNat.ofNat 5, OfNat.ofNat 5, OfNat.ofNat 5, OfNat.ofNat 5, OfNat.ofNat 5, OfNat.ofNat 6, OfNat.ofNat 6, OfNat.ofNat 6, OfNat.ofNat 6, OfNat.ofNat 6, OfNat.ofNat 6, OfNat.ofNat 6, OfNat.ofNat 6, OfNat.ofNat 6, OfNat.ofNat 6, OfNat.ofNat 6, OfNat.ofNat 6, OfNat.ofNat 6, OfNat.ofNat 6, OfNat.ofNat 6, OfNat.ofNat 6, OfNat.ofNat 6, OfNat.ofNat 6, OfNat.ofNat 6, OfNat.ofNat 6, OfNat.ofNat 6, OfNat.ofNat 6, OfNat.ofNat 6, OfNat.ofNat 6, OfNat.ofNat 6, OfNat.ofNat 6, OfNat.ofNat 6, OfNat.ofNat 6, OfNat.ofNat 6, OfNat.ofNat 6, OfNat.ofNat 6, OfNat.ofNat 6] [OfNat.ofNat 7, OfNat.ofNat 7, OfNat.ofNat 7, OfNat.ofNat 7, OfNat.ofNat 7, OfNat.ofNat 7, OfNat.ofNat 7, OfNat.ofNat 7, OfNat.ofNat 7, OfNat.ofNat 7, OfNat.ofNat 7, OfNat.ofNat 7, OfNat.ofNat 7, OfNat.ofNat 7, OfNat.ofNat 7, OfNat.ofNat 7, OfNat.ofNat 7, OfNat.ofNat 7, OfNat.ofNat 7, OfNat.ofNat 7, OfNat.ofNat 7, OfNat.ofNat 7, OfNat.ofNat 7, OfNat.ofNat 7, OfNat.ofNat 7, OfNat.ofNat 7, OfNat.ofNat 7, OfNat.ofNat 7, OfNat.ofNat 7, OfNat.ofNat 7, OfNat.ofNat 7, OfNat.ofNat 7, OfNat.ofNat 7, OfNat.ofNat 7, OfNat.ofNat 7, OfNat.ofNat 7, OfNat.ofNat 7, OfNat.ofNat 7, OfNat.ofNat 7, OfNat.ofNat 7, OfNat.ofNat 7, OfNat.ofNat 7, OfNat.ofNat 7, OfNat.ofNat 7, OfNat.ofNat 7, OfNat.ofNat 7, OfNat.ofNat 7, OfNat.ofNat 7, OfNat.ofNat 7, OfNat.ofNat 7, OfNat.ofNat 7, OfNat.ofNat 7, OfNat.ofNat 7, OfNat.ofNat 7, OfNat.ofNat 7, OfNat.ofNat 7, OfNat.ofNat 7, OfNat.ofNat 7, OfNat.ofNat 7, OfNat.ofNat 7, OfNat.ofNat 7, OfNat.ofNat 7, OfNat.ofNat 7, OfNat.ofNat 7]) (List.append [OfNat.ofNat 8, OfNat.ofNat 8, OfNat.ofNat 8, OfNat.ofNat 8, OfNat.ofNat 8, OfNat.ofNat 8, OfNat.ofNat 8, OfNat.ofNat 8, OfNat.ofNat 8, OfNat.ofNat 8, OfNat.ofNat 8, OfNat.ofNat 8, OfNat.ofNat 8, OfNat.ofNat 8, OfNat.ofNat 8, OfNat.ofNat 8, OfNat.ofNat 8, OfNat.ofNat 8, OfNat.ofNat 8, OfNat.ofNat 8, OfNat.ofNat 8, OfNat.ofNat 8, OfNat.ofNat 8, OfNat.ofNat 8, OfNat.ofNat 8, OfNat.ofNat 8, OfNat.ofNat 8, OfNat.ofNat 8, OfNat.ofNat 8, OfNat.ofNat 8, OfNat.ofNat 8, OfNat.ofNat 8, OfNat.ofNat 8, OfNat.ofNat 8, OfNat.ofNat 8, OfNat.ofNat 8, OfNat.ofNat 8, OfNat.ofNat 8, OfNat.ofNat 8, OfNat.ofNat 8, OfNat.ofNat 8, OfNat.ofNat 8, OfNat.ofNat 8, OfNat.ofNat 8, OfNat.ofNat 8, OfNat.ofNat 8, OfNat.ofNat 8, OfNat.ofNat 8, OfNat.ofNat 8, OfNat.ofNat 8, OfNat.ofNat 8, OfNat.ofNat 8, OfNat.ofNat 8, OfNat.ofNat 8, OfNat.ofNat 8, OfNat.ofNat 8, OfNat.ofNat 8, OfNat.ofNat 8, OfNat.ofNat 8, OfNat.ofNat 8, OfNat.ofNat 8, OfNat.ofNat 8, OfNat.ofNat 8, OfNat.ofNat 8] [OfNat.ofNat 8, OfNat.ofNat 8, OfNat.ofNat 8, OfNat.ofNat 8, OfNat.ofNat 8, OfNat.ofNat 8, OfNat.ofNat 8, OfNat.ofNat 8, OfNat.ofNat 8, OfNat.ofNat 8, OfNat.ofNat 8, OfNat.ofNat 8, OfNat.ofNat 8, OfNat.ofNat 8, OfNat.ofNat 8, OfNat.ofNat 8, OfNat.ofNat 8, OfNat.ofNat 8, OfNat.ofNat 8, OfNat.ofNat 8, OfNat.ofNat 8, OfNat.ofNat 8, OfNat.ofNat 8, OfNat.ofNat 8, OfNat.ofNat 8, OfNat.ofNat 8, OfNat.ofNat 8, OfNat.ofNat 8, OfNat.ofNat 8, OfNat.ofNat 8, OfNat.ofNat 8, OfNat.ofNat 8, OfNat.ofNat 8, OfNat.ofNat 8, OfNat.ofNat 8, OfNat.ofNat 8, OfNat.ofNat 8, OfNat.ofNat 8, OfNat.ofNat 8, OfNat.ofNat 8, OfNat.ofNat 8, OfNat.ofNat 8, OfNat.ofNat 8, OfNat.ofNat 8, OfNat.ofNat 8, OfNat.ofNat 8, OfNat.ofNat 8, OfNat.ofNat 8, OfNat.ofNat 8, OfNat.ofNat 8, OfNat.ofNat 8, OfNat.ofNat 8, OfNat.ofNat 8, OfNat.ofNat 8, OfNat.ofNat 8, OfNat.ofNat 8, OfNat.ofNat 8, OfNat.ofNat 8, OfNat.ofNat 8, OfNat.ofNat 8, OfNat.ofNat 8, OfNat.ofNat 8, OfNat.ofNat 8, OfNat.ofNat 8]))))
theorem s257_1 (x : Int) : Sx.Spec Try.prog 257 [W.int IntKind.u64 x] [] ⟨V.bool (x != x), [], []⟩ :=
  spec_of_whole (tab_ok libn_ok) mixed Try.func257 [] 1000000 [] (by kernel_rfl) (by kernel_rfl) (by kernel_rfl) (by kernel_rfl) (by kernel_rfl) (by kernel_rfl)
    onil


theorem e257_ok : EntryOk Try.prog 257 e257 := by
  intro args ms r obs h ho
  unfold e257 at h
  split at h
  · cases h
    exact spec_res (s257_1 _) (by simp)
  · cases h
def libc7 : List (Nat × Entry) := [(257, e257)]
theorem libc7_ok : AllOk Try.prog libc7 := .cons e257_ok (.nil _)
theorem s220_1 (x : Int) (y : Int) (h1 : x < y) : Sx.Spec Try.prog 220 [W.int IntKind.u64 x, W.int IntKind.u64 y] [] ⟨V.int IntKind.i64 (-1), [], []⟩ :=
  spec_of_whole (tab_ok libc7_ok) mixed Try.func220 [(16, true)] 1000000 [] (by kernel_rfl) (by kernel_rfl) (by kernel_rfl) (by kernel_rfl) (by kernel_rfl) (by kernel_rfl)
    (ocons (decide_eq_true h1) onil)
theorem s220_2 (x : Int) (y : Int) (h1 : ¬x < y) (h2 : x > y) : Sx.Spec Try.prog 220 [W.int IntKind.u64 x, W.int IntKind.u64 y] [] ⟨V.int IntKind.i64 1, [], []⟩ :=
  spec_of_whole (tab_ok libc7_ok) mixed Try.func220 [(16, false), (19, true)] 1000000 [] (by kernel_rfl) (by kernel_rfl) (by kernel_rfl) (by kernel_rfl) (by kernel_rfl) (by kernel_rfl)
    (ocons (ndec h1) (ocons (decide_eq_true h2) onil))
theorem s220_3 (x : Int) (y : Int) (h1 : ¬x < y) (h2 : ¬x > y) : Sx.Spec Try.prog 220 [W.int IntKind.u64 x, W.int IntKind.u64 y] [] ⟨V.int IntKind.i64 0, [], []⟩ :=
  spec_of_whole (tab_ok libc7_ok) mixed Try.func220 [(16, false), (19, false)] 1000000 [] (by kernel_rfl) (by kernel_rfl) (by kernel_rfl) (by kernel_rfl) (by kernel_rfl) (by kernel_rfl)
    (ocons (ndec h1) (ocons (ndec h2) onil))


theorem s220 (x y : Int) : Sx.Spec Try.prog 220 [W.int .u64 x, W.int .u64 y] [] ⟨V.int .i64 (cmpI x y), [], []⟩ := by
  by_cases h1 : x < y
  · exact spec_res (s220_1 x y h1) (by simp [cmpI, h1])
  · by_cases h2 : y < x
    · exact spec_res (s220_2 x y h1 h2) (by simp [cmpI, h1, h2])
    · exact spec_res (s220_3 x y h1 h2) (by simp [cmpI, h1, h2])
theorem e220_ok : EntryOk Try.prog 220 e220 := by
  intro args ms r obs h ho
  unfold e220 at h
  split at h
  · cases h
    exact s220 _ _
  · cases h
set_option maxRecDepth 4000 in
theorem s222_1 (x : Int) (h1 : x ≥ 4294967296) (h2 : Int.fdiv x 4294967296 ≥ 65536) (h3 : Int.fdiv (Int.fdiv x 4294967296) 65536 ≥ 256) (h4 : 0 ≤ IntKind.wrap IntKind.u8 (Int.fdiv (Int.fdiv (Int.fdiv x 4294967296) 65536) 256)) (h5 : IntKind.wrap IntKind.u8 (Int.fdiv (Int.fdiv (Int.fdiv x 4294967296) 65536) 256) < 256) : Sx.Spec Try.prog 222 [W.int IntKind.u64 x] [] ⟨V.int IntKind.i64 (IntKind.wrap IntKind.i64 (56 + IntKind.wrap IntKind.i64 (bt len8 (IntKind.wrap IntKind.u8 (Int.fdiv (Int.fdiv (Int.fdiv x 4294967296) 65536) 256))))), [], []⟩ :=
  spec_of_whole (tab_ok libn_ok) mixed Try.func222 [(4, true), (8, true), (14, true)] 1000000 [] (by kernel_rfl) (by kernel_rfl) (by kernel_rfl) (by kernel_rfl) (by kernel_rfl) (by kernel_rfl)
    (ocons (decide_eq_true h1) (ocons rfl (ocons (decide_eq_true h2) (ocons rfl (ocons (decide_eq_true h3) (ocons rfl (ocons (decide_eq_true h4) (ocons (decide_eq_true h5) onil))))))))
set_option maxRecDepth 4000 in
theorem s222_2 (x : Int) (h1 : x ≥ 4294967296) (h2 : Int.fdiv x 4294967296 ≥ 65536) (h3 : ¬Int.fdiv (Int.fdiv x 4294967296) 65536 ≥ 256) (h4 : 0 ≤ IntKind.wrap IntKind.u8 (Int.fdiv (Int.fdiv x 4294967296) 65536)) (h5 : IntKind.wrap IntKind.u8 (Int.fdiv (Int.fdiv x 4294967296) 65536) < 256) : Sx.Spec Try.prog 222 [W.int IntKind.u64 x] [] ⟨V.int IntKind.i64 (IntKind.wrap IntKind.i64 (48 + IntKind.wrap IntKind.i64 (bt len8 (IntKind.wrap IntKind.u8 (Int.fdiv (Int.fdiv x 4294967296) 65536))))), [], []⟩ :=
  spec_of_whole (tab_ok libn_ok) mixed Try.func222 [(4, true), (8, true), (14, false)] 1000000 [] (by kernel_rfl) (by kernel_rfl) (by kernel_rfl) (by kernel_rfl) (by kernel_rfl) (by kernel_rfl)
    (ocons (decide_eq_true h1) (ocons rfl (ocons (decide_eq_true h2) (ocons rfl (ocons (ndec h3) (ocons (decide_eq_true h4) (ocons (decide_eq_true h5) onil)))))))
set_option maxRecDepth 4000 in
theorem s222_3 (x : Int) (h1 : x ≥ 4294967296) (h2 : ¬Int.fdiv x 4294967296 ≥ 65536) (h3 : Int.fdiv x 4294967296 ≥ 256) (h4 : 0 ≤ IntKind.wrap IntKind.u8 (Int.fdiv (Int.fdiv x 4294967296) 256)) (h5 : IntKind.wrap IntKind.u8 (Int.fdiv (Int.fdiv x 4294967296) 256) < 256) : Sx.Spec Try.prog 222 [W.int IntKind.u64 x] [] ⟨V.int IntKind.i64 (IntKind.wrap IntKind.i64 (40 + IntKind.wrap IntKind.i64 (bt len8 (IntKind.wrap IntKind.u8 (Int.fdiv (Int.fdiv x 4294967296) 256))))), [], []⟩ :=
  spec_of_whole (tab_ok libn_ok) mixed Try.func222 [(4, true), (8, false), (14, true)] 1000000 [] (by kernel_rfl) (by kernel_rfl) (by kernel_rfl) (by kernel_rfl) (by kernel_rfl) (by kernel_rfl)
    (ocons (decide_eq_true h1) (ocons rfl (ocons (ndec h2) (ocons (decide_eq_true h3) (ocons rfl (ocons (decide_eq_true h4) (ocons (decide_eq_true h5) onil)))))))
set_option maxRecDepth 4000 in
theorem s222_4 (x : Int) (h1 : x ≥ 4294967296) (h2 : ¬Int.fdiv x 4294967296 ≥ 65536) (h3 : ¬Int.fdiv x 4294967296 ≥ 256) (h4 : 0 ≤ IntKind.wrap IntKind.u8 (Int.fdiv x 4294967296)) (h5 : IntKind.wrap IntKind.u8 (Int.fdiv x 4294967296) < 256) : Sx.Spec Try.prog 222 [W.int IntKind.u64 x] [] ⟨V.int IntKind.i64 (IntKind.wrap IntKind.i64 (32 + IntKind.wrap IntKind.i64 (bt len8 (IntKind.wrap IntKind.u8 (Int.fdiv x 4294967296))))), [], []⟩ :=
  spec_of_whole (tab_ok libn_ok) mixed Try.func222 [(4, true), (8, false), (14, false)] 1000000 [] (by kernel_rfl) (by kernel_rfl) (by kernel_rfl) (by kernel_rfl) (by kernel_rfl) (by kernel_rfl)
    (ocons (decide_eq_true h1) (ocons rfl (ocons (ndec h2) (ocons (ndec h3) (ocons (decide_eq_true h4) (ocons (decide_eq_true h5) onil))))))
set_option maxRecDepth 4000 in
theorem s222_5 (x : Int) (h1 : ¬x ≥ 4294967296) (h2 : x ≥ 65536) (h3 : Int.fdiv x 65536 ≥ 256) (h4 : 0 ≤ IntKind.wrap IntKind.u8 (Int.fdiv (Int.fdiv x 65536) 256)) (h5 : IntKind.wrap IntKind.u8 (Int.fdiv (Int.fdiv x 65536) 256) < 256) : Sx.Spec Try.prog 222 [W.int IntKind.u64 x] [] ⟨V.int IntKind.i64 (IntKind.wrap IntKind.i64 (24 + IntKind.wrap IntKind.i64 (bt len8 (IntKind.wrap IntKind.u8 (Int.fdiv (Int.fdiv x 65536) 256))))), [], []⟩ :=
  spec_of_whole (tab_ok libn_ok) mixed Try.func222 [(4, false), (8, true), (14, true)] 1000000 [] (by kernel_rfl) (by kernel_rfl) (by kernel_rfl) (by kernel_rfl) (by kernel_rfl) (by kernel_rfl)
    (ocons (ndec h1) (ocons (decide_eq_true h2) (ocons rfl (ocons (decide_eq_true h3) (ocons rfl (ocons (decide_eq_true h4) (ocons (decide_eq_true h5) onil)))))))
set_option maxRecDepth 4000 in
theorem s222_6 (x : Int) (h1 : ¬x ≥ 4294967296) (h2 : x ≥ 65536) (h3 : ¬Int.fdiv x 65536 ≥ 256) (h4 : 0 ≤ IntKind.wrap IntKind.u8 (Int.fdiv x 65536)) (h5 : IntKind.wrap IntKind.u8 (Int.fdiv x 65536) < 256) : Sx.Spec Try.prog 222 [W.int IntKind.u64 x] [] ⟨V.int IntKind.i64 (IntKind.wrap IntKind.i64 (16 + IntKind.wrap IntKind.i64 (bt len8 (IntKind.wrap IntKind.u8 (Int.fdiv x 65536))))), [], []⟩ :=
  spec_of_whole (tab_ok libn_ok) mixed Try.func222 [(4, false), (8, true), (14, false)] 1000000 [] (by kernel_rfl) (by kernel_rfl) (by kernel_rfl) (by kernel_rfl) (by kernel_rfl) (by kernel_rfl)
    (ocons (ndec h1) (ocons (decide_eq_true h2) (ocons rfl (ocons (ndec h3) (ocons (decide_eq_true h4) (ocons (decide_eq_true h5) onil))))))
set_option maxRecDepth 4000 in
theorem s222_7 (x : Int) (h1 : ¬x ≥ 4294967296) (h2 : ¬x ≥ 65536) (h3 : x ≥ 256) (h4 : 0 ≤ IntKind.wrap IntKind.u8 (Int.fdiv x 256)) (h5 : IntKind.wrap IntKind.u8 (Int.fdiv x 256) < 256) : Sx.Spec Try.prog 222 [W.int IntKind.u64 x] [] ⟨V.int IntKind.i64 (IntKind.wrap IntKind.i64 (8 + IntKind.wrap IntKind.i64 (bt len8 (IntKind.wrap IntKind.u8 (Int.fdiv x 256))))), [], []⟩ :=
  spec_of_whole (tab_ok libn_ok) mixed Try.func222 [(4, false), (8, false), (14, true)] 1000000 [] (by kernel_rfl) (by kernel_rfl) (by kernel_rfl) (by kernel_rfl) (by kernel_rfl) (by kernel_rfl)
    (ocons (ndec h1) (ocons (ndec h2) (ocons (decide_eq_true h3) (ocons rfl (ocons (decide_eq_true h4) (ocons (decide_eq_true h5) onil))))))
set_option maxRecDepth 4000 in
theorem s222_8 (x : Int) (h1 : ¬x ≥ 4294967296) (h2 : ¬x ≥ 65536) (h3 : ¬x ≥ 256) (h4 : 0 ≤ IntKind.wrap IntKind.u8 x) (h5 : IntKind.wrap IntKind.u8 x < 256) : Sx.Spec Try.prog 222 [W.int IntKind.u64 x] [] ⟨V.int IntKind.i64 (IntKind.wrap IntKind.i64 (0 + IntKind.wrap IntKind.i64 (bt len8 (IntKind.wrap IntKind.u8 x)))), [], []⟩ :=
  spec_of_whole (tab_ok libn_ok) mixed Try.func222 [(4, false), (8, false), (14, false)] 1000000 [] (by kernel_rfl) (by kernel_rfl) (by kernel_rfl) (by kernel_rfl) (by kernel_rfl) (by kernel_rfl)
    (ocons (ndec h1) (ocons (ndec h2) (ocons (ndec h3) (ocons (decide_eq_true h4) (ocons (decide_eq_true h5) onil)))))


theorem len8_ok : ∀ i, i < 256 → bt len8 ((i : Nat) : Int) = lenI (i : Nat) := by decide +kernel
theorem lenI_shift {x : Int} (k : Nat) (h : (2 : Int) ^ k ≤ x) : lenI x = k + lenI (x.fdiv (2 ^ k)) := by
  have h0 : (0 : Int) < 2 ^ k := Int.pow_pos (by decide)
  obtain ⟨n, rfl⟩ := nat_of (n := x) (by omega)
  have hp : ((2 : Int) ^ k) = ((2 ^ k : Nat) : Int) := by simp
  rw [hp] at h ⊢
  have h' : 2 ^ k ≤ n := by omega
  have e : ((n : Int).fdiv ((2 ^ k : Nat) : Int)) = ((n / 2 ^ k : Nat) : Int) := by
    rw [Int.fdiv_eq_ediv_of_nonneg _ (by omega)]; rfl
  rw [e]
  have hn : n ≠ 0 := by have := Nat.pow_pos (n := k) (show 0 < 2 by decide); omega
  have hd : n / 2 ^ k ≠ 0 := by
    have := Nat.div_pos h' (Nat.pow_pos (n := k) (show 0 < 2 by decide))
    omega
  have hl : Nat.log2 n = k + Nat.log2 (n / 2 ^ k) := by
    rw [Nat.log2_eq_iff hn]
    obtain ⟨a, b⟩ := (Nat.log2_eq_iff hd).1 rfl
    generalize Nat.log2 (n / 2 ^ k) = j at *
    rw [Nat.pow_add, show k + j + 1 = k + (j + 1) by omega, Nat.pow_add]
    have hm := Nat.div_add_mod n (2 ^ k)
    have hlt := Nat.mod_lt n (Nat.pow_pos (n := k) (show 0 < 2 by decide))
    constructor
    · calc 2 ^ k * 2 ^ j ≤ 2 ^ k * (n / 2 ^ k) := Nat.mul_le_mul_left _ a
        _ ≤ n := by omega
    · have : 2 ^ k * (n / 2 ^ k + 1) ≤ 2 ^ k * 2 ^ (j + 1) := Nat.mul_le_mul_left _ b
      rw [Nat.mul_add] at this
      omega
  unfold lenI
  have i1 : decide (((n : Nat) : Int) = 0) = false := by simp [hn]
  have i2 : decide (((n / 2 ^ k : Nat) : Int) = 0) = false := by
    rw [decide_eq_false_iff_not]; omega
  rw [i1, i2]
  simp only [cond_false, Int.toNat_natCast, hl]
  omega
theorem lenI_range {x : Int} (h0 : 0 ≤ x) (h1 : x < 18446744073709551616) : 0 ≤ lenI x ∧ lenI x ≤ 64 := by
  unfold lenI
  cases h : decide (x = 0) with
  | true => simp
  | false =>
    simp only [cond_false]
    have := Nat.log2_lt (n := x.toNat) (k := 64) (by simp at h; omega)
    have : x.toNat.log2 < 64 := this.2 (by omega)
    omega
theorem s222 {x : Int} (hx : 0 ≤ x ∧ x < 18446744073709551616) : Sx.Spec Try.prog 222 [W.int .u64 x] [] ⟨V.int .i64 (lenI x), [], []⟩ := by
  have tb : ∀ y : Int, 0 ≤ y → y < 256 → bt len8 (IntKind.wrap .u8 y) = lenI y := by
    intro y h0 h1
    obtain ⟨n, rfl⟩ := nat_of h0
    rw [wrap_u8, Int.emod_eq_of_lt h0 h1]
    exact len8_ok n (by omega)
  have w8 : ∀ y : Int, 0 ≤ IntKind.wrap .u8 y ∧ IntKind.wrap .u8 y < 256 := by intro y; rw [wrap_u8]; omega
  have fd : ∀ (y : Int) (m : Int), 0 ≤ m → y.fdiv m = y / m := fun y m h => Int.fdiv_eq_ediv_of_nonneg y h
  have fin : ∀ (c y : Int), 0 ≤ c → c ≤ 56 → 0 ≤ y → y < 256 → IntKind.wrap .i64 (c + IntKind.wrap .i64 (bt len8 (IntKind.wrap .u8 y))) = c + lenI y := by
    intro c y h0 h1 h2 h3
    rw [tb y h2 h3]
    have := lenI_range h2 (by omega)
    rw [i64w (n := lenI y) (by omega) (by omega), i64w] <;> omega
  have l32 := fun (y : Int) (h : y ≥ 4294967296) => lenI_shift 32 (x := y) (by omega)
  have l16 := fun (y : Int) (h : y ≥ 65536) => lenI_shift 16 (x := y) (by omega)
  have l8 := fun (y : Int) (h : y ≥ 256) => lenI_shift 8 (x := y) (by omega)
  have e32 : (2 : Int) ^ 32 = 4294967296 := rfl
  have e16 : (2 : Int) ^ 16 = 65536 := rfl
  have e8 : (2 : Int) ^ 8 = 256 := rfl
  rw [e32] at l32; rw [e16] at l16; rw [e8] at l8
  by_cases h1 : x ≥ 4294967296
  · rw [l32 x h1]
    by_cases h2 : Int.fdiv x 4294967296 ≥ 65536
    · rw [l16 _ h2]
      by_cases h3 : Int.fdiv (Int.fdiv x 4294967296) 65536 ≥ 256
      · rw [l8 _ h3]
        refine spec_res (s222_1 x h1 h2 h3 (w8 _).1 (w8 _).2) ?_
        rw [fin] <;> (try (rw [fd _ _ (by decide), fd _ _ (by decide), fd _ _ (by decide)])) <;> first | omega | (congr 2 <;> omega)
      · refine spec_res (s222_2 x h1 h2 h3 (w8 _).1 (w8 _).2) ?_
        have h3' := h3
        rw [fd _ _ (by decide), fd _ _ (by decide)] at h3'
        rw [fin] <;> (try (rw [fd _ _ (by decide), fd _ _ (by decide)])) <;> first | omega | (congr 2 <;> omega)
    · by_cases h3 : Int.fdiv x 4294967296 ≥ 256
      · rw [l8 _ h3]
        refine spec_res (s222_3 x h1 h2 h3 (w8 _).1 (w8 _).2) ?_
        have h2' := h2
        rw [fd _ _ (by decide)] at h2'
        rw [fin] <;> (try (rw [fd _ _ (by decide), fd _ _ (by decide)])) <;> first | omega | (congr 2 <;> omega)
      · refine spec_res (s222_4 x h1 h2 h3 (w8 _).1 (w8 _).2) ?_
        have h3' := h3
        rw [fd _ _ (by decide)] at h3'
        rw [fin] <;> (try (rw [fd _ _ (by decide)])) <;> first | omega | (congr 2 <;> omega)
  · by_cases h2 : x ≥ 65536
    · rw [l16 _ h2]
      by_cases h3 : Int.fdiv x 65536 ≥ 256
      · rw [l8 _ h3]
        refine spec_res (s222_5 x h1 h2 h3 (w8 _).1 (w8 _).2) ?_
        rw [fin] <;> (try (rw [fd _ _ (by decide), fd _ _ (by decide)])) <;> first | omega | (congr 2 <;> omega)
      · refine spec_res (s222_6 x h1 h2 h3 (w8 _).1 (w8 _).2) ?_
        have h3' := h3
        rw [fd _ _ (by decide)] at h3'
        rw [fin] <;> (try (rw [fd _ _ (by decide)])) <;> first | omega | (congr 2 <;> omega)
    · by_cases h3 : x ≥ 256
      · rw [l8 _ h3]
        refine spec_res (s222_7 x h1 h2 h3 (w8 _).1 (w8 _).2) ?_
        rw [fin] <;> (try (rw [fd _ _ (by decide)])) <;> first | omega | (congr 2 <;> omega)
      · refine spec_res (s222_8 x h1 h2 h3 (w8 _).1 (w8 _).2) ?_
        rw [fin] <;> first | omega | (congr 2 <;> omega)
theorem e222_ok : EntryOk Try.prog 222 e222 := by
  intro args ms r obs h ho
  unfold e222 at h
  split at h
  · cases h
    exact s222 (w64_of (ohead ho))
  · cases h
end Go.Proofs.Ytmjejlbmcefaoaa
