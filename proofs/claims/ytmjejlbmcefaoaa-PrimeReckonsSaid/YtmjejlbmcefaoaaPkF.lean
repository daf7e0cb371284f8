/- A symbolic executor, checked once, and what it shows of the functions: part 6. -/
import Derived.Test.YtmjejlbmcefaoaaPkE
import Derived.Test.YtmjejlbmcefaoaaProg
namespace Go.Proofs.Ytmjejlbmcefaoaa
open Go Sx

theorem mixed : Try.prog.follows .mixedOrders = true := by kernel_rfl
theorem noRoutines : (Try.prog.funcs.toList.all fun fn => !(fn.name == "runtime.NumGoroutine")) = true := by kernel_rfl
theorem laid : laidOutB Try.prog = true := by kernel_rfl
theorem ext219 : extName Try.prog 219 "math/bits.Add64" (carryRow 0) := ⟨Try.f219, Try.func219, by kernel_rfl, by kernel_rfl, by kernel_rfl, by kernel_rfl, by kernel_rfl⟩
theorem ext256 : extName Try.prog 256 "math/bits.Sub64" (carryRow 1) := ⟨Try.f256, Try.func256, by kernel_rfl, by kernel_rfl, by kernel_rfl, by kernel_rfl, by kernel_rfl⟩

/-- types whose '==' is held cell by cell: [4]uint64, wide.Num, prime.El, curve.Point. -/
def eqTypes : List (TypeId × List Nat) := [(79, [0, 0, 0, 0]), (80, [0, 0, 0, 0]), (106, [0, 0, 0, 0]), (129, [0, 0, 0, 0, 0, 0, 0, 0, 0, 0, 0, 0, 0, 0, 0, 0])]
theorem eqTypes_ok : eqListOk Try.prog eqTypes = true := by kernel_rfl

abbrev tab (l : List (Nat × Entry)) : Tab := tabOf l 219 256 eqTypes
theorem tab_ok {l : List (Nat × Entry)} (h : AllOk Try.prog l) : TabOk Try.prog (tab l) := tabOf_ok h noRoutines ext219 ext256 eqTypes_ok

end Go.Proofs.Ytmjejlbmcefaoaa
namespace Go.Proofs.Ytmjejlbmcefaoaa
open Go Sx

abbrev u64 (n : Int) : Int := IntKind.u64.wrap n
abbrev i64 (n : Int) : Int := IntKind.i64.wrap n

def shl (k : IntKind) (a b : Int) : Int := k.wrap (a * 2 ^ (min b.toNat k.bits))
def orI (k : IntKind) (a b : Int) : Int := k.wrap (BitVec.ofInt k.bits a ||| BitVec.ofInt k.bits b).toNat
def andI (k : IntKind) (a b : Int) : Int := k.wrap (BitVec.ofInt k.bits a &&& BitVec.ofInt k.bits b).toNat
theorem i64_id {n : Int} (h0 : -9223372036854775808 ≤ n) (h1 : n ≤ 9223372036854775807) : i64 n = n := by
  simp only [IntKind.wrap, IntKind.signed, IntKind.bits]
  simp
  omega

end Go.Proofs.Ytmjejlbmcefaoaa
namespace Go.Proofs.Ytmjejlbmcefaoaa
open Go Sx

end Go.Proofs.Ytmjejlbmcefaoaa
namespace Go.Proofs.Ytmjejlbmcefaoaa
open Go Sx

theorem wrap_u64 (n : Int) : u64 n = n % 18446744073709551616 := by simp [IntKind.wrap, IntKind.signed, IntKind.bits]
theorem wrap_u8 (n : Int) : IntKind.u8.wrap n = n % 256 := by simp [IntKind.wrap, IntKind.signed, IntKind.bits]

/-- an unsigned kind's number of bits. -/
def uns (k : IntKind) : Prop := k.signed = false
theorem wrap_nat {k : IntKind} (hk : uns k) (n : Nat) : k.wrap (n : Int) = ((n % 2 ^ k.bits : Nat) : Int) := by
  unfold uns at hk
  simp [IntKind.wrap, hk]

theorem ofInt_nat (b n : Nat) : BitVec.ofInt b (n : Int) = BitVec.ofNat b n := by simp

theorem orI_nat {k : IntKind} (hk : uns k) {a b : Nat} (ha : a < 2 ^ k.bits) (hb : b < 2 ^ k.bits) : orI k a b = ((a ||| b : Nat) : Int) := by
  unfold orI
  rw [ofInt_nat, ofInt_nat, wrap_nat hk]
  simp only [BitVec.toNat_or, BitVec.toNat_ofNat, Nat.mod_eq_of_lt ha, Nat.mod_eq_of_lt hb]
  rw [Nat.mod_eq_of_lt (Nat.or_lt_two_pow ha hb)]
theorem andI_nat {k : IntKind} (hk : uns k) {a b : Nat} (ha : a < 2 ^ k.bits) (hb : b < 2 ^ k.bits) : andI k a b = ((a &&& b : Nat) : Int) := by
  unfold andI
  rw [ofInt_nat, ofInt_nat, wrap_nat hk]
  simp only [BitVec.toNat_and, BitVec.toNat_ofNat, Nat.mod_eq_of_lt ha, Nat.mod_eq_of_lt hb]
  rw [Nat.mod_eq_of_lt (Nat.and_lt_two_pow _ hb)]
theorem shl_nat {k : IntKind} (hk : uns k) (a b : Nat) : shl k a b = (((a <<< b) % 2 ^ k.bits : Nat) : Int) := by
  unfold shl
  have : ((a : Int) * 2 ^ (min ((b : Int)).toNat k.bits)) = ((a * 2 ^ (min b k.bits) : Nat) : Int) := by simp
  rw [this, wrap_nat hk]
  congr 1
  rw [Nat.shiftLeft_eq]
  rcases Nat.lt_or_ge k.bits b with h | h
  · rw [Nat.min_eq_right (by omega), Nat.mul_mod_left]
    obtain ⟨c, rfl⟩ : ∃ c, b = k.bits + c := ⟨b - k.bits, by omega⟩
    rw [Nat.pow_add, ← Nat.mul_assoc, Nat.mul_right_comm, Nat.mul_mod_left]
  · rw [Nat.min_eq_left h]
theorem un64 : uns .u64 := rfl
theorem bits64 : IntKind.u64.bits = 64 := rfl
/-- a word's number. -/
theorem nat_of_wf64 {n : Int} (h : (Lit.int .u64 n).wf = true) : ∃ m : Nat, n = m ∧ m < 2 ^ 64 := by
  simp [Lit.wf, IntKind.min, IntKind.max, IntKind.signed, IntKind.bits] at h
  exact ⟨n.toNat, by omega, by omega⟩
end Go.Proofs.Ytmjejlbmcefaoaa
namespace Go.Proofs.Ytmjejlbmcefaoaa
open Go Sx

/-- a text's bytes. -/
abbrev bl (s : ByteArray) : List UInt8 := s.data.toList

theorem bl_inj {a b : ByteArray} (h : bl a = bl b) : a = b := ByteArray.ext (Array.toList_inj.1 h)
theorem bl_append (a b : ByteArray) : bl (a ++ b) = bl a ++ bl b := by simp [bl]
theorem bl_strOf (l : List Int) : bl (strOf l) = l.map fun n => UInt8.ofNat n.toNat := by simp [bl, strOf]
theorem size_bl (s : ByteArray) : s.size = (bl s).length := by simp [bl]
theorem bytesOf_bl (s : ByteArray) : bytesOf s = (bl s).map fun b => (b.toNat : Int) := rfl
theorem strOf_append (a b : List Int) : strOf (a ++ b) = strOf a ++ strOf b := by
  apply bl_inj
  rw [bl_append, bl_strOf, bl_strOf, bl_strOf, List.map_append]
theorem empty_append (a : ByteArray) : ByteArray.empty ++ a = a := by
  apply bl_inj
  rw [bl_append]; rfl
theorem strOf_size (l : List Int) : (strOf l).size = l.length := by rw [size_bl, bl_strOf, List.length_map]
theorem bytesOf_length (s : ByteArray) : (bytesOf s).length = s.size := by rw [bytesOf_bl, List.length_map, size_bl]
theorem bytesOf_strOf {l : List Int} (h : ∀ n ∈ l, 0 ≤ n ∧ n < 256) : bytesOf (strOf l) = l := by
  rw [bytesOf_bl, bl_strOf, List.map_map]
  conv => rhs; rw [← List.map_id l]
  apply List.map_congr_left
  intro n hn
  have := h n hn
  simp only [Function.comp, UInt8.toNat_ofNat', id]
  omega
theorem bytesOf_range (s : ByteArray) : ∀ n ∈ bytesOf s, 0 ≤ n ∧ n < 256 := by
  intro n hn
  rw [bytesOf_bl] at hn
  obtain ⟨b, _, rfl⟩ := List.mem_map.1 hn
  have := b.toNat_lt
  omega
theorem bt_eq (s : ByteArray) (i : Int) : bt s i = (bytesOf s).getD i.toNat 0 := by
  unfold bt
  rw [bytesOf_bl]
  simp only [List.getD, List.getElem?_map]
  have : s[i.toNat]? = (bl s)[i.toNat]? := by
    rcases Nat.lt_or_ge i.toNat s.size with h | h
    · rw [getElem?_pos s i.toNat h, List.getElem?_eq_getElem (by rw [← size_bl]; exact h)]
      rfl
    · rw [getElem?_neg s i.toNat (by omega), List.getElem?_eq_none (by rw [← size_bl]; exact h)]
  rw [this]
  cases (bl s)[i.toNat]? <;> rfl
end Go.Proofs.Ytmjejlbmcefaoaa
namespace Go.Proofs.Ytmjejlbmcefaoaa
open Go Sx
theorem ndec {p : Prop} [Decidable p] (h : ¬p) : (!decide p) = true := by simp [h]
theorem bltT {a b : Nat} (h : a < b) : Nat.blt a b = true := by simpa using h
theorem bleT {a b : Nat} (h : a ≤ b) : Nat.ble a b = true := by simpa using h
theorem beqT {a b : Nat} (h : a = b) : Nat.beq a b = true := by simpa using h
theorem eqI {a b : Int} (h : a = b) : (a == b) = true := by simpa using h
theorem neI {a b : Int} (h : ¬a = b) : (!(a == b)) = true := by simpa using h
theorem bneI {a b : Int} (h : ¬a = b) : (a != b) = true := by simpa using h
theorem nbneI {a b : Int} (h : a = b) : (!(a != b)) = true := by simpa using h
/-- an entry without premises, at open arguments. -/
theorem spec_res {P : Program} {f : FuncId} {args : List W} {ms : List Blk} {r r' : Res} (h : Sx.Spec P f args ms r) (e : r = r') : Sx.Spec P f args ms r' := e ▸ h
end Go.Proofs.Ytmjejlbmcefaoaa
namespace Go.Proofs.Ytmjejlbmcefaoaa
open Go Sx

end Go.Proofs.Ytmjejlbmcefaoaa
namespace Go.Proofs.Ytmjejlbmcefaoaa
open Go Sx

def pX (x : Int) : Nat → Int
  | 0 => x
  | j + 1 => u64 ((pX x j).tdiv 256)
def pB (x : Int) (j : Nat) : Int := IntKind.u8.wrap ((pX x j).tmod 256)
def put8 (x : Int) : List Int := [pB x 7, pB x 6, pB x 5, pB x 4, pB x 3, pB x 2, pB x 1, pB x 0]
def put4 (x : Int) : List Int := [pB x 3, pB x 2, pB x 1, pB x 0]
theorem s62_8 (x : Int) : Sx.Spec Try.prog 62 [W.int .u64 x, W.int .i64 8] [] ⟨V.str (strOf (put8 x)), [], []⟩ :=
  spec_of_whole (tab_ok (.nil _)) mixed Try.func62 [] 1000000 [] (o := tt 38) (by kernel_rfl) (by kernel_rfl) (by kernel_rfl) (by kernel_rfl) (by kernel_rfl) (by kernel_rfl) (ott 38)
theorem s62_4 (x : Int) : Sx.Spec Try.prog 62 [W.int .u64 x, W.int .i64 4] [] ⟨V.str (strOf (put4 x)), [], []⟩ :=
  spec_of_whole (tab_ok (.nil _)) mixed Try.func62 [] 1000000 [] (o := tt 18) (by kernel_rfl) (by kernel_rfl) (by kernel_rfl) (by kernel_rfl) (by kernel_rfl) (by kernel_rfl) (ott 18)
def e62 : Entry := fun args ms => match args, ms with
  | [.c (.v (.int .u64 x)), .c (.v (.int .i64 8))], [] => some (⟨V.str (strOf (put8 x)), [], []⟩, [])
  | [.c (.v (.int .u64 x)), .c (.v (.int .i64 4))], [] => some (⟨V.str (strOf (put4 x)), [], []⟩, [])
  | _, _ => none
theorem e62_ok : EntryOk Try.prog 62 e62 := by
  intro args ms r obs h ho
  unfold e62 at h
  split at h
  · cases h; exact s62_8 _
  · cases h; exact s62_4 _
  · cases h
end Go.Proofs.Ytmjejlbmcefaoaa
namespace Go.Proofs.Ytmjejlbmcefaoaa
open Go Sx

end Go.Proofs.Ytmjejlbmcefaoaa
namespace Go.Proofs.Ytmjejlbmcefaoaa
open Go Sx

end Go.Proofs.Ytmjejlbmcefaoaa
