/- A symbolic executor, checked once, and what it shows of the functions: part 8. -/
import Derived.Test.YtmjejlbmcefaoaaPkG
import Derived.BigCall
import Derived.Shelf.Lay
import Derived.Shelf.Strings.Builder1
import Derived.WalkKit
namespace Go.Proofs.Ytmjejlbmcefaoaa
open Go Sx Go.Shelf Go.RowKit

shelf_lay Lays.n169 Nm 169 at Try as lays169
end Go.Proofs.Ytmjejlbmcefaoaa
namespace Go.Proofs.Ytmjejlbmcefaoaa
open Go Sx Go.Shelf Go.RowKit

def dig (n : Int) : Int := if n < 10 then 48 + n else 87 + n
def hexI (l : List Int) : List Int := l.flatMap fun n => [dig (n / 16), dig (n % 16)]
end Go.Proofs.Ytmjejlbmcefaoaa
namespace Go.Proofs.Ytmjejlbmcefaoaa
open Go Sx

def vlu (n : Int) : Int := if 97 ≤ n ∧ n ≤ 102 then n - 87 else n % 16
def e196 : Entry := fun args ms => match args, ms with
  | [.c (.v (.int .u8 n))], [] => some (⟨V.int .u8 (dig n), [], []⟩, [decide (0 ≤ n), decide (n < 16)])
  | _, _ => none
def libn : List (Nat × Entry) := []
theorem libn_ok : AllOk Try.prog libn := .nil _
theorem i64w {n : Int} (h0 : -9223372036854775808 ≤ n) (h1 : n ≤ 9223372036854775807) : IntKind.wrap .i64 n = n := i64_id h0 h1
theorem i64s (j : Nat) (h : j ≤ 1000000000000) : IntKind.wrap .i64 ((j : Int) + 1) = ((j + 1 : Nat) : Int) := by rw [i64w] <;> omega
theorem bt_range (x : ByteArray) (i : Int) : 0 ≤ bt x i ∧ bt x i < 256 := by
  rw [bt_eq]
  rcases Nat.lt_or_ge i.toNat (bytesOf x).length with h | h
  · rw [List.getD_eq_getElem?_getD, List.getElem?_eq_getElem h]
    exact bytesOf_range x _ (List.getElem_mem h)
  · rw [List.getD_eq_getElem?_getD, List.getElem?_eq_none h]
    exact ⟨Int.le_refl 0, by decide⟩
def pr : List Int → List Int
  | a :: b :: l => (16 * vlu a + vlu b) % 256 :: pr l
  | _ => []
def unhexR (x : ByteArray) : ByteArray × Int := if hexI (pr (bytesOf x)) = bytesOf x then (strOf (pr (bytesOf x)), 0) else (.empty, 6)
def unhexRes (q : ByteArray × Int) : Res := ⟨.tup [.c (.v (.string q.1)), W.int .i64 q.2], [], []⟩
end Go.Proofs.Ytmjejlbmcefaoaa
namespace Go.Proofs.Ytmjejlbmcefaoaa
open Go Sx

/-- the lowest bytes of a number, the lowest one first. -/
def leL : Nat → Int → List Int
  | 0, _ => []
  | f + 1, x => x % 256 :: leL f (x / 256)
theorem leL_len : ∀ f x, (leL f x).length = f
  | 0, _ => rfl
  | f + 1, x => by simp [leL, leL_len f]
theorem be_rev : ∀ f x, (beL f x).reverse = leL f x
  | 0, _ => rfl
  | f + 1, x => by simp [beL, leL, be_rev f]
def orE (F G : Entry) : Entry := fun args ms => match F args ms with
  | some r => some r
  | none => G args ms
theorem orE_ok {P : Program} {f : FuncId} {F G : Entry} (hF : EntryOk P f F) (hG : EntryOk P f G) : EntryOk P f (orE F G) := by
  intro args ms r obs h ho
  unfold orE at h
  split at h
  · rename_i q hq
    cases h
    exact hF args ms r obs hq ho
  · exact hG args ms r obs h ho
noncomputable def s63k0 : List Item := kAt Try.prog (tab libn) Try.f63 [] 0 [W.c (C.v (Value.string ByteArray.empty))] []
noncomputable def s63st0 (x : ByteArray) (t4 : Int) (b0_0 : Nat) (b0_1 : List Int) : Cfg := cfg s63k0 [0, 3, 4] [V.str x, V.w (W.c (C.own 0)), V.int IntKind.i64 t4] [Blk.mk 5 (Mode.own b0_0) (K.ints IntKind.u8 b0_1)]
theorem s63_1 {ρ : Env} {w : World} {r : Res} (x : ByteArray) (hg : G (mkX Try.prog (tab libn) Try.f63 [] ρ w r) (s63st0 (x) (IntKind.wrap IntKind.i64 ((↑(ByteArray.size x) : Int) - 1)) (0) ([]))) : G (mkX Try.prog (tab libn) Try.f63 [] ρ w r) (cfg [.code (Try.f63.body.getD .skip)] (List.range 1) ([W.c (C.v (Value.string x))].map V.w) []) :=
  G.seg (X := mkX Try.prog (tab libn) Try.f63 [] ρ w r) ⟨tab_ok libn_ok, mixed⟩ [] 1000000 0 [0, 3, 4] [] (k := s63k0) (vs := [V.str x, V.w (W.c (C.v (Value.slice none 0 0))), V.int IntKind.i64 (IntKind.wrap IntKind.i64 ((↑(ByteArray.size x) : Int) - 1))]) (bs := []) (by kernel_rfl) (by kernel_rfl)
    onil (G.nilOwn 1 5 (K.ints IntKind.u8 []) rfl rfl rfl (Nat.le_of_ble_eq_true rfl) hg)
theorem s63_2 {ρ : Env} {w : World} {r : Res} (x : ByteArray) (t4 : Int) (b0_0 : Nat) (b0_1 : List Int) (h1 : t4 ≥ 0) (h2 : 0 ≤ t4) (h3 : t4 < (↑(ByteArray.size x) : Int)) (h4 : (b0_0 + 1) * 1 ≤ 1099511627776) (h5 : b0_0 + 1 ≤ 1099511627776) (hg : G (mkX Try.prog (tab libn) Try.f63 [] ρ w r) (s63st0 (x) (IntKind.wrap IntKind.i64 (t4 - 1)) (b0_0 + 1) (b0_1 ++ [bt x t4]))) : G (mkX Try.prog (tab libn) Try.f63 [] ρ w r) (s63st0 x t4 b0_0 b0_1) :=
  G.seg (X := mkX Try.prog (tab libn) Try.f63 [] ρ w r) ⟨tab_ok libn_ok, mixed⟩ [(9, true)] 1000000 0 [0, 3, 4] [(29, none)] (k := s63k0) (vs := [V.str x, V.w (W.c (C.own 0)), V.int IntKind.i64 (IntKind.wrap IntKind.i64 (t4 - 1))]) (bs := [Blk.mk 5 (Mode.own (b0_0 + 1)) (K.ints IntKind.u8 (b0_1 ++ [bt x t4]))]) (by kernel_rfl) (by kernel_rfl)
    (ocons (decide_eq_true h1) (ocons (decide_eq_true h2) (ocons (decide_eq_true h3) (ocons (bleT h4) (ocons (bleT h5) (ocons rfl onil)))))) hg
theorem s63_3 {ρ : Env} {w : World} (x : ByteArray) (t4 : Int) (b0_0 : Nat) (b0_1 : List Int) (h1 : ¬t4 ≥ 0) (h2 : 0 + b0_0 ≤ List.length b0_1) : G (mkX Try.prog (tab libn) Try.f63 [] ρ w ⟨V.str (strOf (List.take b0_0 b0_1)), [], []⟩) (s63st0 x t4 b0_0 b0_1) :=
  G.ends (tab_ok libn_ok) mixed [(9, false)] 1000000 [] (by kernel_rfl) (by kernel_rfl) (by kernel_rfl) (by kernel_rfl)
    (ocons (ndec h1) (ocons (bleT h2) onil))
end Go.Proofs.Ytmjejlbmcefaoaa
namespace Go.Proofs.Ytmjejlbmcefaoaa
open Go Sx Go.ChangeShapes Go.WideShapes Go.ChangeAt Go.RowKit

def e64 : Entry := fun args ms => match args, ms with
  | [.c (.sl 0 0 n)], [⟨_, .ro, .ints .u32 l⟩] => some (⟨V.str (strOf (l.flatMap (beL 4))), [], []⟩, [Nat.beq n l.length, Nat.ble l.length 100000000])
  | _, _ => none
def e58 : Entry := fun args ms => match args, ms with
  | [.c (.v (.string x))], [] => some (unhexRes (unhexR x), [Nat.ble x.size 1000000000])
  | _, _ => none
def e63 : Entry := fun args ms => match args, ms with
  | [.c (.v (.string x))], [] => some (⟨V.str (strOf (bytesOf x).reverse), [], []⟩, [Nat.ble x.size 1000000000])
  | _, _ => none
theorem rev_bt (x : ByteArray) (j : Nat) (h : j < x.size) : (bytesOf x).reverse.take (j + 1) = (bytesOf x).reverse.take j ++ [bt x ((x.size - 1 - j : Nat) : Int)] := by
  have hl := bytesOf_length x
  rw [List.take_add_one, List.getElem?_reverse (by rw [hl]; exact h), hl, bt_eq, Int.toNat_natCast, List.getD_eq_getElem?_getD]
  rw [List.getElem?_eq_getElem (by rw [hl]; omega)]
  rfl
theorem s63 (x : ByteArray) (h : x.size ≤ 1000000000) : Sx.Spec Try.prog 63 [.c (.v (.string x))] [] ⟨V.str (strOf (bytesOf x).reverse), [], []⟩ := by
  have hl := bytesOf_length x
  refine spec_body (tab := tab libn) Try.func63 (by kernel_rfl) (by kernel_rfl) (by kernel_rfl) fun ρ w => ?_
  refine s63_1 x ?_
  have e0 : IntKind.wrap IntKind.i64 ((x.size : Int) - 1) = (x.size : Int) - 1 - (0 : Nat) := by rw [i64w] <;> omega
  rw [e0]
  refine G.loop (fun j => s63st0 x ((x.size : Int) - 1 - (j : Nat)) j ((bytesOf x).reverse.take j)) x.size (fun j hj hg => ?_) ?_
  · refine s63_2 x _ j _ (by omega) (by omega) (by omega) (by omega) (by omega) ?_
    have e1 : IntKind.wrap IntKind.i64 ((x.size : Int) - 1 - (j : Nat) - 1) = (x.size : Int) - 1 - ((j + 1 : Nat) : Int) := by rw [i64w] <;> omega
    have e2 : (x.size : Int) - 1 - (j : Nat) = ((x.size - 1 - j : Nat) : Int) := by omega
    rw [rev_bt x j hj] at hg
    rw [e1]
    rw [e2]
    exact hg
  · have := s63_3 (ρ := ρ) (w := w) x ((x.size : Int) - 1 - (x.size : Nat)) x.size ((bytesOf x).reverse.take x.size) (by omega) (by rw [List.length_take, List.length_reverse, hl]; omega)
    have ht : (bytesOf x).reverse.take x.size = (bytesOf x).reverse := List.take_of_length_le (by rw [List.length_reverse, hl]; exact Nat.le_refl _)
    rw [ht, ht] at this
    show G _ (s63st0 x ((x.size : Int) - 1 - (x.size : Nat)) x.size ((bytesOf x).reverse.take x.size))
    rw [ht]
    exact this
theorem e63_ok : EntryOk Try.prog 63 e63 := by
  intro args ms r obs h ho
  unfold e63 at h
  split at h
  · cases h; exact s63 _ (by simpa using ohead ho)
  · cases h

end Go.Proofs.Ytmjejlbmcefaoaa
namespace Go.Proofs.Ytmjejlbmcefaoaa
open Go Sx

theorem pow256 (m : Nat) : (256 : Nat) ^ m = 2 ^ (8 * m) := by rw [Nat.pow_mul]
theorem or_low {k : IntKind} (hk : uns k) (a b m : Nat) (ha : a < 256 ^ m) (h : a + b * 256 ^ m < 2 ^ k.bits) : orI k (a : Int) (shl k (b : Int) ((8 * m : Nat) : Int)) = ((a + b * 256 ^ m : Nat) : Int) := by
  have h1 : b * 256 ^ m < 2 ^ k.bits := by omega
  rw [shl_nat hk, Nat.shiftLeft_eq, ← pow256, Nat.mod_eq_of_lt h1, orI_nat hk (by omega) h1]
  congr 1
  rw [pow256] at ha
  have := Nat.two_pow_add_eq_or_of_lt ha b
  rw [← pow256, Nat.mul_comm (256 ^ m) b] at this
  rw [Nat.or_comm, ← this, Nat.add_comm]

/-- the number of bytes, the lowest one first. -/
def leV : List Int → Int
  | [] => 0
  | b :: l => b + 256 * leV l
theorem leV_append : ∀ (l : List Int) (b : Int), leV (l ++ [b]) = leV l + b * 256 ^ l.length
  | [], b => by simp [leV]
  | a :: l, b => by
    have ih := leV_append l b
    simp only [List.cons_append, leV, ih, List.length_cons, Int.pow_succ]
    grind
theorem leV_range : ∀ (l : List Int), (∀ b ∈ l, 0 ≤ b ∧ b < 256) → 0 ≤ leV l ∧ leV l < 256 ^ l.length
  | [], _ => by simp [leV]
  | a :: l, h => by
    have ih := leV_range l (fun b hb => h b (by simp [hb]))
    have ha := h a (by simp)
    simp only [leV, List.length_cons, Int.pow_succ]
    generalize (256 : Int) ^ l.length = p at *
    omega
theorem w64_id {n : Int} (h0 : 0 ≤ n) (h1 : n < 18446744073709551616) : IntKind.wrap .u64 n = n := (wrap_u64 n).trans (by omega)

theorem drop_bt (x : ByteArray) (o k : Nat) (h : o + k < x.size) : ((bytesOf x).drop o).take (k + 1) = ((bytesOf x).drop o).take k ++ [bt x ((o + k : Nat) : Int)] := by
  rw [List.take_add_one, List.getElem?_drop, bt_eq, Int.toNat_natCast, List.getD_eq_getElem?_getD]
  rw [List.getElem?_eq_getElem (by rw [bytesOf_length]; exact h)]
  rfl
theorem nat_of {n : Int} (h : 0 ≤ n) : ∃ m : Nat, n = m := Int.eq_ofNat_of_zero_le h

end Go.Proofs.Ytmjejlbmcefaoaa
namespace Go.Proofs.Ytmjejlbmcefaoaa
open Go Sx

/-- a number of four words. -/
def v4 (a b c d : Int) : Int := a + 18446744073709551616 * (b + 18446744073709551616 * (c + 18446744073709551616 * d))
def l0 (n : Int) : Int := n % 18446744073709551616
def l1 (n : Int) : Int := n / 18446744073709551616 % 18446744073709551616
def l2 (n : Int) : Int := n / 340282366920938463463374607431768211456 % 18446744073709551616
def l3 (n : Int) : Int := n / 6277101735386680763835789423207666416102355444464034512896 % 18446744073709551616
def w64 (a : Int) : Bool := decide (0 ≤ a) && decide (a < 18446744073709551616)
def e215 : Entry := fun args ms => match args, ms with
  | [.c (.ptr 0 0), .c (.v (.int .u64 x)), .c (.v (.int .u64 y))], [⟨244, .rw, .cs [.v (.int .u64 c)]⟩] => some (⟨V.int .u64 (addS x y c), [(0, ⟨244, .rw, .cs [.v (.int .u64 (addC x y c))]⟩)], []⟩, [Nat.ble c.toNat 1])
  | _, _ => none
def e217 : Entry := fun args ms => match args, ms with
  | [.c (.ptr 0 0), .c (.v (.int .u64 x)), .c (.v (.int .u64 y))], [⟨244, .rw, .cs [.v (.int .u64 c)]⟩] => some (⟨V.int .u64 (subS x y c), [(0, ⟨244, .rw, .cs [.v (.int .u64 (subB x y c))]⟩)], []⟩, [Nat.ble c.toNat 1])
  | _, _ => none
def libwa : List (Nat × Entry) := [(215, e215), (217, e217)]
theorem s215_1 (x : Int) (y : Int) (c : Int) (h1 : Int.toNat c ≤ 1) : Sx.Spec Try.prog 215 [W.c (C.ptr 0 0), W.int IntKind.u64 x, W.int IntKind.u64 y] [Blk.mk 244 Mode.rw (K.cs [C.v (Value.int IntKind.u64 c)])] ⟨V.int IntKind.u64 (addS x y c), [(0, Blk.mk 244 Mode.rw (K.cs [C.v (Value.int IntKind.u64 (addC x y c))]))], []⟩ :=
  spec_of_whole (tab_ok libn_ok) mixed Try.func215 [] 1000000 [(0, none)] (by kernel_rfl) (by kernel_rfl) (by kernel_rfl) (by kernel_rfl) (by kernel_rfl) (by kernel_rfl)
    (ocons (bleT h1) (ocons rfl onil))
theorem s217_1 (x : Int) (y : Int) (c : Int) (h1 : Int.toNat c ≤ 1) : Sx.Spec Try.prog 217 [W.c (C.ptr 0 0), W.int IntKind.u64 x, W.int IntKind.u64 y] [Blk.mk 244 Mode.rw (K.cs [C.v (Value.int IntKind.u64 c)])] ⟨V.int IntKind.u64 (subS x y c), [(0, Blk.mk 244 Mode.rw (K.cs [C.v (Value.int IntKind.u64 (subB x y c))]))], []⟩ :=
  spec_of_whole (tab_ok libn_ok) mixed Try.func217 [] 1000000 [(0, none)] (by kernel_rfl) (by kernel_rfl) (by kernel_rfl) (by kernel_rfl) (by kernel_rfl) (by kernel_rfl)
    (ocons (bleT h1) (ocons rfl onil))

theorem e215_ok : EntryOk Try.prog 215 e215 := by
  intro args ms r obs h ho
  unfold e215 at h
  split at h
  · cases h; exact s215_1 _ _ _ (by simpa using ohead ho)
  · cases h
theorem e217_ok : EntryOk Try.prog 217 e217 := by
  intro args ms r obs h ho
  unfold e217 at h
  split at h
  · cases h; exact s217_1 _ _ _ (by simpa using ohead ho)
  · cases h
theorem libwa_ok : AllOk Try.prog libwa := .cons e215_ok (.cons e217_ok (.nil _))
theorem s214a_1 (a0 : Int) (a1 : Int) (a2 : Int) (a3 : Int) (b0 : Int) (b1 : Int) (b2 : Int) (b3 : Int) (h1 : Int.toNat (addC a0 b0 0) ≤ 1) (h2 : Int.toNat (addC a1 b1 (addC a0 b0 0)) ≤ 1) (h3 : Int.toNat (addC a2 b2 (addC a1 b1 (addC a0 b0 0))) ≤ 1) : Sx.Spec Try.prog 214 [W.c (C.v (Value.func (Fn.func 215) #[] #[])), W.agg [C.v (Value.int IntKind.u64 a0), C.v (Value.int IntKind.u64 a1), C.v (Value.int IntKind.u64 a2), C.v (Value.int IntKind.u64 a3)], W.agg [C.v (Value.int IntKind.u64 b0), C.v (Value.int IntKind.u64 b1), C.v (Value.int IntKind.u64 b2), C.v (Value.int IntKind.u64 b3)]] [] ⟨V.tup [W.agg [C.v (Value.int IntKind.u64 (addS a0 b0 0)), C.v (Value.int IntKind.u64 (addS a1 b1 (addC a0 b0 0))), C.v (Value.int IntKind.u64 (addS a2 b2 (addC a1 b1 (addC a0 b0 0)))), C.v (Value.int IntKind.u64 (addS a3 b3 (addC a2 b2 (addC a1 b1 (addC a0 b0 0)))))], W.int IntKind.u64 (addC a3 b3 (addC a2 b2 (addC a1 b1 (addC a0 b0 0))))], [], []⟩ :=
  spec_of_whole (tab_ok libwa_ok) mixed Try.func214 [] 1000000 [] (by kernel_rfl) (by kernel_rfl) (by kernel_rfl) (by kernel_rfl) (by kernel_rfl) (by kernel_rfl)
    (ocons rfl (ocons rfl (ocons rfl (ocons rfl (ocons rfl (ocons rfl (ocons rfl (ocons rfl (ocons rfl (ocons rfl (ocons rfl (ocons rfl (ocons (bleT h1) (ocons rfl (ocons rfl (ocons rfl (ocons rfl (ocons rfl (ocons rfl (ocons rfl (ocons (bleT h2) (ocons rfl (ocons rfl (ocons rfl (ocons rfl (ocons rfl (ocons rfl (ocons rfl (ocons (bleT h3) (ocons rfl (ocons rfl (ocons rfl (ocons rfl onil)))))))))))))))))))))))))))))))))
theorem s214s_1 (a0 : Int) (a1 : Int) (a2 : Int) (a3 : Int) (b0 : Int) (b1 : Int) (b2 : Int) (b3 : Int) (h1 : Int.toNat (subB a0 b0 0) ≤ 1) (h2 : Int.toNat (subB a1 b1 (subB a0 b0 0)) ≤ 1) (h3 : Int.toNat (subB a2 b2 (subB a1 b1 (subB a0 b0 0))) ≤ 1) : Sx.Spec Try.prog 214 [W.c (C.v (Value.func (Fn.func 217) #[] #[])), W.agg [C.v (Value.int IntKind.u64 a0), C.v (Value.int IntKind.u64 a1), C.v (Value.int IntKind.u64 a2), C.v (Value.int IntKind.u64 a3)], W.agg [C.v (Value.int IntKind.u64 b0), C.v (Value.int IntKind.u64 b1), C.v (Value.int IntKind.u64 b2), C.v (Value.int IntKind.u64 b3)]] [] ⟨V.tup [W.agg [C.v (Value.int IntKind.u64 (subS a0 b0 0)), C.v (Value.int IntKind.u64 (subS a1 b1 (subB a0 b0 0))), C.v (Value.int IntKind.u64 (subS a2 b2 (subB a1 b1 (subB a0 b0 0)))), C.v (Value.int IntKind.u64 (subS a3 b3 (subB a2 b2 (subB a1 b1 (subB a0 b0 0)))))], W.int IntKind.u64 (subB a3 b3 (subB a2 b2 (subB a1 b1 (subB a0 b0 0))))], [], []⟩ :=
  spec_of_whole (tab_ok libwa_ok) mixed Try.func214 [] 1000000 [] (by kernel_rfl) (by kernel_rfl) (by kernel_rfl) (by kernel_rfl) (by kernel_rfl) (by kernel_rfl)
    (ocons rfl (ocons rfl (ocons rfl (ocons rfl (ocons rfl (ocons rfl (ocons rfl (ocons rfl (ocons rfl (ocons rfl (ocons rfl (ocons rfl (ocons (bleT h1) (ocons rfl (ocons rfl (ocons rfl (ocons rfl (ocons rfl (ocons rfl (ocons rfl (ocons (bleT h2) (ocons rfl (ocons rfl (ocons rfl (ocons rfl (ocons rfl (ocons rfl (ocons rfl (ocons (bleT h3) (ocons rfl (ocons rfl (ocons rfl (ocons rfl onil)))))))))))))))))))))))))))))))))

theorem w64_of {a : Int} (h : w64 a = true) : 0 ≤ a ∧ a < 18446744073709551616 := by simpa [w64] using h
theorem addS_eq {x y c : Int} (hx : 0 ≤ x) (hy : 0 ≤ y) (hc : 0 ≤ c) : addS x y c = (x + y + c) % 18446744073709551616 := by
  unfold addS; rw [Int.ofNat_eq_natCast]; omega
theorem addC_eq {x y c : Int} (hx : 0 ≤ x) (hy : 0 ≤ y) (hc : 0 ≤ c) : addC x y c = (x + y + c) / 18446744073709551616 := by
  unfold addC; rw [Int.ofNat_eq_natCast]; omega
theorem subS_eq {x y c : Int} (hx : 0 ≤ x) (hy : 0 ≤ y) (hy' : y < 18446744073709551616) (hc : 0 ≤ c) (hc' : c ≤ 1) : subS x y c = (x - y - c) % 18446744073709551616 := by
  unfold subS; rw [Int.ofNat_eq_natCast]; omega
theorem subB_eq {x y c : Int} (hx : 0 ≤ x) (hy : 0 ≤ y) (hc : 0 ≤ c) : subB x y c = if x < y + c then 1 else 0 := by
  unfold subB; rw [Int.ofNat_eq_natCast]; split <;> split <;> omega
/-- the words of a sum, one after the other. -/
theorem add4 {a0 a1 a2 a3 b0 b1 b2 b3 c0 c1 c2 : Int} (ha0 : 0 ≤ a0 ∧ a0 < 18446744073709551616) (ha1 : 0 ≤ a1 ∧ a1 < 18446744073709551616) (ha2 : 0 ≤ a2 ∧ a2 < 18446744073709551616) (ha3 : 0 ≤ a3 ∧ a3 < 18446744073709551616)
    (hb0 : 0 ≤ b0 ∧ b0 < 18446744073709551616) (hb1 : 0 ≤ b1 ∧ b1 < 18446744073709551616) (hb2 : 0 ≤ b2 ∧ b2 < 18446744073709551616) (hb3 : 0 ≤ b3 ∧ b3 < 18446744073709551616)
    (h0 : c0 = (a0 + b0) / 18446744073709551616) (h1 : c1 = (a1 + b1 + c0) / 18446744073709551616) (h2 : c2 = (a2 + b2 + c1) / 18446744073709551616) :
    (a0 + b0) % 18446744073709551616 = l0 (v4 a0 a1 a2 a3 + v4 b0 b1 b2 b3) ∧ (a1 + b1 + c0) % 18446744073709551616 = l1 (v4 a0 a1 a2 a3 + v4 b0 b1 b2 b3) ∧ (a2 + b2 + c1) % 18446744073709551616 = l2 (v4 a0 a1 a2 a3 + v4 b0 b1 b2 b3) ∧
    (a3 + b3 + c2) % 18446744073709551616 = l3 (v4 a0 a1 a2 a3 + v4 b0 b1 b2 b3) ∧ (a3 + b3 + c2) / 18446744073709551616 = (v4 a0 a1 a2 a3 + v4 b0 b1 b2 b3) / 115792089237316195423570985008687907853269984665640564039457584007913129639936 := by
  unfold v4 l0 l1 l2 l3
  refine ⟨?_, ?_, ?_, ?_, ?_⟩ <;> omega
end Go.Proofs.Ytmjejlbmcefaoaa
namespace Go.Proofs.Ytmjejlbmcefaoaa
open Go Sx

theorem s214a {a0 a1 a2 a3 b0 b1 b2 b3 : Int} (ha0 : 0 ≤ a0 ∧ a0 < 18446744073709551616) (ha1 : 0 ≤ a1 ∧ a1 < 18446744073709551616) (ha2 : 0 ≤ a2 ∧ a2 < 18446744073709551616) (ha3 : 0 ≤ a3 ∧ a3 < 18446744073709551616) (hb0 : 0 ≤ b0 ∧ b0 < 18446744073709551616) (hb1 : 0 ≤ b1 ∧ b1 < 18446744073709551616) (hb2 : 0 ≤ b2 ∧ b2 < 18446744073709551616) (hb3 : 0 ≤ b3 ∧ b3 < 18446744073709551616) :
    Sx.Spec Try.prog 214 [.c (.v (.func (.func 215) #[] #[])), .agg [.v (.int .u64 a0), .v (.int .u64 a1), .v (.int .u64 a2), .v (.int .u64 a3)], .agg [.v (.int .u64 b0), .v (.int .u64 b1), .v (.int .u64 b2), .v (.int .u64 b3)]] [] ⟨.tup [.agg [.v (.int .u64 (l0 (v4 a0 a1 a2 a3 + v4 b0 b1 b2 b3))), .v (.int .u64 (l1 (v4 a0 a1 a2 a3 + v4 b0 b1 b2 b3))), .v (.int .u64 (l2 (v4 a0 a1 a2 a3 + v4 b0 b1 b2 b3))), .v (.int .u64 (l3 (v4 a0 a1 a2 a3 + v4 b0 b1 b2 b3)))], .c (.v (.int .u64 ((v4 a0 a1 a2 a3 + v4 b0 b1 b2 b3) / 115792089237316195423570985008687907853269984665640564039457584007913129639936)))], [], []⟩ := by
  have c0 : addC a0 b0 0 = (a0 + b0) / 18446744073709551616 := by rw [addC_eq ha0.1 hb0.1 (by omega), Int.add_zero]
  have p0 : 0 ≤ addC a0 b0 0 ∧ addC a0 b0 0 ≤ 1 := by rw [c0]; omega
  have c1 : addC a1 b1 (addC a0 b0 0) = (a1 + b1 + addC a0 b0 0) / 18446744073709551616 := addC_eq ha1.1 hb1.1 p0.1
  have p1 : 0 ≤ addC a1 b1 (addC a0 b0 0) ∧ addC a1 b1 (addC a0 b0 0) ≤ 1 := by rw [c1]; omega
  have c2 : addC a2 b2 (addC a1 b1 (addC a0 b0 0)) = (a2 + b2 + addC a1 b1 (addC a0 b0 0)) / 18446744073709551616 := addC_eq ha2.1 hb2.1 p1.1
  have p2 : 0 ≤ addC a2 b2 (addC a1 b1 (addC a0 b0 0)) ∧ addC a2 b2 (addC a1 b1 (addC a0 b0 0)) ≤ 1 := by rw [c2]; omega
  obtain ⟨e0, e1, e2, e3, e4⟩ := add4 ha0 ha1 ha2 ha3 hb0 hb1 hb2 hb3 c0 c1 c2
  refine spec_res (s214a_1 a0 a1 a2 a3 b0 b1 b2 b3 (by omega) (by omega) (by omega)) ?_
  rw [addS_eq ha0.1 hb0.1 (by omega), addS_eq ha1.1 hb1.1 p0.1, addS_eq ha2.1 hb2.1 p1.1, addS_eq ha3.1 hb3.1 p2.1, addC_eq ha3.1 hb3.1 p2.1, Int.add_zero, e0, e1, e2, e3, e4]
theorem sub4 {a0 a1 a2 a3 b0 b1 b2 b3 c0 c1 c2 : Int} (ha0 : 0 ≤ a0 ∧ a0 < 18446744073709551616) (ha1 : 0 ≤ a1 ∧ a1 < 18446744073709551616) (ha2 : 0 ≤ a2 ∧ a2 < 18446744073709551616) (ha3 : 0 ≤ a3 ∧ a3 < 18446744073709551616) (hb0 : 0 ≤ b0 ∧ b0 < 18446744073709551616) (hb1 : 0 ≤ b1 ∧ b1 < 18446744073709551616) (hb2 : 0 ≤ b2 ∧ b2 < 18446744073709551616) (hb3 : 0 ≤ b3 ∧ b3 < 18446744073709551616)
    (h0 : c0 = if a0 < b0 then 1 else 0) (h1 : c1 = if a1 < b1 + c0 then 1 else 0) (h2 : c2 = if a2 < b2 + c1 then 1 else 0) :
    (a0 - b0) % 18446744073709551616 = l0 (v4 a0 a1 a2 a3 - v4 b0 b1 b2 b3) ∧ (a1 - b1 - c0) % 18446744073709551616 = l1 (v4 a0 a1 a2 a3 - v4 b0 b1 b2 b3) ∧ (a2 - b2 - c1) % 18446744073709551616 = l2 (v4 a0 a1 a2 a3 - v4 b0 b1 b2 b3) ∧
    (a3 - b3 - c2) % 18446744073709551616 = l3 (v4 a0 a1 a2 a3 - v4 b0 b1 b2 b3) ∧ (if a3 < b3 + c2 then (1 : Int) else 0) = if v4 a0 a1 a2 a3 < v4 b0 b1 b2 b3 then 1 else 0 := by
  have e0 : c0 = -((a0 - b0) / 18446744073709551616) := by split at h0 <;> omega
  have e1 : c1 = -((a1 - b1 - c0) / 18446744073709551616) := by split at h1 <;> omega
  have e2 : c2 = -((a2 - b2 - c1) / 18446744073709551616) := by split at h2 <;> omega
  clear h0 h1 h2
  unfold v4 l0 l1 l2 l3
  refine ⟨?_, ?_, ?_, ?_, ?_⟩
  · omega
  · omega
  · omega
  · omega
  · split <;> split <;> omega
theorem s214s {a0 a1 a2 a3 b0 b1 b2 b3 : Int} (ha0 : 0 ≤ a0 ∧ a0 < 18446744073709551616) (ha1 : 0 ≤ a1 ∧ a1 < 18446744073709551616) (ha2 : 0 ≤ a2 ∧ a2 < 18446744073709551616) (ha3 : 0 ≤ a3 ∧ a3 < 18446744073709551616) (hb0 : 0 ≤ b0 ∧ b0 < 18446744073709551616) (hb1 : 0 ≤ b1 ∧ b1 < 18446744073709551616) (hb2 : 0 ≤ b2 ∧ b2 < 18446744073709551616) (hb3 : 0 ≤ b3 ∧ b3 < 18446744073709551616) :
    Sx.Spec Try.prog 214 [.c (.v (.func (.func 217) #[] #[])), .agg [.v (.int .u64 a0), .v (.int .u64 a1), .v (.int .u64 a2), .v (.int .u64 a3)], .agg [.v (.int .u64 b0), .v (.int .u64 b1), .v (.int .u64 b2), .v (.int .u64 b3)]] [] ⟨.tup [.agg [.v (.int .u64 (l0 (v4 a0 a1 a2 a3 - v4 b0 b1 b2 b3))), .v (.int .u64 (l1 (v4 a0 a1 a2 a3 - v4 b0 b1 b2 b3))), .v (.int .u64 (l2 (v4 a0 a1 a2 a3 - v4 b0 b1 b2 b3))), .v (.int .u64 (l3 (v4 a0 a1 a2 a3 - v4 b0 b1 b2 b3)))], .c (.v (.int .u64 (if v4 a0 a1 a2 a3 < v4 b0 b1 b2 b3 then 1 else 0)))], [], []⟩ := by
  have c0 : subB a0 b0 0 = if a0 < b0 then 1 else 0 := by rw [subB_eq ha0.1 hb0.1 (by omega), Int.add_zero]
  have p0 : 0 ≤ subB a0 b0 0 ∧ subB a0 b0 0 ≤ 1 := by rw [c0]; split <;> omega
  have c1 : subB a1 b1 (subB a0 b0 0) = if a1 < b1 + subB a0 b0 0 then 1 else 0 := subB_eq ha1.1 hb1.1 p0.1
  have p1 : 0 ≤ subB a1 b1 (subB a0 b0 0) ∧ subB a1 b1 (subB a0 b0 0) ≤ 1 := by rw [c1]; split <;> omega
  have c2 : subB a2 b2 (subB a1 b1 (subB a0 b0 0)) = if a2 < b2 + subB a1 b1 (subB a0 b0 0) then 1 else 0 := subB_eq ha2.1 hb2.1 p1.1
  have p2 : 0 ≤ subB a2 b2 (subB a1 b1 (subB a0 b0 0)) ∧ subB a2 b2 (subB a1 b1 (subB a0 b0 0)) ≤ 1 := by rw [c2]; split <;> omega
  obtain ⟨e0, e1, e2, e3, e4⟩ := sub4 ha0 ha1 ha2 ha3 hb0 hb1 hb2 hb3 c0 c1 c2
  refine spec_res (s214s_1 a0 a1 a2 a3 b0 b1 b2 b3 (by omega) (by omega) (by omega)) ?_
  rw [subS_eq ha0.1 hb0.1 hb0.2 (by omega) (by omega), subS_eq ha1.1 hb1.1 hb1.2 p0.1 p0.2, subS_eq ha2.1 hb2.1 hb2.2 p1.1 p1.2, subS_eq ha3.1 hb3.1 hb3.2 p2.1 p2.2, subB_eq ha3.1 hb3.1 p2.1, Int.sub_zero, e0, e1, e2, e3, e4]

def e214a : Entry := fun args ms => match args, ms with
  | [.c (.v (.func (.func 215) f g)), .agg [.v (.int .u64 a0), .v (.int .u64 a1), .v (.int .u64 a2), .v (.int .u64 a3)], .agg [.v (.int .u64 b0), .v (.int .u64 b1), .v (.int .u64 b2), .v (.int .u64 b3)]], [] => some (⟨.tup [.agg [.v (.int .u64 (l0 (v4 a0 a1 a2 a3 + v4 b0 b1 b2 b3))), .v (.int .u64 (l1 (v4 a0 a1 a2 a3 + v4 b0 b1 b2 b3))), .v (.int .u64 (l2 (v4 a0 a1 a2 a3 + v4 b0 b1 b2 b3))), .v (.int .u64 (l3 (v4 a0 a1 a2 a3 + v4 b0 b1 b2 b3)))], .c (.v (.int .u64 ((v4 a0 a1 a2 a3 + v4 b0 b1 b2 b3) / 115792089237316195423570985008687907853269984665640564039457584007913129639936)))], [], []⟩, [w64 a0, w64 a1, w64 a2, w64 a3, w64 b0, w64 b1, w64 b2, w64 b3, Nat.beq f.size 0, Nat.beq g.size 0])
  | _, _ => none
def e214s : Entry := fun args ms => match args, ms with
  | [.c (.v (.func (.func 217) f g)), .agg [.v (.int .u64 a0), .v (.int .u64 a1), .v (.int .u64 a2), .v (.int .u64 a3)], .agg [.v (.int .u64 b0), .v (.int .u64 b1), .v (.int .u64 b2), .v (.int .u64 b3)]], [] => some (⟨.tup [.agg [.v (.int .u64 (l0 (v4 a0 a1 a2 a3 - v4 b0 b1 b2 b3))), .v (.int .u64 (l1 (v4 a0 a1 a2 a3 - v4 b0 b1 b2 b3))), .v (.int .u64 (l2 (v4 a0 a1 a2 a3 - v4 b0 b1 b2 b3))), .v (.int .u64 (l3 (v4 a0 a1 a2 a3 - v4 b0 b1 b2 b3)))], .c (.v (.int .u64 (if v4 a0 a1 a2 a3 < v4 b0 b1 b2 b3 then 1 else 0)))], [], []⟩, [w64 a0, w64 a1, w64 a2, w64 a3, w64 b0, w64 b1, w64 b2, w64 b3, Nat.beq f.size 0, Nat.beq g.size 0])
  | _, _ => none
theorem e214a_ok : EntryOk Try.prog 214 e214a := by
  intro args ms r obs h ho
  unfold e214a at h
  split at h
  · cases h
    simp only [List.mem_cons, List.not_mem_nil, or_false, forall_eq_or_imp, forall_eq] at ho
    obtain ⟨h1, h2, h3, h4, h5, h6, h7, h8, h9, h10⟩ := ho
    have ha := Array.eq_empty_of_size_eq_zero (Nat.beq_eq.mp h9)
    have hb := Array.eq_empty_of_size_eq_zero (Nat.beq_eq.mp h10)
    subst ha
    subst hb
    exact s214a (w64_of h1) (w64_of h2) (w64_of h3) (w64_of h4) (w64_of h5) (w64_of h6) (w64_of h7) (w64_of h8)
  · cases h
theorem e214s_ok : EntryOk Try.prog 214 e214s := by
  intro args ms r obs h ho
  unfold e214s at h
  split at h
  · cases h
    simp only [List.mem_cons, List.not_mem_nil, or_false, forall_eq_or_imp, forall_eq] at ho
    obtain ⟨h1, h2, h3, h4, h5, h6, h7, h8, h9, h10⟩ := ho
    have ha := Array.eq_empty_of_size_eq_zero (Nat.beq_eq.mp h9)
    have hb := Array.eq_empty_of_size_eq_zero (Nat.beq_eq.mp h10)
    subst ha
    subst hb
    exact s214s (w64_of h1) (w64_of h2) (w64_of h3) (w64_of h4) (w64_of h5) (w64_of h6) (w64_of h7) (w64_of h8)
  · cases h
def libwb : List (Nat × Entry) := [(214, orE e214a e214s)]
theorem libwb_ok : AllOk Try.prog libwb := .cons (orE_ok e214a_ok e214s_ok) (.nil _)
end Go.Proofs.Ytmjejlbmcefaoaa
namespace Go.Proofs.Ytmjejlbmcefaoaa
open Go Sx
theorem s84_1 (a0 : Int) (a1 : Int) (a2 : Int) (a3 : Int) (b0 : Int) (b1 : Int) (b2 : Int) (b3 : Int) (h1 : w64 a0 = true) (h2 : w64 a1 = true) (h3 : w64 a2 = true) (h4 : w64 a3 = true) (h5 : w64 b0 = true) (h6 : w64 b1 = true) (h7 : w64 b2 = true) (h8 : w64 b3 = true) : Sx.Spec Try.prog 84 [W.agg [C.v (Value.int IntKind.u64 a0), C.v (Value.int IntKind.u64 a1), C.v (Value.int IntKind.u64 a2), C.v (Value.int IntKind.u64 a3)], W.agg [C.v (Value.int IntKind.u64 b0), C.v (Value.int IntKind.u64 b1), C.v (Value.int IntKind.u64 b2), C.v (Value.int IntKind.u64 b3)]] [] ⟨V.tup [W.agg [C.v (Value.int IntKind.u64 (l0 (v4 a0 a1 a2 a3 + v4 b0 b1 b2 b3))), C.v (Value.int IntKind.u64 (l1 (v4 a0 a1 a2 a3 + v4 b0 b1 b2 b3))), C.v (Value.int IntKind.u64 (l2 (v4 a0 a1 a2 a3 + v4 b0 b1 b2 b3))), C.v (Value.int IntKind.u64 (l3 (v4 a0 a1 a2 a3 + v4 b0 b1 b2 b3)))], W.int IntKind.u64 ((v4 a0 a1 a2 a3 + v4 b0 b1 b2 b3) / 115792089237316195423570985008687907853269984665640564039457584007913129639936)], [], []⟩ :=
  spec_of_whole (tab_ok libwb_ok) mixed Try.func84 [] 1000000 [] (by kernel_rfl) (by kernel_rfl) (by kernel_rfl) (by kernel_rfl) (by kernel_rfl) (by kernel_rfl)
    (ocons h1 (ocons h2 (ocons h3 (ocons h4 (ocons h5 (ocons h6 (ocons h7 (ocons h8 (ocons rfl (ocons rfl (ocons rfl onil)))))))))))
theorem s87_1 (a0 : Int) (a1 : Int) (a2 : Int) (a3 : Int) (b0 : Int) (b1 : Int) (b2 : Int) (b3 : Int) (h1 : w64 a0 = true) (h2 : w64 a1 = true) (h3 : w64 a2 = true) (h4 : w64 a3 = true) (h5 : w64 b0 = true) (h6 : w64 b1 = true) (h7 : w64 b2 = true) (h8 : w64 b3 = true) : Sx.Spec Try.prog 87 [W.agg [C.v (Value.int IntKind.u64 a0), C.v (Value.int IntKind.u64 a1), C.v (Value.int IntKind.u64 a2), C.v (Value.int IntKind.u64 a3)], W.agg [C.v (Value.int IntKind.u64 b0), C.v (Value.int IntKind.u64 b1), C.v (Value.int IntKind.u64 b2), C.v (Value.int IntKind.u64 b3)]] [] ⟨V.tup [W.agg [C.v (Value.int IntKind.u64 (l0 (v4 a0 a1 a2 a3 - v4 b0 b1 b2 b3))), C.v (Value.int IntKind.u64 (l1 (v4 a0 a1 a2 a3 - v4 b0 b1 b2 b3))), C.v (Value.int IntKind.u64 (l2 (v4 a0 a1 a2 a3 - v4 b0 b1 b2 b3))), C.v (Value.int IntKind.u64 (l3 (v4 a0 a1 a2 a3 - v4 b0 b1 b2 b3)))], W.int IntKind.u64 (if v4 a0 a1 a2 a3 < v4 b0 b1 b2 b3 then 1 else 0)], [], []⟩ :=
  spec_of_whole (tab_ok libwb_ok) mixed Try.func87 [] 1000000 [] (by kernel_rfl) (by kernel_rfl) (by kernel_rfl) (by kernel_rfl) (by kernel_rfl) (by kernel_rfl)
    (ocons h1 (ocons h2 (ocons h3 (ocons h4 (ocons h5 (ocons h6 (ocons h7 (ocons h8 (ocons rfl (ocons rfl (ocons rfl onil)))))))))))
end Go.Proofs.Ytmjejlbmcefaoaa
namespace Go.Proofs.Ytmjejlbmcefaoaa
open Go Sx

def e218 : Entry := fun args ms => match args, ms with
  | [.c (.v (.int .u64 x)), .c (.v (.int .u64 y))], [] => some (⟨.tup [.c (.v (.int .u64 (x * y / 18446744073709551616))), .c (.v (.int .u64 (x * y % 18446744073709551616)))], [], []⟩, [w64 x, w64 y])
  | _, _ => none
theorem s218_1 (x : Int) (y : Int) : Sx.Spec Try.prog 218 [W.int IntKind.u64 x, W.int IntKind.u64 y] [] ⟨V.tup [W.int IntKind.u64 (IntKind.wrap IntKind.u64 (IntKind.wrap IntKind.u64 (IntKind.wrap IntKind.u64 (Int.fdiv x 4294967296 * Int.fdiv y 4294967296) + Int.fdiv (IntKind.wrap IntKind.u64 (IntKind.wrap IntKind.u64 (Int.fdiv x 4294967296 * andI IntKind.u64 y 4294967295) + Int.fdiv (IntKind.wrap IntKind.u64 (andI IntKind.u64 x 4294967295 * andI IntKind.u64 y 4294967295)) 4294967296)) 4294967296) + Int.fdiv (IntKind.wrap IntKind.u64 (andI IntKind.u64 (IntKind.wrap IntKind.u64 (IntKind.wrap IntKind.u64 (Int.fdiv x 4294967296 * andI IntKind.u64 y 4294967295) + Int.fdiv (IntKind.wrap IntKind.u64 (andI IntKind.u64 x 4294967295 * andI IntKind.u64 y 4294967295)) 4294967296)) 4294967295 + IntKind.wrap IntKind.u64 (andI IntKind.u64 x 4294967295 * Int.fdiv y 4294967296))) 4294967296)), W.int IntKind.u64 (IntKind.wrap IntKind.u64 (x * y))], [], []⟩ :=
  spec_of_whole (tab_ok libn_ok) mixed Try.func218 [] 1000000 [] (by kernel_rfl) (by kernel_rfl) (by kernel_rfl) (by kernel_rfl) (by kernel_rfl) (by kernel_rfl)
    (ocons rfl (ocons rfl (ocons rfl (ocons rfl (ocons rfl onil)))))

theorem and32 {x : Int} (h0 : 0 ≤ x) (h1 : x < 18446744073709551616) : andI IntKind.u64 x 4294967295 = x % 4294967296 := by
  obtain ⟨n, rfl⟩ := nat_of h0
  have hn : n < 2 ^ 64 := by omega
  have := andI_nat un64 (a := n) (b := 4294967295) hn (by decide)
  rw [show ((4294967295 : Int)) = ((4294967295 : Nat) : Int) from rfl, this, show (4294967295 : Nat) = 2 ^ 32 - 1 from rfl, Nat.and_two_pow_sub_one_eq_mod]
  simp
theorem mulParts {x y x0 x1 y0 y1 p00 p10 p01 p11 : Int} (hx0 : x0 = x % 4294967296) (hx1 : x1 = x / 4294967296) (hy0 : y0 = y % 4294967296) (hy1 : y1 = y / 4294967296) (h00 : p00 = x0 * y0) (h10 : p10 = x1 * y0) (h01 : p01 = x0 * y1) (h11 : p11 = x1 * y1) :
    x * y = p11 * 18446744073709551616 + (p10 + p01) * 4294967296 + p00 := by
  have ex : x = x1 * 4294967296 + x0 := by omega
  have ey : y = y1 * 4294967296 + y0 := by omega
  rw [ex, ey, h00, h10, h01, h11]
  grind
theorem mulBound {a b : Int} (ha : 0 ≤ a ∧ a ≤ 4294967295) (hb : 0 ≤ b ∧ b ≤ 4294967295) : 0 ≤ a * b ∧ a * b ≤ 18446744065119617025 := by
  refine ⟨Int.mul_nonneg ha.1 hb.1, ?_⟩
  have := Int.mul_le_mul ha.2 hb.2 hb.1 (by omega)
  omega
theorem wU (n : Int) : IntKind.wrap IntKind.u64 n = n % 18446744073709551616 := wrap_u64 n
theorem s218 {x y : Int} (hx : 0 ≤ x ∧ x < 18446744073709551616) (hy : 0 ≤ y ∧ y < 18446744073709551616) :
    Sx.Spec Try.prog 218 [W.int .u64 x, W.int .u64 y] [] ⟨.tup [.c (.v (.int .u64 (x * y / 18446744073709551616))), .c (.v (.int .u64 (x * y % 18446744073709551616)))], [], []⟩ := by
  refine spec_res (s218_1 x y) ?_
  have hm := mulParts (x := x) (y := y) rfl rfl rfl rfl rfl rfl rfl rfl
  have b00 := mulBound (a := x % 4294967296) (b := y % 4294967296) (by omega) (by omega)
  have b10 := mulBound (a := x / 4294967296) (b := y % 4294967296) (by omega) (by omega)
  have b01 := mulBound (a := x % 4294967296) (b := y / 4294967296) (by omega) (by omega)
  have b11 := mulBound (a := x / 4294967296) (b := y / 4294967296) (by omega) (by omega)
  rw [and32 hx.1 hx.2, and32 hy.1 hy.2, Int.fdiv_eq_ediv_of_nonneg x (by omega), Int.fdiv_eq_ediv_of_nonneg y (by omega)]
  have hp : 0 ≤ x * y := Int.mul_nonneg hx.1 hy.1
  generalize x % 4294967296 * (y % 4294967296) = p00 at *
  generalize x / 4294967296 * (y % 4294967296) = p10 at *
  generalize x % 4294967296 * (y / 4294967296) = p01 at *
  generalize x / 4294967296 * (y / 4294967296) = p11 at *
  generalize x * y = p at *
  have e1 : IntKind.wrap IntKind.u64 p00 = p00 := (wU _).trans (by omega)
  have e2 : IntKind.wrap IntKind.u64 p10 = p10 := (wU _).trans (by omega)
  have e3 : IntKind.wrap IntKind.u64 p01 = p01 := (wU _).trans (by omega)
  have e4 : IntKind.wrap IntKind.u64 p11 = p11 := (wU _).trans (by omega)
  rw [e1, e2, e3, e4, Int.fdiv_eq_ediv_of_nonneg p00 (by omega)]
  have e5 : IntKind.wrap IntKind.u64 (p10 + p00 / 4294967296) = p10 + p00 / 4294967296 := (wU _).trans (by omega)
  rw [e5, and32 (by omega) (by omega), Int.fdiv_eq_ediv_of_nonneg (p10 + p00 / 4294967296) (by omega)]
  have e6 : IntKind.wrap IntKind.u64 ((p10 + p00 / 4294967296) % 4294967296 + p01) = (p10 + p00 / 4294967296) % 4294967296 + p01 := (wU _).trans (by omega)
  rw [e6, Int.fdiv_eq_ediv_of_nonneg _ (by omega)]
  have e7 : IntKind.wrap IntKind.u64 (p11 + (p10 + p00 / 4294967296) / 4294967296) = p11 + (p10 + p00 / 4294967296) / 4294967296 := (wU _).trans (by omega)
  rw [e7]
  have e8 : IntKind.wrap IntKind.u64 (p11 + (p10 + p00 / 4294967296) / 4294967296 + ((p10 + p00 / 4294967296) % 4294967296 + p01) / 4294967296) = p / 18446744073709551616 := (wU _).trans (by omega)
  rw [e8, wU]
theorem e218_ok : EntryOk Try.prog 218 e218 := by
  intro args ms r obs h ho
  unfold e218 at h
  split at h
  · cases h
    exact s218 (w64_of (ohead ho)) (w64_of (ohead (otail ho)))
  · cases h
end Go.Proofs.Ytmjejlbmcefaoaa
namespace Go.Proofs.Ytmjejlbmcefaoaa
open Go Sx

def b2n (b : Bool) : Nat := cond b 1 0
def r84 : List Nat → Res := fun ns => match ns with | [a, b] => ⟨.tup [.agg (numC (a + b)), .c (.u ((a + b) / 115792089237316195423570985008687907853269984665640564039457584007913129639936))], [], []⟩ | _ => ⟨.tup [], [], []⟩
def r87 : List Nat → Res := fun ns => match ns with | [a, b] => ⟨.tup [.agg (numC (a + (115792089237316195423570985008687907853269984665640564039457584007913129639936 - b))), .c (.u (b2n (Nat.blt a b)))], [], []⟩ | _ => ⟨.tup [], [], []⟩
def r89 : List Nat → Res := fun ns => match ns with | [a, b] => ⟨.tup [.agg (numC (a * b)), .agg (numC (a * b / 115792089237316195423570985008687907853269984665640564039457584007913129639936))], [], []⟩ | _ => ⟨.tup [], [], []⟩
def cmpN (a b : Nat) : Int := bif Nat.blt a b then -1 else bif Nat.beq a b then 0 else 1
def r91 : List Nat → Res := fun ns => match ns with | [a, b] => ⟨V.int .i64 (cmpN a b), [], []⟩ | _ => ⟨.tup [], [], []⟩
def remN (a b m : Nat) : Nat := bif Nat.beq m 0 then 0 else (a + 115792089237316195423570985008687907853269984665640564039457584007913129639936 * b) % m
def r93 : List Nat → Res := fun ns => match ns with | [a, b, m] => ⟨.w (.agg (numC (remN a b m))), [], []⟩ | _ => ⟨.tup [], [], []⟩
def r94 : List Nat → Res := fun ns => match ns with | [a] => ⟨V.bool (Nat.beq a 0), [], []⟩ | _ => ⟨.tup [], [], []⟩
def cmpI (a b : Int) : Int := bif decide (a < b) then -1 else bif decide (b < a) then 1 else 0
def lenI (n : Int) : Int := bif decide (n = 0) then 0 else ((Nat.log2 n.toNat + 1 : Nat) : Int)
def bitI (n : Nat) (i : Int) : Nat := bif decide (0 ≤ i) && decide (i < 256) then n / 2 ^ i.toNat % 2 else 0
def e220 : Entry := fun args ms => match args, ms with
  | [.c (.v (.int .u64 x)), .c (.v (.int .u64 y))], [] => some (⟨V.int .i64 (cmpI x y), [], []⟩, [])
  | _, _ => none
def e257 : Entry := fun args ms => match args, ms with
  | [.c (.v (.int .u64 _))], [] => some (⟨V.bool false, [], []⟩, [])
  | _, _ => none
def e222 : Entry := fun args ms => match args, ms with
  | [.c (.v (.int .u64 x))], [] => some (⟨V.int .i64 (lenI x), [], []⟩, [w64 x])
  | _, _ => none
def e101n : Entry := fun args ms => match args, ms with
  | [.agg l, .c (.v (.int .i64 i))], [] => match nums l with
    | some (n :: _, o) => some (⟨.w (.c (.u (bitI n i))), [], []⟩, Nat.beq l.length 4 :: o)
    | _ => none
  | _, _ => none

def len8 : ByteArray := (ByteArray.mk (List.toArray (List.append (List.append [OfNat.ofNat 0, OfNat.ofNat 1, OfNat.ofNat 2, OfNat.ofNat 2, OfNat.ofNat 3, OfNat.ofNat 3, OfNat.ofNat 3, OfNat.ofNat 3, OfNat.ofNat 4, OfNat.ofNat 4, OfNat.ofNat 4, OfNat.ofNat 4, OfNat.ofNat 4, OfNat.ofNat 4, OfNat.ofNat 4, OfNat.ofNat 4, OfNat.ofNat 5, OfNat.ofNat 5, OfNat.ofNat 5, OfNat.ofNat 5, OfNat.ofNat 5, OfNat.ofNat 5, OfNat.ofNat 5, OfNat.ofNat 5, OfNat.ofNat 5, OfNat.ofNat 5, OfNat.ofNat 5, OfNat.ofNat 5, OfNat.ofNat 5, OfNat.ofNat 5, OfNat.ofNat 5, OfNat.ofNat 5, OfNat.ofNat 6, OfNat.ofNat 6, OfNat.ofNat 6, OfNat.ofNat 6, OfNat.ofNat 6, OfNat.ofNat 6, OfNat.ofNat 6, OfNat.ofNat 6, OfNat.ofNat 6, OfNat.ofNat 6, OfNat.ofNat 6, OfNat.ofNat 6, OfNat.ofNat 6, OfNat.ofNat 6, OfNat.ofNat 6, OfNat.ofNat 6, OfNat.ofNat 6, OfNat.ofNat 6, OfNat.ofNat 6, OfNat.ofNat 6, OfNat.ofNat 6, OfNat.ofNat 6, OfNat.ofNat 6, OfNat.ofNat 6, OfNat.ofNat 6, OfNat.ofNat 6, OfNat.ofNat 6, OfNat.ofNat 6, OfNat.ofNat 6, OfNat.ofNat 6, OfNat.ofNat 6, OfNat.ofNat 6] [OfNat.ofNat 7, OfNat.ofNat 7, OfNat.ofNat 7, OfNat.ofNat 7, OfNat.ofNat 7, OfNat.ofNat 7, OfNat.ofNat 7, OfNat.ofNat 7, OfNat.ofNat 7, OfNat.ofNat 7, OfNat.ofNat 7, OfNat.ofNat 7, OfNat.ofNat 7, OfNat.ofNat 7, OfNat.ofNat 7, OfNat.ofNat 7, OfNat.ofNat 7, OfNat.ofNat 7, OfNat.ofNat 7, OfNat.ofNat 7, OfNat.ofNat 7, OfNat.ofNat 7, OfNat.ofNat 7, OfNat.ofNat 7, OfNat.ofNat 7, OfNat.ofNat 7, OfNat.ofNat 7, OfNat.ofNat 7, OfNat.ofNat 7, OfNat.ofNat 7, OfNat.ofNat 7, OfNat.ofNat 7, OfNat.ofNat 7, OfNat.ofNat 7, OfNat.ofNat 7, OfNat.ofNat 7, OfNat.ofNat 7, OfNat.ofNat 7, OfNat.ofNat 7, OfNat.ofNat 7, OfNat.ofNat 7, OfNat.ofNat 7, OfNat.ofNat 7, OfNat.ofNat 7, OfNat.ofNat 7, OfNat.ofNat 7, OfNat.ofNat 7, OfNat.ofNat 7, OfNat.ofNat 7, OfNat.ofNat 7, OfNat.ofNat 7, OfNat.ofNat 7, OfNat.ofNat 7, OfNat.ofNat 7, OfNat.ofNat 7, OfNat.ofNat 7, OfNat.ofNat 7, OfNat.ofNat 7, OfNat.ofNat 7, OfNat.ofNat 7, OfNat.ofNat 7, OfNat.ofNat 7, OfNat.ofNat 7, OfNat.ofNat 7]) (List.append [OfNat.ofNat 8, OfNat.ofNat 8, OfNat.ofNat 8, OfNat.ofNat 8, OfNat.ofNat 8, OfNat.ofNat 8, OfNat.ofNat 8, OfNat.ofNat 8, OfNat.ofNat 8, OfNat.ofNat 8, OfNat.ofNat 8, OfNat.ofNat 8, OfNat.ofNat 8, OfNat.ofNat 8, OfNat.ofNat 8, OfNat.ofNat 8, OfNat.ofNat 8, OfNat.ofNat 8, OfNat.ofNat 8, OfNat.ofNat 8, OfNat.ofNat 8, OfNat.ofNat 8, OfNat.ofNat 8, OfNat.ofNat 8, OfNat.ofNat 8, OfNat.ofNat 8, OfNat.ofNat 8, OfNat.ofNat 8, OfNat.ofNat 8, OfNat.ofNat 8, OfNat.ofNat 8, OfNat.ofNat 8, OfNat.ofNat 8, OfNat.ofNat 8, OfNat.ofNat 8, OfNat.ofNat 8, OfNat.ofNat 8, OfNat.ofNat 8, OfNat.ofNat 8, OfNat.ofNat 8, OfNat.ofNat 8, OfNat.ofNat 8, OfNat.ofNat 8, OfNat.ofNat 8, OfNat.ofNat 8, OfNat.ofNat 8, OfNat.ofNat 8, OfNat.ofNat 8, OfNat.ofNat 8, OfNat.ofNat 8, OfNat.ofNat 8, OfNat.ofNat 8, OfNat.ofNat 8, OfNat.ofNat 8, OfNat.ofNat 8, OfNat.ofNat 8, OfNat.ofNat 8, OfNat.ofNat 8, OfNat.ofNat 8, OfNat.ofNat 8, OfNat.ofNat 8, OfNat.ofNat 8, OfNat.ofNat 8, OfNat.ofNat 8] [OfNat.ofNat 8, OfNat.ofNat 8, OfNat.ofNat 8, OfNat.ofNat 8, OfNat.ofNat 8, OfNat.ofNat 8, OfNat.ofNat 8, OfNat.ofNat 8, OfNat.ofNat 8, OfNat.ofNat 8, OfNat.ofNat 8, OfNat.ofNat 8, OfNat.ofNat 8, OfNat.ofNat 8, OfNat.ofNat 8, OfNat.ofNat 8, OfNat.ofNat 8, OfNat.ofNat 8, OfNat.ofNat 8, OfNat.ofNat 8, OfNat.ofNat 8, OfNat.ofNat 8, OfNat.ofNat 8, OfNat.ofNat 8, OfNat.ofNat 8, OfNat.ofNat 8, OfNat.ofNat 8, OfNat.ofNat 8, OfNat.ofNat 8, OfNat.ofNat 8, OfNat.ofNat 8, OfNat.ofNat 8, OfNat.ofNat 8, OfNat.ofNat 8, OfNat.ofNat 8, OfNat.ofNat 8, OfNat.ofNat 8, OfNat.ofNat 8, OfNat.ofNat 8, OfNat.ofNat 8, OfNat.ofNat 8, OfNat.ofNat 8, OfNat.ofNat 8, OfNat.ofNat 8, OfNat.ofNat 8, OfNat.ofNat 8, OfNat.ofNat 8, OfNat.ofNat 8, OfNat.ofNat 8, OfNat.ofNat 8, OfNat.ofNat 8, OfNat.ofNat 8, OfNat.ofNat 8, OfNat.ofNat 8, OfNat.ofNat 8, OfNat.ofNat 8, OfNat.ofNat 8, OfNat.ofNat 8, OfNat.ofNat 8, OfNat.ofNat 8, OfNat.ofNat 8, OfNat.ofNat 8, OfNat.ofNat 8, OfNat.ofNat 8]))))
theorem s257_1 (x : Int) : Sx.Spec Try.prog 257 [W.int IntKind.u64 x] [] ⟨V.bool (x != x), [], []⟩ :=
  spec_of_whole (tab_ok libn_ok) mixed Try.func257 [] 1000000 [] (by kernel_rfl) (by kernel_rfl) (by kernel_rfl) (by kernel_rfl) (by kernel_rfl) (by kernel_rfl)
    onil


theorem e257_ok : EntryOk Try.prog 257 e257 := by
  intro args ms r obs h ho
  unfold e257 at h
  split at h
  · cases h
    exact spec_res (s257_1 _) (by simp)
  · cases h
def libc7 : List (Nat × Entry) := [(257, e257)]
theorem libc7_ok : AllOk Try.prog libc7 := .cons e257_ok (.nil _)
theorem s220_1 (x : Int) (y : Int) (h1 : x < y) : Sx.Spec Try.prog 220 [W.int IntKind.u64 x, W.int IntKind.u64 y] [] ⟨V.int IntKind.i64 (-1), [], []⟩ :=
  spec_of_whole (tab_ok libc7_ok) mixed Try.func220 [(16, true)] 1000000 [] (by kernel_rfl) (by kernel_rfl) (by kernel_rfl) (by kernel_rfl) (by kernel_rfl) (by kernel_rfl)
    (ocons (decide_eq_true h1) onil)
theorem s220_2 (x : Int) (y : Int) (h1 : ¬x < y) (h2 : x > y) : Sx.Spec Try.prog 220 [W.int IntKind.u64 x, W.int IntKind.u64 y] [] ⟨V.int IntKind.i64 1, [], []⟩ :=
  spec_of_whole (tab_ok libc7_ok) mixed Try.func220 [(16, false), (19, true)] 1000000 [] (by kernel_rfl) (by kernel_rfl) (by kernel_rfl) (by kernel_rfl) (by kernel_rfl) (by kernel_rfl)
    (ocons (ndec h1) (ocons (decide_eq_true h2) onil))
theorem s220_3 (x : Int) (y : Int) (h1 : ¬x < y) (h2 : ¬x > y) : Sx.Spec Try.prog 220 [W.int IntKind.u64 x, W.int IntKind.u64 y] [] ⟨V.int IntKind.i64 0, [], []⟩ :=
  spec_of_whole (tab_ok libc7_ok) mixed Try.func220 [(16, false), (19, false)] 1000000 [] (by kernel_rfl) (by kernel_rfl) (by kernel_rfl) (by kernel_rfl) (by kernel_rfl) (by kernel_rfl)
    (ocons (ndec h1) (ocons (ndec h2) onil))


theorem s220 (x y : Int) : Sx.Spec Try.prog 220 [W.int .u64 x, W.int .u64 y] [] ⟨V.int .i64 (cmpI x y), [], []⟩ := by
  by_cases h1 : x < y
  · exact spec_res (s220_1 x y h1) (by simp [cmpI, h1])
  · by_cases h2 : y < x
    · exact spec_res (s220_2 x y h1 h2) (by simp [cmpI, h1, h2])
    · exact spec_res (s220_3 x y h1 h2) (by simp [cmpI, h1, h2])
theorem e220_ok : EntryOk Try.prog 220 e220 := by
  intro args ms r obs h ho
  unfold e220 at h
  split at h
  · cases h
    exact s220 _ _
  · cases h
set_option maxRecDepth 4000 in
theorem s222_1 (x : Int) (h1 : x ≥ 4294967296) (h2 : Int.fdiv x 4294967296 ≥ 65536) (h3 : Int.fdiv (Int.fdiv x 4294967296) 65536 ≥ 256) (h4 : 0 ≤ IntKind.wrap IntKind.u8 (Int.fdiv (Int.fdiv (Int.fdiv x 4294967296) 65536) 256)) (h5 : IntKind.wrap IntKind.u8 (Int.fdiv (Int.fdiv (Int.fdiv x 4294967296) 65536) 256) < 256) : Sx.Spec Try.prog 222 [W.int IntKind.u64 x] [] ⟨V.int IntKind.i64 (IntKind.wrap IntKind.i64 (56 + IntKind.wrap IntKind.i64 (bt len8 (IntKind.wrap IntKind.u8 (Int.fdiv (Int.fdiv (Int.fdiv x 4294967296) 65536) 256))))), [], []⟩ :=
  spec_of_whole (tab_ok libn_ok) mixed Try.func222 [(4, true), (8, true), (14, true)] 1000000 [] (by kernel_rfl) (by kernel_rfl) (by kernel_rfl) (by kernel_rfl) (by kernel_rfl) (by kernel_rfl)
    (ocons (decide_eq_true h1) (ocons rfl (ocons (decide_eq_true h2) (ocons rfl (ocons (decide_eq_true h3) (ocons rfl (ocons (decide_eq_true h4) (ocons (decide_eq_true h5) onil))))))))
set_option maxRecDepth 4000 in
theorem s222_2 (x : Int) (h1 : x ≥ 4294967296) (h2 : Int.fdiv x 4294967296 ≥ 65536) (h3 : ¬Int.fdiv (Int.fdiv x 4294967296) 65536 ≥ 256) (h4 : 0 ≤ IntKind.wrap IntKind.u8 (Int.fdiv (Int.fdiv x 4294967296) 65536)) (h5 : IntKind.wrap IntKind.u8 (Int.fdiv (Int.fdiv x 4294967296) 65536) < 256) : Sx.Spec Try.prog 222 [W.int IntKind.u64 x] [] ⟨V.int IntKind.i64 (IntKind.wrap IntKind.i64 (48 + IntKind.wrap IntKind.i64 (bt len8 (IntKind.wrap IntKind.u8 (Int.fdiv (Int.fdiv x 4294967296) 65536))))), [], []⟩ :=
  spec_of_whole (tab_ok libn_ok) mixed Try.func222 [(4, true), (8, true), (14, false)] 1000000 [] (by kernel_rfl) (by kernel_rfl) (by kernel_rfl) (by kernel_rfl) (by kernel_rfl) (by kernel_rfl)
    (ocons (decide_eq_true h1) (ocons rfl (ocons (decide_eq_true h2) (ocons rfl (ocons (ndec h3) (ocons (decide_eq_true h4) (ocons (decide_eq_true h5) onil)))))))
set_option maxRecDepth 4000 in
theorem s222_3 (x : Int) (h1 : x ≥ 4294967296) (h2 : ¬Int.fdiv x 4294967296 ≥ 65536) (h3 : Int.fdiv x 4294967296 ≥ 256) (h4 : 0 ≤ IntKind.wrap IntKind.u8 (Int.fdiv (Int.fdiv x 4294967296) 256)) (h5 : IntKind.wrap IntKind.u8 (Int.fdiv (Int.fdiv x 4294967296) 256) < 256) : Sx.Spec Try.prog 222 [W.int IntKind.u64 x] [] ⟨V.int IntKind.i64 (IntKind.wrap IntKind.i64 (40 + IntKind.wrap IntKind.i64 (bt len8 (IntKind.wrap IntKind.u8 (Int.fdiv (Int.fdiv x 4294967296) 256))))), [], []⟩ :=
  spec_of_whole (tab_ok libn_ok) mixed Try.func222 [(4, true), (8, false), (14, true)] 1000000 [] (by kernel_rfl) (by kernel_rfl) (by kernel_rfl) (by kernel_rfl) (by kernel_rfl) (by kernel_rfl)
    (ocons (decide_eq_true h1) (ocons rfl (ocons (ndec h2) (ocons (decide_eq_true h3) (ocons rfl (ocons (decide_eq_true h4) (ocons (decide_eq_true h5) onil)))))))
set_option maxRecDepth 4000 in
theorem s222_4 (x : Int) (h1 : x ≥ 4294967296) (h2 : ¬Int.fdiv x 4294967296 ≥ 65536) (h3 : ¬Int.fdiv x 4294967296 ≥ 256) (h4 : 0 ≤ IntKind.wrap IntKind.u8 (Int.fdiv x 4294967296)) (h5 : IntKind.wrap IntKind.u8 (Int.fdiv x 4294967296) < 256) : Sx.Spec Try.prog 222 [W.int IntKind.u64 x] [] ⟨V.int IntKind.i64 (IntKind.wrap IntKind.i64 (32 + IntKind.wrap IntKind.i64 (bt len8 (IntKind.wrap IntKind.u8 (Int.fdiv x 4294967296))))), [], []⟩ :=
  spec_of_whole (tab_ok libn_ok) mixed Try.func222 [(4, true), (8, false), (14, false)] 1000000 [] (by kernel_rfl) (by kernel_rfl) (by kernel_rfl) (by kernel_rfl) (by kernel_rfl) (by kernel_rfl)
    (ocons (decide_eq_true h1) (ocons rfl (ocons (ndec h2) (ocons (ndec h3) (ocons (decide_eq_true h4) (ocons (decide_eq_true h5) onil))))))
set_option maxRecDepth 4000 in
theorem s222_5 (x : Int) (h1 : ¬x ≥ 4294967296) (h2 : x ≥ 65536) (h3 : Int.fdiv x 65536 ≥ 256) (h4 : 0 ≤ IntKind.wrap IntKind.u8 (Int.fdiv (Int.fdiv x 65536) 256)) (h5 : IntKind.wrap IntKind.u8 (Int.fdiv (Int.fdiv x 65536) 256) < 256) : Sx.Spec Try.prog 222 [W.int IntKind.u64 x] [] ⟨V.int IntKind.i64 (IntKind.wrap IntKind.i64 (24 + IntKind.wrap IntKind.i64 (bt len8 (IntKind.wrap IntKind.u8 (Int.fdiv (Int.fdiv x 65536) 256))))), [], []⟩ :=
  spec_of_whole (tab_ok libn_ok) mixed Try.func222 [(4, false), (8, true), (14, true)] 1000000 [] (by kernel_rfl) (by kernel_rfl) (by kernel_rfl) (by kernel_rfl) (by kernel_rfl) (by kernel_rfl)
    (ocons (ndec h1) (ocons (decide_eq_true h2) (ocons rfl (ocons (decide_eq_true h3) (ocons rfl (ocons (decide_eq_true h4) (ocons (decide_eq_true h5) onil)))))))
set_option maxRecDepth 4000 in
theorem s222_6 (x : Int) (h1 : ¬x ≥ 4294967296) (h2 : x ≥ 65536) (h3 : ¬Int.fdiv x 65536 ≥ 256) (h4 : 0 ≤ IntKind.wrap IntKind.u8 (Int.fdiv x 65536)) (h5 : IntKind.wrap IntKind.u8 (Int.fdiv x 65536) < 256) : Sx.Spec Try.prog 222 [W.int IntKind.u64 x] [] ⟨V.int IntKind.i64 (IntKind.wrap IntKind.i64 (16 + IntKind.wrap IntKind.i64 (bt len8 (IntKind.wrap IntKind.u8 (Int.fdiv x 65536))))), [], []⟩ :=
  spec_of_whole (tab_ok libn_ok) mixed Try.func222 [(4, false), (8, true), (14, false)] 1000000 [] (by kernel_rfl) (by kernel_rfl) (by kernel_rfl) (by kernel_rfl) (by kernel_rfl) (by kernel_rfl)
    (ocons (ndec h1) (ocons (decide_eq_true h2) (ocons rfl (ocons (ndec h3) (ocons (decide_eq_true h4) (ocons (decide_eq_true h5) onil))))))
set_option maxRecDepth 4000 in
theorem s222_7 (x : Int) (h1 : ¬x ≥ 4294967296) (h2 : ¬x ≥ 65536) (h3 : x ≥ 256) (h4 : 0 ≤ IntKind.wrap IntKind.u8 (Int.fdiv x 256)) (h5 : IntKind.wrap IntKind.u8 (Int.fdiv x 256) < 256) : Sx.Spec Try.prog 222 [W.int IntKind.u64 x] [] ⟨V.int IntKind.i64 (IntKind.wrap IntKind.i64 (8 + IntKind.wrap IntKind.i64 (bt len8 (IntKind.wrap IntKind.u8 (Int.fdiv x 256))))), [], []⟩ :=
  spec_of_whole (tab_ok libn_ok) mixed Try.func222 [(4, false), (8, false), (14, true)] 1000000 [] (by kernel_rfl) (by kernel_rfl) (by kernel_rfl) (by kernel_rfl) (by kernel_rfl) (by kernel_rfl)
    (ocons (ndec h1) (ocons (ndec h2) (ocons (decide_eq_true h3) (ocons rfl (ocons (decide_eq_true h4) (ocons (decide_eq_true h5) onil))))))
set_option maxRecDepth 4000 in
theorem s222_8 (x : Int) (h1 : ¬x ≥ 4294967296) (h2 : ¬x ≥ 65536) (h3 : ¬x ≥ 256) (h4 : 0 ≤ IntKind.wrap IntKind.u8 x) (h5 : IntKind.wrap IntKind.u8 x < 256) : Sx.Spec Try.prog 222 [W.int IntKind.u64 x] [] ⟨V.int IntKind.i64 (IntKind.wrap IntKind.i64 (0 + IntKind.wrap IntKind.i64 (bt len8 (IntKind.wrap IntKind.u8 x)))), [], []⟩ :=
  spec_of_whole (tab_ok libn_ok) mixed Try.func222 [(4, false), (8, false), (14, false)] 1000000 [] (by kernel_rfl) (by kernel_rfl) (by kernel_rfl) (by kernel_rfl) (by kernel_rfl) (by kernel_rfl)
    (ocons (ndec h1) (ocons (ndec h2) (ocons (ndec h3) (ocons (decide_eq_true h4) (ocons (decide_eq_true h5) onil)))))


theorem len8_ok : ∀ i, i < 256 → bt len8 ((i : Nat) : Int) = lenI (i : Nat) := by decide +kernel
theorem lenI_shift {x : Int} (k : Nat) (h : (2 : Int) ^ k ≤ x) : lenI x = k + lenI (x.fdiv (2 ^ k)) := by
  have h0 : (0 : Int) < 2 ^ k := Int.pow_pos (by decide)
  obtain ⟨n, rfl⟩ := nat_of (n := x) (by omega)
  have hp : ((2 : Int) ^ k) = ((2 ^ k : Nat) : Int) := by simp
  rw [hp] at h ⊢
  have h' : 2 ^ k ≤ n := by omega
  have e : ((n : Int).fdiv ((2 ^ k : Nat) : Int)) = ((n / 2 ^ k : Nat) : Int) := by
    rw [Int.fdiv_eq_ediv_of_nonneg _ (by omega)]; rfl
  rw [e]
  have hn : n ≠ 0 := by have := Nat.pow_pos (n := k) (show 0 < 2 by decide); omega
  have hd : n / 2 ^ k ≠ 0 := by
    have := Nat.div_pos h' (Nat.pow_pos (n := k) (show 0 < 2 by decide))
    omega
  have hl : Nat.log2 n = k + Nat.log2 (n / 2 ^ k) := by
    rw [Nat.log2_eq_iff hn]
    obtain ⟨a, b⟩ := (Nat.log2_eq_iff hd).1 rfl
    generalize Nat.log2 (n / 2 ^ k) = j at *
    rw [Nat.pow_add, show k + j + 1 = k + (j + 1) by omega, Nat.pow_add]
    have hm := Nat.div_add_mod n (2 ^ k)
    have hlt := Nat.mod_lt n (Nat.pow_pos (n := k) (show 0 < 2 by decide))
    constructor
    · calc 2 ^ k * 2 ^ j ≤ 2 ^ k * (n / 2 ^ k) := Nat.mul_le_mul_left _ a
        _ ≤ n := by omega
    · have : 2 ^ k * (n / 2 ^ k + 1) ≤ 2 ^ k * 2 ^ (j + 1) := Nat.mul_le_mul_left _ b
      rw [Nat.mul_add] at this
      omega
  unfold lenI
  have i1 : decide (((n : Nat) : Int) = 0) = false := by simp [hn]
  have i2 : decide (((n / 2 ^ k : Nat) : Int) = 0) = false := by
    rw [decide_eq_false_iff_not]; omega
  rw [i1, i2]
  simp only [cond_false, Int.toNat_natCast, hl]
  omega
theorem lenI_range {x : Int} (h0 : 0 ≤ x) (h1 : x < 18446744073709551616) : 0 ≤ lenI x ∧ lenI x ≤ 64 := by
  unfold lenI
  cases h : decide (x = 0) with
  | true => simp
  | false =>
    simp only [cond_false]
    have := Nat.log2_lt (n := x.toNat) (k := 64) (by simp at h; omega)
    have : x.toNat.log2 < 64 := this.2 (by omega)
    omega
theorem s222 {x : Int} (hx : 0 ≤ x ∧ x < 18446744073709551616) : Sx.Spec Try.prog 222 [W.int .u64 x] [] ⟨V.int .i64 (lenI x), [], []⟩ := by
  have tb : ∀ y : Int, 0 ≤ y → y < 256 → bt len8 (IntKind.wrap .u8 y) = lenI y := by
    intro y h0 h1
    obtain ⟨n, rfl⟩ := nat_of h0
    rw [wrap_u8, Int.emod_eq_of_lt h0 h1]
    exact len8_ok n (by omega)
  have w8 : ∀ y : Int, 0 ≤ IntKind.wrap .u8 y ∧ IntKind.wrap .u8 y < 256 := by intro y; rw [wrap_u8]; omega
  have fd : ∀ (y : Int) (m : Int), 0 ≤ m → y.fdiv m = y / m := fun y m h => Int.fdiv_eq_ediv_of_nonneg y h
  have fin : ∀ (c y : Int), 0 ≤ c → c ≤ 56 → 0 ≤ y → y < 256 → IntKind.wrap .i64 (c + IntKind.wrap .i64 (bt len8 (IntKind.wrap .u8 y))) = c + lenI y := by
    intro c y h0 h1 h2 h3
    rw [tb y h2 h3]
    have := lenI_range h2 (by omega)
    rw [i64w (n := lenI y) (by omega) (by omega), i64w] <;> omega
  have l32 := fun (y : Int) (h : y ≥ 4294967296) => lenI_shift 32 (x := y) (by omega)
  have l16 := fun (y : Int) (h : y ≥ 65536) => lenI_shift 16 (x := y) (by omega)
  have l8 := fun (y : Int) (h : y ≥ 256) => lenI_shift 8 (x := y) (by omega)
  have e32 : (2 : Int) ^ 32 = 4294967296 := rfl
  have e16 : (2 : Int) ^ 16 = 65536 := rfl
  have e8 : (2 : Int) ^ 8 = 256 := rfl
  rw [e32] at l32; rw [e16] at l16; rw [e8] at l8
  by_cases h1 : x ≥ 4294967296
  · rw [l32 x h1]
    by_cases h2 : Int.fdiv x 4294967296 ≥ 65536
    · rw [l16 _ h2]
      by_cases h3 : Int.fdiv (Int.fdiv x 4294967296) 65536 ≥ 256
      · rw [l8 _ h3]
        refine spec_res (s222_1 x h1 h2 h3 (w8 _).1 (w8 _).2) ?_
        rw [fin] <;> (try (rw [fd _ _ (by decide), fd _ _ (by decide), fd _ _ (by decide)])) <;> first | omega | (congr 2 <;> omega)
      · refine spec_res (s222_2 x h1 h2 h3 (w8 _).1 (w8 _).2) ?_
        have h3' := h3
        rw [fd _ _ (by decide), fd _ _ (by decide)] at h3'
        rw [fin] <;> (try (rw [fd _ _ (by decide), fd _ _ (by decide)])) <;> first | omega | (congr 2 <;> omega)
    · by_cases h3 : Int.fdiv x 4294967296 ≥ 256
      · rw [l8 _ h3]
        refine spec_res (s222_3 x h1 h2 h3 (w8 _).1 (w8 _).2) ?_
        have h2' := h2
        rw [fd _ _ (by decide)] at h2'
        rw [fin] <;> (try (rw [fd _ _ (by decide), fd _ _ (by decide)])) <;> first | omega | (congr 2 <;> omega)
      · refine spec_res (s222_4 x h1 h2 h3 (w8 _).1 (w8 _).2) ?_
        have h3' := h3
        rw [fd _ _ (by decide)] at h3'
        rw [fin] <;> (try (rw [fd _ _ (by decide)])) <;> first | omega | (congr 2 <;> omega)
  · by_cases h2 : x ≥ 65536
    · rw [l16 _ h2]
      by_cases h3 : Int.fdiv x 65536 ≥ 256
      · rw [l8 _ h3]
        refine spec_res (s222_5 x h1 h2 h3 (w8 _).1 (w8 _).2) ?_
        rw [fin] <;> (try (rw [fd _ _ (by decide), fd _ _ (by decide)])) <;> first | omega | (congr 2 <;> omega)
      · refine spec_res (s222_6 x h1 h2 h3 (w8 _).1 (w8 _).2) ?_
        have h3' := h3
        rw [fd _ _ (by decide)] at h3'
        rw [fin] <;> (try (rw [fd _ _ (by decide)])) <;> first | omega | (congr 2 <;> omega)
    · by_cases h3 : x ≥ 256
      · rw [l8 _ h3]
        refine spec_res (s222_7 x h1 h2 h3 (w8 _).1 (w8 _).2) ?_
        rw [fin] <;> (try (rw [fd _ _ (by decide)])) <;> first | omega | (congr 2 <;> omega)
      · refine spec_res (s222_8 x h1 h2 h3 (w8 _).1 (w8 _).2) ?_
        rw [fin] <;> first | omega | (congr 2 <;> omega)
theorem e222_ok : EntryOk Try.prog 222 e222 := by
  intro args ms r obs h ho
  unfold e222 at h
  split at h
  · cases h
    exact s222 (w64_of (ohead ho))
  · cases h
end Go.Proofs.Ytmjejlbmcefaoaa
namespace Go.Proofs.Ytmjejlbmcefaoaa
open Go Sx

def libd0 : List (Nat × Entry) := [(220, e220), (222, e222)]
theorem libd0_ok : AllOk Try.prog libd0 := .cons e220_ok (.cons e222_ok (.nil _))
theorem blt_f {a b : Nat} (h : ¬ a < b) : Nat.blt a b = false := by
  cases hh : Nat.blt a b with
  | false => rfl
  | true => exact absurd (by simpa using hh) h
theorem beq_f {a b : Nat} (h : ¬ a = b) : Nat.beq a b = false := by
  cases hh : Nat.beq a b with
  | false => rfl
  | true => exact absurd (Nat.beq_eq.mp hh) h
theorem rv_w {ρ : Env} {x x' : W} {y : Value} (h : RW ρ x y → RW ρ x' y) : RV ρ (.w x) y → RV ρ (.w x') y := h
theorem w64_wd (n i : Nat) : w64 (wd n i) = true := by
  have := wd_range n i
  simp [w64, this.1, this.2]
theorem v4_wd {n : Nat} (h : n < 115792089237316195423570985008687907853269984665640564039457584007913129639936) : v4 (wd n 0) (wd n 1) (wd n 2) (wd n 3) = (n : Int) := by
  rw [wd0, wd1, wd2, wd3]
  unfold v4
  omega
theorem wd_l (n : Nat) : wd n 0 = l0 (n : Int) ∧ wd n 1 = l1 (n : Int) ∧ wd n 2 = l2 (n : Int) ∧ wd n 3 = l3 (n : Int) := by
  rw [wd0, wd1, wd2, wd3]
  unfold l0 l1 l2 l3
  omega
theorem imps2 (a b : Nat) : Imps [.agg (numC a), .agg (numC b)] [.agg (numI a), .agg (numI b)] := .cons (fun _ _ => rw_numI.2) (.cons (fun _ _ => rw_numI.2) .nil)
/-- cells of numbers and a number's cells. -/
theorem rw_lC {ρ : Env} {x : Int} {n : Nat} (h0 : l0 x = wd n 0) (h1 : l1 x = wd n 1) (h2 : l2 x = wd n 2) (h3 : l3 x = wd n 3) (y : Value) (h : RW ρ (.agg [.v (.int .u64 (l0 x)), .v (.int .u64 (l1 x)), .v (.int .u64 (l2 x)), .v (.int .u64 (l3 x))]) y) : RW ρ (.agg (numC n)) y := by
  rw [h0, h1, h2, h3] at h
  exact rw_numI.1 h
theorem s84n {a b : Nat} (ha : a < P256) (hb : b < P256) : Sx.Spec Try.prog 84 [.agg (numC a), .agg (numC b)] [] (r84 [a, b]) := by
  refine Spec.imps (imps2 a b) ?_
  have h := s84_1 (wd a 0) (wd a 1) (wd a 2) (wd a 3) (wd b 0) (wd b 1) (wd b 2) (wd b 3) (w64_wd _ _) (w64_wd _ _) (w64_wd _ _) (w64_wd _ _) (w64_wd _ _) (w64_wd _ _) (w64_wd _ _) (w64_wd _ _)
  rw [v4_wd ha, v4_wd hb] at h
  refine Spec.resv (fun ρ y => rv_tup2 (fun y h => ?_) (fun y h => ?_)) h
  · have e := wd_l (a + b)
    rw [Int.natCast_add] at e
    exact rw_lC e.1.symm e.2.1.symm e.2.2.1.symm e.2.2.2.symm y h
  · refine (rc_word (ρ := ρ) (y := y) ?_).1 h
    unfold P256 at ha hb
    omega
theorem s87n {a b : Nat} (ha : a < P256) (hb : b < P256) : Sx.Spec Try.prog 87 [.agg (numC a), .agg (numC b)] [] (r87 [a, b]) := by
  refine Spec.imps (imps2 a b) ?_
  have h := s87_1 (wd a 0) (wd a 1) (wd a 2) (wd a 3) (wd b 0) (wd b 1) (wd b 2) (wd b 3) (w64_wd _ _) (w64_wd _ _) (w64_wd _ _) (w64_wd _ _) (w64_wd _ _) (w64_wd _ _) (w64_wd _ _) (w64_wd _ _)
  rw [v4_wd ha, v4_wd hb] at h
  unfold P256 at ha hb
  refine Spec.resv (fun ρ y => rv_tup2 (fun y h => ?_) (fun y h => ?_)) h
  · have e := wd_l (a + (115792089237316195423570985008687907853269984665640564039457584007913129639936 - b))
    have e0 : l0 ((a : Int) - b) = l0 ((a + (115792089237316195423570985008687907853269984665640564039457584007913129639936 - b) : Nat) : Int) := by unfold l0; omega
    have e1 : l1 ((a : Int) - b) = l1 ((a + (115792089237316195423570985008687907853269984665640564039457584007913129639936 - b) : Nat) : Int) := by unfold l1; omega
    have e2 : l2 ((a : Int) - b) = l2 ((a + (115792089237316195423570985008687907853269984665640564039457584007913129639936 - b) : Nat) : Int) := by unfold l2; omega
    have e3 : l3 ((a : Int) - b) = l3 ((a + (115792089237316195423570985008687907853269984665640564039457584007913129639936 - b) : Nat) : Int) := by unfold l3; omega
    exact rw_lC (e0.trans e.1.symm) (e1.trans e.2.1.symm) (e2.trans e.2.2.1.symm) (e3.trans e.2.2.2.symm) y h
  · refine (rc_word (ρ := ρ) (y := y) ?_).1 h
    unfold b2n
    by_cases hab : a < b
    · have : Nat.blt a b = true := by simpa using hab
      rw [this, if_pos (by omega)]; rfl
    · have : Nat.blt a b = false := blt_f hab
      rw [this, if_neg (by omega)]; rfl
theorem e84n_ok : EntryOk Try.prog 84 (numsE [1, 1] r84) := numsE_ok fun ns h hl => by
  obtain ⟨a, b, rfl⟩ := ns2 h
  exact s84n (hl a (by simp)) (hl b (by simp))
theorem e87n_ok : EntryOk Try.prog 87 (numsE [1, 1] r87) := numsE_ok fun ns h hl => by
  obtain ⟨a, b, rfl⟩ := ns2 h
  exact s87n (hl a (by simp)) (hl b (by simp))
theorem s94_1 (a : Nat) : Sx.Spec Try.prog 94 [W.agg (numC a)] [] ⟨V.bool (eqNs [nn a] [0]), [], []⟩ :=
  spec_of_whole (tab_ok libn_ok) mixed Try.func94 [] 1000000 [] (by kernel_rfl) (by kernel_rfl) (by kernel_rfl) (by kernel_rfl) (by kernel_rfl) (by kernel_rfl)
    onil


theorem e94n_ok : EntryOk Try.prog 94 (numsE [1] r94) := numsE_ok fun ns h hl => by
  obtain ⟨a, rfl⟩ := ns1 h
  refine spec_res (s94_1 a) ?_
  show (⟨V.bool (Nat.beq (nn a) 0), [], []⟩ : Res) = _
  rw [nn_id (hl a (by simp))]
  rfl
theorem s102_1 (x : Nat) : Sx.Spec Try.prog 102 [W.c (C.u x)] [] ⟨V.w (W.agg [C.u x, C.u 0, C.u 0, C.u 0]), [], []⟩ :=
  spec_of_whole (tab_ok libn_ok) mixed Try.func102 [] 1000000 [] (by kernel_rfl) (by kernel_rfl) (by kernel_rfl) (by kernel_rfl) (by kernel_rfl) (by kernel_rfl)
    (ocons rfl onil)


def e102n : Entry := fun args ms => match args, ms with
  | [.c c], [] => match wOf c with
    | some (x, o) => some (⟨.w (.agg (numC x)), [], []⟩, o)
    | none => none
  | _, _ => none
theorem e102n_ok : EntryOk Try.prog 102 e102n := by
  intro args ms r obs h ho
  unfold e102n at h
  split at h
  · rename_i c
    split at h
    · rename_i x o hw
      cases h
      obtain ⟨hx, hc⟩ := wOf_ok hw ho
      refine Spec.imps (bs := [.c (.u x)]) (.cons (fun ρ v hv => ?_) .nil) (Spec.resv (fun ρ y => ?_) (s102_1 x))
      · have := hc ρ v hv
        show v = _
        rw [this, Nat.mod_eq_of_lt hx]
      · refine rv_w fun h => rw4 (fun y h => h) (fun y h => ?_) (fun y h => ?_) (fun y h => ?_) h
        · show y = _
          rw [show y = _ from h]
          congr 2
          omega
        · show y = _
          rw [show y = _ from h]
          congr 2
          omega
        · show y = _
          rw [show y = _ from h]
          congr 2
          omega
    · cases h
  · cases h
noncomputable def s91k0 : List Item := kAt Try.prog (tab libd0) Try.f91 [] 0 [W.ints IntKind.u64 [0], W.ints IntKind.u64 [0]] []
noncomputable def s91st0 (l : List Int) (m : List Int) (t5 : Int) : Cfg := cfg s91k0 [2, 3, 5] [V.w (W.c (C.ptr 0 0)), V.w (W.c (C.ptr 1 0)), V.int IntKind.i64 t5] [Blk.mk 80 Mode.rw (K.ints IntKind.u64 l), Blk.mk 80 Mode.rw (K.ints IntKind.u64 m)]
theorem s91_1 {ρ : Env} {w : World} {r : Res} (l : List Int) (m : List Int) (hg : G (mkX Try.prog (tab libd0) Try.f91 [] ρ w r) (s91st0 (l) (m) (3))) : G (mkX Try.prog (tab libd0) Try.f91 [] ρ w r) (cfg [.code (Try.f91.body.getD .skip)] (List.range 2) ([W.ints IntKind.u64 l, W.ints IntKind.u64 m].map V.w) []) :=
  G.seg (X := mkX Try.prog (tab libd0) Try.f91 [] ρ w r) ⟨tab_ok libd0_ok, mixed⟩ [] 1000000 0 [2, 3, 5] [(0, none), (4, none)] (k := s91k0) (vs := [V.w (W.c (C.ptr 0 0)), V.w (W.c (C.ptr 1 0)), V.int IntKind.i64 3]) (bs := [Blk.mk 80 Mode.rw (K.ints IntKind.u64 l), Blk.mk 80 Mode.rw (K.ints IntKind.u64 m)]) (by kernel_rfl) (by kernel_rfl)
    onil hg
theorem s91_2 {ρ : Env} {w : World} (l : List Int) (m : List Int) (t5 : Int) (h1 : t5 ≥ 0) (h2 : 0 ≤ t5) (h3 : t5 < 4) (h4 : Int.toNat t5 < List.length l) (h5 : Int.toNat t5 < List.length m) (h6 : ¬List.getD l (Int.toNat t5) 0 = List.getD m (Int.toNat t5) 0) : G (mkX Try.prog (tab libd0) Try.f91 [] ρ w ⟨V.int IntKind.i64 (cmpI (List.getD l (Int.toNat t5) 0) (List.getD m (Int.toNat t5) 0)), [], []⟩) (s91st0 l m t5) :=
  G.ends (tab_ok libd0_ok) mixed [(7, true), (16, true)] 1000000 [] (by kernel_rfl) (by kernel_rfl) (by kernel_rfl) (by kernel_rfl)
    (ocons (decide_eq_true h1) (ocons (decide_eq_true h2) (ocons (decide_eq_true h3) (ocons (bltT h4) (ocons (decide_eq_true h2) (ocons (decide_eq_true h3) (ocons (bltT h5) (ocons (bneI h6) (ocons (decide_eq_true h2) (ocons (decide_eq_true h3) (ocons (bltT h4) (ocons (decide_eq_true h2) (ocons (decide_eq_true h3) (ocons (bltT h5) onil))))))))))))))
theorem s91_3 {ρ : Env} {w : World} {r : Res} (l : List Int) (m : List Int) (t5 : Int) (h1 : t5 ≥ 0) (h2 : 0 ≤ t5) (h3 : t5 < 4) (h4 : Int.toNat t5 < List.length l) (h5 : Int.toNat t5 < List.length m) (h6 : List.getD l (Int.toNat t5) 0 = List.getD m (Int.toNat t5) 0) (hg : G (mkX Try.prog (tab libd0) Try.f91 [] ρ w r) (s91st0 (l) (m) (IntKind.wrap IntKind.i64 (t5 - 1)))) : G (mkX Try.prog (tab libd0) Try.f91 [] ρ w r) (s91st0 l m t5) :=
  G.seg (X := mkX Try.prog (tab libd0) Try.f91 [] ρ w r) ⟨tab_ok libd0_ok, mixed⟩ [(7, true), (16, false)] 1000000 0 [2, 3, 5] [(0, none), (1, none)] (k := s91k0) (vs := [V.w (W.c (C.ptr 0 0)), V.w (W.c (C.ptr 1 0)), V.int IntKind.i64 (IntKind.wrap IntKind.i64 (t5 - 1))]) (bs := [Blk.mk 80 Mode.rw (K.ints IntKind.u64 l), Blk.mk 80 Mode.rw (K.ints IntKind.u64 m)]) (by kernel_rfl) (by kernel_rfl)
    (ocons (decide_eq_true h1) (ocons (decide_eq_true h2) (ocons (decide_eq_true h3) (ocons (bltT h4) (ocons (decide_eq_true h2) (ocons (decide_eq_true h3) (ocons (bltT h5) (ocons (nbneI h6) onil)))))))) hg
theorem s91_4 {ρ : Env} {w : World} (l : List Int) (m : List Int) (t5 : Int) (h1 : ¬t5 ≥ 0) : G (mkX Try.prog (tab libd0) Try.f91 [] ρ w ⟨V.int IntKind.i64 0, [], []⟩) (s91st0 l m t5) :=
  G.ends (tab_ok libd0_ok) mixed [(7, false)] 1000000 [] (by kernel_rfl) (by kernel_rfl) (by kernel_rfl) (by kernel_rfl)
    (ocons (ndec h1) onil)

noncomputable def s100k0 : List Item := kAt Try.prog (tab libd0) Try.f100 [] 0 [W.ints IntKind.u64 [0]] []
noncomputable def s100st0 (l : List Int) (t3 : Int) : Cfg := cfg s100k0 [1, 3] [V.w (W.c (C.ptr 0 0)), V.int IntKind.i64 t3] [Blk.mk 80 Mode.rw (K.ints IntKind.u64 l)]
theorem s100_1 {ρ : Env} {w : World} {r : Res} (l : List Int) (hg : G (mkX Try.prog (tab libd0) Try.f100 [] ρ w r) (s100st0 (l) (3))) : G (mkX Try.prog (tab libd0) Try.f100 [] ρ w r) (cfg [.code (Try.f100.body.getD .skip)] (List.range 1) ([W.ints IntKind.u64 l].map V.w) []) :=
  G.seg (X := mkX Try.prog (tab libd0) Try.f100 [] ρ w r) ⟨tab_ok libd0_ok, mixed⟩ [] 1000000 0 [1, 3] [(0, none)] (k := s100k0) (vs := [V.w (W.c (C.ptr 0 0)), V.int IntKind.i64 3]) (bs := [Blk.mk 80 Mode.rw (K.ints IntKind.u64 l)]) (by kernel_rfl) (by kernel_rfl)
    onil hg
theorem s100_2 {ρ : Env} {w : World} (l : List Int) (t3 : Int) (h1 : t3 ≥ 0) (h2 : 0 ≤ t3) (h3 : t3 < 4) (h4 : Int.toNat t3 < List.length l) (h5 : ¬List.getD l (Int.toNat t3) 0 = 0) (h6 : w64 (List.getD l (Int.toNat t3) 0) = true) : G (mkX Try.prog (tab libd0) Try.f100 [] ρ w ⟨V.int IntKind.i64 (IntKind.wrap IntKind.i64 (IntKind.wrap IntKind.i64 (64 * t3) + lenI (List.getD l (Int.toNat t3) 0))), [], []⟩) (s100st0 l t3) :=
  G.ends (tab_ok libd0_ok) mixed [(5, true), (11, true)] 1000000 [] (by kernel_rfl) (by kernel_rfl) (by kernel_rfl) (by kernel_rfl)
    (ocons (decide_eq_true h1) (ocons (decide_eq_true h2) (ocons (decide_eq_true h3) (ocons (bltT h4) (ocons (bneI h5) (ocons (decide_eq_true h2) (ocons (decide_eq_true h3) (ocons (bltT h4) (ocons h6 onil)))))))))
theorem s100_3 {ρ : Env} {w : World} {r : Res} (l : List Int) (t3 : Int) (h1 : t3 ≥ 0) (h2 : 0 ≤ t3) (h3 : t3 < 4) (h4 : Int.toNat t3 < List.length l) (h5 : List.getD l (Int.toNat t3) 0 = 0) (hg : G (mkX Try.prog (tab libd0) Try.f100 [] ρ w r) (s100st0 (l) (IntKind.wrap IntKind.i64 (t3 - 1)))) : G (mkX Try.prog (tab libd0) Try.f100 [] ρ w r) (s100st0 l t3) :=
  G.seg (X := mkX Try.prog (tab libd0) Try.f100 [] ρ w r) ⟨tab_ok libd0_ok, mixed⟩ [(5, true), (11, false)] 1000000 0 [1, 3] [(0, none)] (k := s100k0) (vs := [V.w (W.c (C.ptr 0 0)), V.int IntKind.i64 (IntKind.wrap IntKind.i64 (t3 - 1))]) (bs := [Blk.mk 80 Mode.rw (K.ints IntKind.u64 l)]) (by kernel_rfl) (by kernel_rfl)
    (ocons (decide_eq_true h1) (ocons (decide_eq_true h2) (ocons (decide_eq_true h3) (ocons (bltT h4) (ocons (nbneI h5) onil))))) hg
theorem s100_4 {ρ : Env} {w : World} (l : List Int) (t3 : Int) (h1 : ¬t3 ≥ 0) : G (mkX Try.prog (tab libd0) Try.f100 [] ρ w ⟨V.int IntKind.i64 0, [], []⟩) (s100st0 l t3) :=
  G.ends (tab_ok libd0_ok) mixed [(5, false)] 1000000 [] (by kernel_rfl) (by kernel_rfl) (by kernel_rfl) (by kernel_rfl)
    (ocons (ndec h1) onil)

theorem s101_1 (l : List Int) (i : Int) (h1 : i < 0) : Sx.Spec Try.prog 101 [W.ints IntKind.u64 l, W.int IntKind.i64 i] [] ⟨V.int IntKind.u64 0, [], []⟩ :=
  spec_of_whole (tab_ok libn_ok) mixed Try.func101 [(7, true)] 1000000 [] (by kernel_rfl) (by kernel_rfl) (by kernel_rfl) (by kernel_rfl) (by kernel_rfl) (by kernel_rfl)
    (ocons (decide_eq_true h1) onil)
theorem s101_2 (l : List Int) (i : Int) (h1 : ¬i < 0) (h2 : i > 255) : Sx.Spec Try.prog 101 [W.ints IntKind.u64 l, W.int IntKind.i64 i] [] ⟨V.int IntKind.u64 0, [], []⟩ :=
  spec_of_whole (tab_ok libn_ok) mixed Try.func101 [(7, false), (10, true)] 1000000 [] (by kernel_rfl) (by kernel_rfl) (by kernel_rfl) (by kernel_rfl) (by kernel_rfl) (by kernel_rfl)
    (ocons (ndec h1) (ocons (decide_eq_true h2) onil))
theorem s101_3 (l : List Int) (i : Int) (h1 : ¬i < 0) (h2 : ¬i > 255) (h3 : 0 ≤ IntKind.wrap IntKind.i64 (Int.tdiv i 64)) (h4 : IntKind.wrap IntKind.i64 (Int.tdiv i 64) < 4) (h5 : Int.toNat (IntKind.wrap IntKind.i64 (Int.tdiv i 64)) < List.length l) (h6 : 0 ≤ Int.tmod i 64) : Sx.Spec Try.prog 101 [W.ints IntKind.u64 l, W.int IntKind.i64 i] [] ⟨V.int IntKind.u64 (andI IntKind.u64 (Int.fdiv (List.getD l (Int.toNat (IntKind.wrap IntKind.i64 (Int.tdiv i 64))) 0) (2 ^ min (Int.toNat (Int.tmod i 64)) 64)) 1), [], []⟩ :=
  spec_of_whole (tab_ok libn_ok) mixed Try.func101 [(7, false), (10, false)] 1000000 [] (by kernel_rfl) (by kernel_rfl) (by kernel_rfl) (by kernel_rfl) (by kernel_rfl) (by kernel_rfl)
    (ocons (ndec h1) (ocons (ndec h2) (ocons rfl (ocons (decide_eq_true h3) (ocons (decide_eq_true h4) (ocons (bltT h5) (ocons rfl (ocons (decide_eq_true h6) onil))))))))


theorem imps2r (a b : Nat) : Imps [.agg (numC a), .agg (numC b)] [.ints .u64 (wrow a), .ints .u64 (wrow b)] := .cons (fun _ _ => rw_row) (.cons (fun _ _ => rw_row) .nil)
theorem cmpI_eq (x y : Int) : cmpI x y = if x < y then -1 else if y < x then 1 else 0 := by
  unfold cmpI
  by_cases h : x < y
  · simp [h]
  · by_cases h' : y < x <;> simp [h, h']
theorem cmpN_eq (a b : Nat) : cmpN a b = if a < b then -1 else if b < a then 1 else 0 := by
  unfold cmpN
  by_cases h : a < b
  · have : Nat.blt a b = true := by simpa using h
    simp [h, this]
  · have hb : Nat.blt a b = false := blt_f h
    by_cases h' : b < a
    · have : Nat.beq a b = false := by
        cases hh : Nat.beq a b with
        | false => rfl
        | true => have := Nat.beq_eq.mp hh; omega
      simp [h, h', hb, this]
    · have : a = b := by omega
      subst this
      simp [hb]
theorem row_get (a : Nat) : List.getD (wrow a) (Int.toNat 3) 0 = wd a 3 ∧ List.getD (wrow a) (Int.toNat 2) 0 = wd a 2 ∧ List.getD (wrow a) (Int.toNat 1) 0 = wd a 1 ∧ List.getD (wrow a) (Int.toNat 0) 0 = wd a 0 := ⟨rfl, rfl, rfl, rfl⟩
theorem s91n {a b : Nat} (ha : a < P256) (hb : b < P256) : Sx.Spec Try.prog 91 [.agg (numC a), .agg (numC b)] [] (r91 [a, b]) := by
  refine Spec.imps (imps2r a b) ?_
  refine spec_body (tab := tab libd0) Try.func91 (by kernel_rfl) (by kernel_rfl) (by kernel_rfl) fun ρ w => ?_
  have hl : ∀ n, (wrow n).length = 4 := fun n => rfl
  obtain ⟨a3, a2, a1, a0⟩ := row_get a
  obtain ⟨b3, b2, b1, b0⟩ := row_get b
  have fin : ∀ i : Nat, i < 4 → (∀ j, i < j → j < 4 → wd a j = wd b j) → wd a i ≠ wd b i → cmpI (wd a i) (wd b i) = cmpN a b := by
    intro i hi he hne
    rw [cmpI_eq, cmpN_eq]
    unfold P256 at ha hb
    match i, hi with
    | 0, _ =>
      have e1 := he 1 (by omega) (by omega)
      have e2 := he 2 (by omega) (by omega)
      have e3 := he 3 (by omega) (by omega)
      rw [wd0, wd0] at hne ⊢
      rw [wd1, wd1] at e1; rw [wd2, wd2] at e2; rw [wd3, wd3] at e3
      split <;> split <;> (try split) <;> (try split) <;> omega
    | 1, _ =>
      have e2 := he 2 (by omega) (by omega)
      have e3 := he 3 (by omega) (by omega)
      rw [wd1, wd1] at hne ⊢
      rw [wd2, wd2] at e2; rw [wd3, wd3] at e3
      split <;> split <;> (try split) <;> (try split) <;> omega
    | 2, _ =>
      have e3 := he 3 (by omega) (by omega)
      rw [wd2, wd2] at hne ⊢
      rw [wd3, wd3] at e3
      split <;> split <;> (try split) <;> (try split) <;> omega
    | 3, _ =>
      rw [wd3, wd3] at hne ⊢
      split <;> split <;> (try split) <;> (try split) <;> omega
  have res : ∀ {x y : Int} {c : Cfg}, x = y → G (mkX Try.prog (tab libd0) Try.f91 [] ρ w ⟨V.int .i64 x, [], []⟩) c → G (mkX Try.prog (tab libd0) Try.f91 [] ρ w ⟨V.int .i64 y, [], []⟩) c := fun e h => e ▸ h
  refine s91_1 _ _ ?_
  by_cases h3 : wd a 3 = wd b 3
  · refine s91_3 _ _ 3 (by decide) (by decide) (by decide) (by rw [hl]; decide) (by rw [hl]; decide) (by rw [a3, b3]; exact h3) ?_
    rw [show IntKind.wrap .i64 (3 - 1) = 2 from by decide]
    by_cases h2 : wd a 2 = wd b 2
    · refine s91_3 _ _ 2 (by decide) (by decide) (by decide) (by rw [hl]; decide) (by rw [hl]; decide) (by rw [a2, b2]; exact h2) ?_
      rw [show IntKind.wrap .i64 (2 - 1) = 1 from by decide]
      by_cases h1 : wd a 1 = wd b 1
      · refine s91_3 _ _ 1 (by decide) (by decide) (by decide) (by rw [hl]; decide) (by rw [hl]; decide) (by rw [a1, b1]; exact h1) ?_
        rw [show IntKind.wrap .i64 (1 - 1) = 0 from by decide]
        by_cases h0 : wd a 0 = wd b 0
        · refine s91_3 _ _ 0 (by decide) (by decide) (by decide) (by rw [hl]; decide) (by rw [hl]; decide) (by rw [a0, b0]; exact h0) ?_
          rw [show IntKind.wrap .i64 (0 - 1) = -1 from by decide]
          refine res ?_ (s91_4 _ _ (-1) (by decide))
          rw [cmpN_eq]
          unfold P256 at ha hb
          rw [wd0, wd0] at h0; rw [wd1, wd1] at h1; rw [wd2, wd2] at h2; rw [wd3, wd3] at h3
          split
          · omega
          · split <;> omega
        · refine res ?_ (s91_2 _ _ 0 (by decide) (by decide) (by decide) (by rw [hl]; decide) (by rw [hl]; decide) (by rw [a0, b0]; exact h0))
          rw [a0, b0]
          exact fin 0 (by omega) (fun j h h' => by match j, h, h' with | 1, _, _ => exact h1 | 2, _, _ => exact h2 | 3, _, _ => exact h3) h0
      · refine res ?_ (s91_2 _ _ 1 (by decide) (by decide) (by decide) (by rw [hl]; decide) (by rw [hl]; decide) (by rw [a1, b1]; exact h1))
        rw [a1, b1]
        exact fin 1 (by omega) (fun j h h' => by match j, h, h' with | 2, _, _ => exact h2 | 3, _, _ => exact h3) h1
    · refine res ?_ (s91_2 _ _ 2 (by decide) (by decide) (by decide) (by rw [hl]; decide) (by rw [hl]; decide) (by rw [a2, b2]; exact h2))
      rw [a2, b2]
      exact fin 2 (by omega) (fun j h h' => by match j, h, h' with | 3, _, _ => exact h3) h2
  · refine res ?_ (s91_2 _ _ 3 (by decide) (by decide) (by decide) (by rw [hl]; decide) (by rw [hl]; decide) (by rw [a3, b3]; exact h3))
    rw [a3, b3]
    exact fin 3 (by omega) (fun j h h' => by omega) h3
theorem e91n_ok : EntryOk Try.prog 91 (numsE [1, 1] r91) := numsE_ok fun ns h hl => by
  obtain ⟨a, b, rfl⟩ := ns2 h
  exact s91n (hl a (by simp)) (hl b (by simp))

def r100 : List Nat → Res := fun ns => match ns with | [a] => ⟨V.int .i64 (lenI (a : Nat)), [], []⟩ | _ => ⟨.tup [], [], []⟩
theorem len_top {a i : Nat} (hi : i < 4) (hz : a / 18446744073709551616 ^ (i + 1) = 0) (hn : wd a i ≠ 0) : IntKind.wrap .i64 (IntKind.wrap .i64 (64 * (i : Int)) + lenI (wd a i)) = lenI (a : Nat) := by
  have e : wd a i = ((a / 18446744073709551616 ^ i : Nat) : Int) := by
    unfold wd
    rw [Nat.pow_succ, ← Nat.div_div_eq_div_mul] at hz
    congr 1
    exact Nat.mod_eq_of_lt ((Nat.div_eq_zero_iff_lt (by decide)).1 hz)
  have hr := wd_range a i
  have hl := lenI_range hr.1 hr.2
  have ep : (18446744073709551616 : Nat) ^ i = 2 ^ (64 * i) := by rw [Nat.pow_mul]
  have hle : 2 ^ (64 * i) ≤ a := by
    rw [← ep]
    rcases Nat.lt_or_ge a (18446744073709551616 ^ i) with h | h
    · rw [e, Nat.div_eq_of_lt h] at hn
      exact absurd rfl hn
    · exact h
  have ec : ((2 : Int) ^ (64 * i)) = ((2 ^ (64 * i) : Nat) : Int) := by simp
  rw [lenI_shift (64 * i) (x := (a : Nat)) (by rw [ec]; omega)]
  have e2 : ((a : Nat) : Int).fdiv (2 ^ (64 * i)) = wd a i := by
    rw [e, ep, Int.fdiv_eq_ediv_of_nonneg _ (by exact_mod_cast Nat.zero_le _)]
    simp
  rw [e2, i64w (n := 64 * (i : Int)) (by omega) (by omega), i64w] <;> omega
theorem s100n {a : Nat} (ha : a < P256) : Sx.Spec Try.prog 100 [.agg (numC a)] [] (r100 [a]) := by
  refine Spec.imps (bs := [.ints .u64 (wrow a)]) (.cons (fun _ _ => rw_row) .nil) ?_
  refine spec_body (tab := tab libd0) Try.func100 (by kernel_rfl) (by kernel_rfl) (by kernel_rfl) fun ρ w => ?_
  have hl : (wrow a).length = 4 := rfl
  obtain ⟨a3, a2, a1, a0⟩ := row_get a
  have res : ∀ {x y : Int} {c : Cfg}, x = y → G (mkX Try.prog (tab libd0) Try.f100 [] ρ w ⟨V.int .i64 x, [], []⟩) c → G (mkX Try.prog (tab libd0) Try.f100 [] ρ w ⟨V.int .i64 y, [], []⟩) c := fun e h => e ▸ h
  unfold P256 at ha
  refine s100_1 _ ?_
  by_cases h3 : wd a 3 = 0
  · refine s100_3 _ 3 (by decide) (by decide) (by decide) (by rw [hl]; decide) (by rw [a3]; exact h3) ?_
    rw [show IntKind.wrap .i64 (3 - 1) = 2 from by decide]
    rw [wd3] at h3
    by_cases h2 : wd a 2 = 0
    · refine s100_3 _ 2 (by decide) (by decide) (by decide) (by rw [hl]; decide) (by rw [a2]; exact h2) ?_
      rw [show IntKind.wrap .i64 (2 - 1) = 1 from by decide]
      rw [wd2] at h2
      by_cases h1 : wd a 1 = 0
      · refine s100_3 _ 1 (by decide) (by decide) (by decide) (by rw [hl]; decide) (by rw [a1]; exact h1) ?_
        rw [show IntKind.wrap .i64 (1 - 1) = 0 from by decide]
        rw [wd1] at h1
        by_cases h0 : wd a 0 = 0
        · refine s100_3 _ 0 (by decide) (by decide) (by decide) (by rw [hl]; decide) (by rw [a0]; exact h0) ?_
          rw [show IntKind.wrap .i64 (0 - 1) = -1 from by decide]
          rw [wd0] at h0
          have : a = 0 := by omega
          subst this
          exact res rfl (s100_4 _ (-1) (by decide))
        · refine res ?_ (s100_2 _ 0 (by decide) (by decide) (by decide) (by rw [hl]; decide) (by rw [a0]; exact h0) (by rw [a0]; exact w64_wd _ _))
          rw [a0]
          exact len_top (i := 0) (by omega) (by show a / 18446744073709551616 ^ 1 = 0; omega) h0
      · refine res ?_ (s100_2 _ 1 (by decide) (by decide) (by decide) (by rw [hl]; decide) (by rw [a1]; exact h1) (by rw [a1]; exact w64_wd _ _))
        rw [a1]
        exact len_top (i := 1) (by omega) (by show a / 18446744073709551616 ^ 2 = 0; omega) h1
    · refine res ?_ (s100_2 _ 2 (by decide) (by decide) (by decide) (by rw [hl]; decide) (by rw [a2]; exact h2) (by rw [a2]; exact w64_wd _ _))
      rw [a2]
      exact len_top (i := 2) (by omega) (by show a / 18446744073709551616 ^ 3 = 0; omega) h2
  · refine res ?_ (s100_2 _ 3 (by decide) (by decide) (by decide) (by rw [hl]; decide) (by rw [a3]; exact h3) (by rw [a3]; exact w64_wd _ _))
    rw [a3]
    exact len_top (i := 3) (by omega) (by show a / 18446744073709551616 ^ 4 = 0; omega) h3
theorem e100n_ok : EntryOk Try.prog 100 (numsE [1] r100) := numsE_ok fun ns h hl => by
  obtain ⟨a, rfl⟩ := ns1 h
  exact s100n (hl a (by simp))
theorem bit_word (a q r : Nat) (hr : r < 64) : a / 18446744073709551616 ^ q % 18446744073709551616 / 2 ^ r % 2 = a / 2 ^ (64 * q + r) % 2 := by
  have e : (18446744073709551616 : Nat) = 2 ^ r * (2 * 2 ^ (63 - r)) := by
    rw [← Nat.mul_assoc, ← Nat.pow_succ, ← Nat.pow_add, show r.succ + (63 - r) = 64 by omega]
  have ep : (18446744073709551616 : Nat) ^ q = 2 ^ (64 * q) := by rw [Nat.pow_mul]
  rw [ep]
  generalize hb : a / 2 ^ (64 * q) = b
  rw [e, Nat.mod_mul_right_div_self, Nat.mod_mul_right_mod, Nat.pow_add, ← Nat.div_div_eq_div_mul, hb]
theorem s101n {a : Nat} (i : Int) : Sx.Spec Try.prog 101 [.agg (numC a), W.int .i64 i] [] ⟨.w (.c (.u (bitI a i))), [], []⟩ := by
  refine Spec.imps (bs := [.ints .u64 (wrow a), W.int .i64 i]) (.cons (fun _ _ => rw_row) (Imps.refl _)) ?_
  have zero : bitI a i = 0 → ∀ ρ y, RV ρ (V.int .u64 0) y → RV ρ (.w (.c (.u (bitI a i)))) y := by
    intro e ρ y h
    rw [e]
    exact h
  by_cases h1 : i < 0
  · exact Spec.resv (zero (by unfold bitI; rw [decide_eq_false (by omega)]; rfl)) (s101_1 _ i h1)
  · by_cases h2 : i > 255
    · refine Spec.resv (zero ?_) (s101_2 _ i h1 h2)
      unfold bitI
      rw [decide_eq_false (p := i < 256) (by omega), Bool.and_false]
      rfl
    · obtain ⟨n, rfl⟩ := nat_of (n := i) (by omega)
      have e1 : IntKind.wrap .i64 (Int.tdiv (n : Int) 64) = ((n / 64 : Nat) : Int) := by
        rw [Int.tdiv_eq_ediv_of_nonneg (by omega), i64w] <;> omega
      have e2 : Int.tmod (n : Int) 64 = ((n % 64 : Nat) : Int) := by
        rw [Int.tmod_eq_emod_of_nonneg (by omega)]; omega
      have hg : List.getD (wrow a) (n / 64) 0 = wd a (n / 64) := by
        have : n / 64 < 4 := by omega
        match n / 64, this with
        | 0, _ => rfl
        | 1, _ => rfl
        | 2, _ => rfl
        | 3, _ => rfl
      refine Spec.resv ?_ (s101_3 _ (n : Int) h1 h2 (by rw [e1]; omega) (by rw [e1]; omega) (by rw [e1]; show n / 64 < 4; omega) (by rw [e2]; omega))
      intro ρ y h
      show RC ρ (.u (bitI a (n : Int))) y
      refine (rc_word (ρ := ρ) (y := y) ?_).1 h
      rw [e1, e2, Int.toNat_natCast, Int.toNat_natCast, hg]
      have hm : min (n % 64) 64 = n % 64 := by omega
      rw [hm]
      have hw := Nat.mod_lt (a / 18446744073709551616 ^ (n / 64)) (show 0 < 18446744073709551616 by decide)
      have ef : (wd a (n / 64)).fdiv (2 ^ (n % 64)) = ((a / 18446744073709551616 ^ (n / 64) % 18446744073709551616 / 2 ^ (n % 64) : Nat) : Int) := by
        unfold wd
        rw [Int.fdiv_eq_ediv_of_nonneg _ (by exact_mod_cast Nat.zero_le _)]
        simp
      rw [ef]
      have hlt : a / 18446744073709551616 ^ (n / 64) % 18446744073709551616 / 2 ^ (n % 64) < 2 ^ 64 := Nat.lt_of_le_of_lt (Nat.div_le_self _ _) hw
      have := andI_nat un64 (a := a / 18446744073709551616 ^ (n / 64) % 18446744073709551616 / 2 ^ (n % 64)) (b := 1) hlt (by decide)
      rw [show (1 : Int) = ((1 : Nat) : Int) from rfl, this, Nat.and_one_is_mod, bit_word _ _ _ (by omega), show 64 * (n / 64) + n % 64 = n by omega]
      have : bitI a (n : Int) = a / 2 ^ n % 2 := by
        unfold bitI
        rw [decide_eq_true (p := (0 : Int) ≤ n) (by omega), decide_eq_true (p := (n : Int) < 256) (by omega)]
        rfl
      rw [this, Nat.mod_eq_of_lt (a := a / 2 ^ n % 2) (b := 18446744073709551616) (by have := Nat.mod_lt (a / 2 ^ n) (show 0 < 2 by decide); omega)]
theorem e101n_ok : EntryOk Try.prog 101 e101n := by
  intro args ms r obs h ho
  unfold e101n at h
  split at h
  · rename_i l i
    split at h
    · rename_i n r' o hn
      cases h
      obtain ⟨h1, h2, h3⟩ := nums_ok hn (otail ho)
      have hl : l.length = 4 := by simpa using ohead ho
      have : r' = [] := by
        cases r' with
        | nil => rfl
        | cons _ _ => simp only [List.length_cons] at h2; omega
      subst this
      refine Spec.imps (bs := [.agg (numC n), W.int .i64 i]) (.cons (fun ρ v hv => ?_) (Imps.refl _)) (s101n i)
      obtain ⟨cs, rfl, hcs⟩ := hv
      exact ⟨cs, rfl, h3 ρ cs hcs ρ⟩
    · cases h
  · cases h
end Go.Proofs.Ytmjejlbmcefaoaa
namespace Go.Proofs.Ytmjejlbmcefaoaa
open Go Sx

def libe0 : List (Nat × Entry) := [(84, numsE [1, 1] r84), (87, numsE [1, 1] r87), (94, numsE [1] r94), (101, e101n)]
theorem libe0_ok : AllOk Try.prog libe0 := .cons e84n_ok (.cons e87n_ok (.cons e94n_ok (.cons e101n_ok (.nil _))))
noncomputable def s93k0 : List Item := kAt Try.prog (tab libe0) Try.f93 [(15, false)] 0 [W.agg [C.u 1, C.u 0, C.u 0, C.u 0], W.agg [C.u 1, C.u 0, C.u 0, C.u 0], W.agg [C.u 1, C.u 0, C.u 0, C.u 0]] []
noncomputable def s93st0 (a : Nat) (b : Nat) (m : Nat) (t8 : Int) (b4_0 : Nat) (b4_1 : Nat) (b4_2 : Nat) (b4_3 : Nat) : Cfg := cfg s93k0 [3, 4, 5, 6, 7, 8] [V.w (W.c (C.ptr 0 0)), V.w (W.c (C.ptr 1 0)), V.w (W.c (C.ptr 2 0)), V.w (W.c (C.ptr 3 0)), V.w (W.c (C.ptr 4 0)), V.int IntKind.i64 t8] [Blk.mk 80 Mode.rw (K.cs (numC a)), Blk.mk 80 Mode.rw (K.cs (numC b)), Blk.mk 80 Mode.rw (K.cs (numC m)), Blk.mk 80 Mode.rw (K.cs [C.u 0, C.u 0, C.u 0, C.u 0]), Blk.mk 80 Mode.rw (K.cs [C.u b4_0, C.u b4_1, C.u b4_2, C.u b4_3])]
theorem s93_1 (a : Nat) (b : Nat) (m : Nat) (h1 : nn m = 0) : Sx.Spec Try.prog 93 [W.agg (numC a), W.agg (numC b), W.agg (numC m)] [] ⟨V.w (W.agg [C.u 0, C.u 0, C.u 0, C.u 0]), [], []⟩ :=
  spec_of_whole (tab_ok libe0_ok) mixed Try.func93 [(15, true)] 1000000 [] (by kernel_rfl) (by kernel_rfl) (by kernel_rfl) (by kernel_rfl) (by kernel_rfl) (by kernel_rfl)
    (ocons (beqT h1) (ocons rfl onil))
theorem s93_2 {ρ : Env} {w : World} {r : Res} (a : Nat) (b : Nat) (m : Nat) (h1 : (!Nat.beq (nn m) 0) = true) (hg : G (mkX Try.prog (tab libe0) Try.f93 [] ρ w r) (s93st0 (a) (b) (m) (511) (0) (0) (0) (0))) : G (mkX Try.prog (tab libe0) Try.f93 [] ρ w r) (cfg [.code (Try.f93.body.getD .skip)] (List.range 3) ([W.agg (numC a), W.agg (numC b), W.agg (numC m)].map V.w) []) :=
  G.seg (X := mkX Try.prog (tab libe0) Try.f93 [] ρ w r) ⟨tab_ok libe0_ok, mixed⟩ [(15, false)] 1000000 0 [3, 4, 5, 6, 7, 8] [(0, none), (4, none), (8, none), (12, none), (16, none)] (k := s93k0) (vs := [V.w (W.c (C.ptr 0 0)), V.w (W.c (C.ptr 1 0)), V.w (W.c (C.ptr 2 0)), V.w (W.c (C.ptr 3 0)), V.w (W.c (C.ptr 4 0)), V.int IntKind.i64 511]) (bs := [Blk.mk 80 Mode.rw (K.cs (numC a)), Blk.mk 80 Mode.rw (K.cs (numC b)), Blk.mk 80 Mode.rw (K.cs (numC m)), Blk.mk 80 Mode.rw (K.cs [C.u 0, C.u 0, C.u 0, C.u 0]), Blk.mk 80 Mode.rw (K.cs [C.u 0, C.u 0, C.u 0, C.u 0])]) (by kernel_rfl) (by kernel_rfl)
    (ocons h1 onil) hg
theorem s93_3 {ρ : Env} {w : World} {r : Res} (a : Nat) (b : Nat) (m : Nat) (t8 : Int) (b4_0 : Nat) (b4_1 : Nat) (b4_2 : Nat) (b4_3 : Nat) (h1 : t8 ≥ 0) (h2 : t8 ≥ 256) (h3 : (num4 (b4_0 % 18446744073709551616) (b4_1 % 18446744073709551616) (b4_2 % 18446744073709551616) (b4_3 % 18446744073709551616) + num4 (b4_0 % 18446744073709551616) (b4_1 % 18446744073709551616) (b4_2 % 18446744073709551616) (b4_3 % 18446744073709551616)) / 115792089237316195423570985008687907853269984665640564039457584007913129639936 % 18446744073709551616 = 1) (hg : G (mkX Try.prog (tab libe0) Try.f93 [] ρ w r) (s93st0 (a) (b) (m) (IntKind.wrap IntKind.i64 (t8 - 1)) (num4 ((num4 (b4_0 % 18446744073709551616) (b4_1 % 18446744073709551616) (b4_2 % 18446744073709551616) (b4_3 % 18446744073709551616) + num4 (b4_0 % 18446744073709551616) (b4_1 % 18446744073709551616) (b4_2 % 18446744073709551616) (b4_3 % 18446744073709551616) ||| bitI (nn b) (IntKind.wrap IntKind.i64 (t8 - 256))) % 18446744073709551616) ((num4 (b4_0 % 18446744073709551616) (b4_1 % 18446744073709551616) (b4_2 % 18446744073709551616) (b4_3 % 18446744073709551616) + num4 (b4_0 % 18446744073709551616) (b4_1 % 18446744073709551616) (b4_2 % 18446744073709551616) (b4_3 % 18446744073709551616)) / 18446744073709551616 % 18446744073709551616) ((num4 (b4_0 % 18446744073709551616) (b4_1 % 18446744073709551616) (b4_2 % 18446744073709551616) (b4_3 % 18446744073709551616) + num4 (b4_0 % 18446744073709551616) (b4_1 % 18446744073709551616) (b4_2 % 18446744073709551616) (b4_3 % 18446744073709551616)) / 340282366920938463463374607431768211456 % 18446744073709551616) ((num4 (b4_0 % 18446744073709551616) (b4_1 % 18446744073709551616) (b4_2 % 18446744073709551616) (b4_3 % 18446744073709551616) + num4 (b4_0 % 18446744073709551616) (b4_1 % 18446744073709551616) (b4_2 % 18446744073709551616) (b4_3 % 18446744073709551616)) / 6277101735386680763835789423207666416102355444464034512896 % 18446744073709551616) + (115792089237316195423570985008687907853269984665640564039457584007913129639936 - nn m)) ((num4 ((num4 (b4_0 % 18446744073709551616) (b4_1 % 18446744073709551616) (b4_2 % 18446744073709551616) (b4_3 % 18446744073709551616) + num4 (b4_0 % 18446744073709551616) (b4_1 % 18446744073709551616) (b4_2 % 18446744073709551616) (b4_3 % 18446744073709551616) ||| bitI (nn b) (IntKind.wrap IntKind.i64 (t8 - 256))) % 18446744073709551616) ((num4 (b4_0 % 18446744073709551616) (b4_1 % 18446744073709551616) (b4_2 % 18446744073709551616) (b4_3 % 18446744073709551616) + num4 (b4_0 % 18446744073709551616) (b4_1 % 18446744073709551616) (b4_2 % 18446744073709551616) (b4_3 % 18446744073709551616)) / 18446744073709551616 % 18446744073709551616) ((num4 (b4_0 % 18446744073709551616) (b4_1 % 18446744073709551616) (b4_2 % 18446744073709551616) (b4_3 % 18446744073709551616) + num4 (b4_0 % 18446744073709551616) (b4_1 % 18446744073709551616) (b4_2 % 18446744073709551616) (b4_3 % 18446744073709551616)) / 340282366920938463463374607431768211456 % 18446744073709551616) ((num4 (b4_0 % 18446744073709551616) (b4_1 % 18446744073709551616) (b4_2 % 18446744073709551616) (b4_3 % 18446744073709551616) + num4 (b4_0 % 18446744073709551616) (b4_1 % 18446744073709551616) (b4_2 % 18446744073709551616) (b4_3 % 18446744073709551616)) / 6277101735386680763835789423207666416102355444464034512896 % 18446744073709551616) + (115792089237316195423570985008687907853269984665640564039457584007913129639936 - nn m)) / 18446744073709551616) ((num4 ((num4 (b4_0 % 18446744073709551616) (b4_1 % 18446744073709551616) (b4_2 % 18446744073709551616) (b4_3 % 18446744073709551616) + num4 (b4_0 % 18446744073709551616) (b4_1 % 18446744073709551616) (b4_2 % 18446744073709551616) (b4_3 % 18446744073709551616) ||| bitI (nn b) (IntKind.wrap IntKind.i64 (t8 - 256))) % 18446744073709551616) ((num4 (b4_0 % 18446744073709551616) (b4_1 % 18446744073709551616) (b4_2 % 18446744073709551616) (b4_3 % 18446744073709551616) + num4 (b4_0 % 18446744073709551616) (b4_1 % 18446744073709551616) (b4_2 % 18446744073709551616) (b4_3 % 18446744073709551616)) / 18446744073709551616 % 18446744073709551616) ((num4 (b4_0 % 18446744073709551616) (b4_1 % 18446744073709551616) (b4_2 % 18446744073709551616) (b4_3 % 18446744073709551616) + num4 (b4_0 % 18446744073709551616) (b4_1 % 18446744073709551616) (b4_2 % 18446744073709551616) (b4_3 % 18446744073709551616)) / 340282366920938463463374607431768211456 % 18446744073709551616) ((num4 (b4_0 % 18446744073709551616) (b4_1 % 18446744073709551616) (b4_2 % 18446744073709551616) (b4_3 % 18446744073709551616) + num4 (b4_0 % 18446744073709551616) (b4_1 % 18446744073709551616) (b4_2 % 18446744073709551616) (b4_3 % 18446744073709551616)) / 6277101735386680763835789423207666416102355444464034512896 % 18446744073709551616) + (115792089237316195423570985008687907853269984665640564039457584007913129639936 - nn m)) / 340282366920938463463374607431768211456) ((num4 ((num4 (b4_0 % 18446744073709551616) (b4_1 % 18446744073709551616) (b4_2 % 18446744073709551616) (b4_3 % 18446744073709551616) + num4 (b4_0 % 18446744073709551616) (b4_1 % 18446744073709551616) (b4_2 % 18446744073709551616) (b4_3 % 18446744073709551616) ||| bitI (nn b) (IntKind.wrap IntKind.i64 (t8 - 256))) % 18446744073709551616) ((num4 (b4_0 % 18446744073709551616) (b4_1 % 18446744073709551616) (b4_2 % 18446744073709551616) (b4_3 % 18446744073709551616) + num4 (b4_0 % 18446744073709551616) (b4_1 % 18446744073709551616) (b4_2 % 18446744073709551616) (b4_3 % 18446744073709551616)) / 18446744073709551616 % 18446744073709551616) ((num4 (b4_0 % 18446744073709551616) (b4_1 % 18446744073709551616) (b4_2 % 18446744073709551616) (b4_3 % 18446744073709551616) + num4 (b4_0 % 18446744073709551616) (b4_1 % 18446744073709551616) (b4_2 % 18446744073709551616) (b4_3 % 18446744073709551616)) / 340282366920938463463374607431768211456 % 18446744073709551616) ((num4 (b4_0 % 18446744073709551616) (b4_1 % 18446744073709551616) (b4_2 % 18446744073709551616) (b4_3 % 18446744073709551616) + num4 (b4_0 % 18446744073709551616) (b4_1 % 18446744073709551616) (b4_2 % 18446744073709551616) (b4_3 % 18446744073709551616)) / 6277101735386680763835789423207666416102355444464034512896 % 18446744073709551616) + (115792089237316195423570985008687907853269984665640564039457584007913129639936 - nn m)) / 6277101735386680763835789423207666416102355444464034512896))) : G (mkX Try.prog (tab libe0) Try.f93 [] ρ w r) (s93st0 a b m t8 b4_0 b4_1 b4_2 b4_3) :=
  G.seg (X := mkX Try.prog (tab libe0) Try.f93 [] ρ w r) ⟨tab_ok libe0_ok, mixed⟩ [(18, true), (25, true), (49, true)] 1000000 0 [3, 4, 5, 6, 7, 8] [(0, none), (1, none), (2, none), (3, none), (4, none)] (k := s93k0) (vs := [V.w (W.c (C.ptr 0 0)), V.w (W.c (C.ptr 1 0)), V.w (W.c (C.ptr 2 0)), V.w (W.c (C.ptr 3 0)), V.w (W.c (C.ptr 4 0)), V.int IntKind.i64 (IntKind.wrap IntKind.i64 (t8 - 1))]) (bs := [Blk.mk 80 Mode.rw (K.cs (numC a)), Blk.mk 80 Mode.rw (K.cs (numC b)), Blk.mk 80 Mode.rw (K.cs (numC m)), Blk.mk 80 Mode.rw (K.cs [C.u 0, C.u 0, C.u 0, C.u 0]), Blk.mk 80 Mode.rw (K.cs [C.u (num4 ((num4 (b4_0 % 18446744073709551616) (b4_1 % 18446744073709551616) (b4_2 % 18446744073709551616) (b4_3 % 18446744073709551616) + num4 (b4_0 % 18446744073709551616) (b4_1 % 18446744073709551616) (b4_2 % 18446744073709551616) (b4_3 % 18446744073709551616) ||| bitI (nn b) (IntKind.wrap IntKind.i64 (t8 - 256))) % 18446744073709551616) ((num4 (b4_0 % 18446744073709551616) (b4_1 % 18446744073709551616) (b4_2 % 18446744073709551616) (b4_3 % 18446744073709551616) + num4 (b4_0 % 18446744073709551616) (b4_1 % 18446744073709551616) (b4_2 % 18446744073709551616) (b4_3 % 18446744073709551616)) / 18446744073709551616 % 18446744073709551616) ((num4 (b4_0 % 18446744073709551616) (b4_1 % 18446744073709551616) (b4_2 % 18446744073709551616) (b4_3 % 18446744073709551616) + num4 (b4_0 % 18446744073709551616) (b4_1 % 18446744073709551616) (b4_2 % 18446744073709551616) (b4_3 % 18446744073709551616)) / 340282366920938463463374607431768211456 % 18446744073709551616) ((num4 (b4_0 % 18446744073709551616) (b4_1 % 18446744073709551616) (b4_2 % 18446744073709551616) (b4_3 % 18446744073709551616) + num4 (b4_0 % 18446744073709551616) (b4_1 % 18446744073709551616) (b4_2 % 18446744073709551616) (b4_3 % 18446744073709551616)) / 6277101735386680763835789423207666416102355444464034512896 % 18446744073709551616) + (115792089237316195423570985008687907853269984665640564039457584007913129639936 - nn m)), C.u ((num4 ((num4 (b4_0 % 18446744073709551616) (b4_1 % 18446744073709551616) (b4_2 % 18446744073709551616) (b4_3 % 18446744073709551616) + num4 (b4_0 % 18446744073709551616) (b4_1 % 18446744073709551616) (b4_2 % 18446744073709551616) (b4_3 % 18446744073709551616) ||| bitI (nn b) (IntKind.wrap IntKind.i64 (t8 - 256))) % 18446744073709551616) ((num4 (b4_0 % 18446744073709551616) (b4_1 % 18446744073709551616) (b4_2 % 18446744073709551616) (b4_3 % 18446744073709551616) + num4 (b4_0 % 18446744073709551616) (b4_1 % 18446744073709551616) (b4_2 % 18446744073709551616) (b4_3 % 18446744073709551616)) / 18446744073709551616 % 18446744073709551616) ((num4 (b4_0 % 18446744073709551616) (b4_1 % 18446744073709551616) (b4_2 % 18446744073709551616) (b4_3 % 18446744073709551616) + num4 (b4_0 % 18446744073709551616) (b4_1 % 18446744073709551616) (b4_2 % 18446744073709551616) (b4_3 % 18446744073709551616)) / 340282366920938463463374607431768211456 % 18446744073709551616) ((num4 (b4_0 % 18446744073709551616) (b4_1 % 18446744073709551616) (b4_2 % 18446744073709551616) (b4_3 % 18446744073709551616) + num4 (b4_0 % 18446744073709551616) (b4_1 % 18446744073709551616) (b4_2 % 18446744073709551616) (b4_3 % 18446744073709551616)) / 6277101735386680763835789423207666416102355444464034512896 % 18446744073709551616) + (115792089237316195423570985008687907853269984665640564039457584007913129639936 - nn m)) / 18446744073709551616), C.u ((num4 ((num4 (b4_0 % 18446744073709551616) (b4_1 % 18446744073709551616) (b4_2 % 18446744073709551616) (b4_3 % 18446744073709551616) + num4 (b4_0 % 18446744073709551616) (b4_1 % 18446744073709551616) (b4_2 % 18446744073709551616) (b4_3 % 18446744073709551616) ||| bitI (nn b) (IntKind.wrap IntKind.i64 (t8 - 256))) % 18446744073709551616) ((num4 (b4_0 % 18446744073709551616) (b4_1 % 18446744073709551616) (b4_2 % 18446744073709551616) (b4_3 % 18446744073709551616) + num4 (b4_0 % 18446744073709551616) (b4_1 % 18446744073709551616) (b4_2 % 18446744073709551616) (b4_3 % 18446744073709551616)) / 18446744073709551616 % 18446744073709551616) ((num4 (b4_0 % 18446744073709551616) (b4_1 % 18446744073709551616) (b4_2 % 18446744073709551616) (b4_3 % 18446744073709551616) + num4 (b4_0 % 18446744073709551616) (b4_1 % 18446744073709551616) (b4_2 % 18446744073709551616) (b4_3 % 18446744073709551616)) / 340282366920938463463374607431768211456 % 18446744073709551616) ((num4 (b4_0 % 18446744073709551616) (b4_1 % 18446744073709551616) (b4_2 % 18446744073709551616) (b4_3 % 18446744073709551616) + num4 (b4_0 % 18446744073709551616) (b4_1 % 18446744073709551616) (b4_2 % 18446744073709551616) (b4_3 % 18446744073709551616)) / 6277101735386680763835789423207666416102355444464034512896 % 18446744073709551616) + (115792089237316195423570985008687907853269984665640564039457584007913129639936 - nn m)) / 340282366920938463463374607431768211456), C.u ((num4 ((num4 (b4_0 % 18446744073709551616) (b4_1 % 18446744073709551616) (b4_2 % 18446744073709551616) (b4_3 % 18446744073709551616) + num4 (b4_0 % 18446744073709551616) (b4_1 % 18446744073709551616) (b4_2 % 18446744073709551616) (b4_3 % 18446744073709551616) ||| bitI (nn b) (IntKind.wrap IntKind.i64 (t8 - 256))) % 18446744073709551616) ((num4 (b4_0 % 18446744073709551616) (b4_1 % 18446744073709551616) (b4_2 % 18446744073709551616) (b4_3 % 18446744073709551616) + num4 (b4_0 % 18446744073709551616) (b4_1 % 18446744073709551616) (b4_2 % 18446744073709551616) (b4_3 % 18446744073709551616)) / 18446744073709551616 % 18446744073709551616) ((num4 (b4_0 % 18446744073709551616) (b4_1 % 18446744073709551616) (b4_2 % 18446744073709551616) (b4_3 % 18446744073709551616) + num4 (b4_0 % 18446744073709551616) (b4_1 % 18446744073709551616) (b4_2 % 18446744073709551616) (b4_3 % 18446744073709551616)) / 340282366920938463463374607431768211456 % 18446744073709551616) ((num4 (b4_0 % 18446744073709551616) (b4_1 % 18446744073709551616) (b4_2 % 18446744073709551616) (b4_3 % 18446744073709551616) + num4 (b4_0 % 18446744073709551616) (b4_1 % 18446744073709551616) (b4_2 % 18446744073709551616) (b4_3 % 18446744073709551616)) / 6277101735386680763835789423207666416102355444464034512896 % 18446744073709551616) + (115792089237316195423570985008687907853269984665640564039457584007913129639936 - nn m)) / 6277101735386680763835789423207666416102355444464034512896)])]) (by kernel_rfl) (by kernel_rfl)
    (ocons (decide_eq_true h1) (ocons rfl (ocons (decide_eq_true h2) (ocons rfl (ocons rfl (ocons rfl (ocons rfl (ocons rfl (ocons rfl (ocons rfl (ocons rfl (ocons (beqT h3) (ocons rfl (ocons rfl onil)))))))))))))) hg
theorem s93_4 {ρ : Env} {w : World} {r : Res} (a : Nat) (b : Nat) (m : Nat) (t8 : Int) (b4_0 : Nat) (b4_1 : Nat) (b4_2 : Nat) (b4_3 : Nat) (h1 : t8 ≥ 0) (h2 : t8 ≥ 256) (h3 : (!Nat.beq ((num4 (b4_0 % 18446744073709551616) (b4_1 % 18446744073709551616) (b4_2 % 18446744073709551616) (b4_3 % 18446744073709551616) + num4 (b4_0 % 18446744073709551616) (b4_1 % 18446744073709551616) (b4_2 % 18446744073709551616) (b4_3 % 18446744073709551616)) / 115792089237316195423570985008687907853269984665640564039457584007913129639936 % 18446744073709551616) 1) = true) (h4 : b2n (Nat.blt (num4 ((num4 (b4_0 % 18446744073709551616) (b4_1 % 18446744073709551616) (b4_2 % 18446744073709551616) (b4_3 % 18446744073709551616) + num4 (b4_0 % 18446744073709551616) (b4_1 % 18446744073709551616) (b4_2 % 18446744073709551616) (b4_3 % 18446744073709551616) ||| bitI (nn b) (IntKind.wrap IntKind.i64 (t8 - 256))) % 18446744073709551616) ((num4 (b4_0 % 18446744073709551616) (b4_1 % 18446744073709551616) (b4_2 % 18446744073709551616) (b4_3 % 18446744073709551616) + num4 (b4_0 % 18446744073709551616) (b4_1 % 18446744073709551616) (b4_2 % 18446744073709551616) (b4_3 % 18446744073709551616)) / 18446744073709551616 % 18446744073709551616) ((num4 (b4_0 % 18446744073709551616) (b4_1 % 18446744073709551616) (b4_2 % 18446744073709551616) (b4_3 % 18446744073709551616) + num4 (b4_0 % 18446744073709551616) (b4_1 % 18446744073709551616) (b4_2 % 18446744073709551616) (b4_3 % 18446744073709551616)) / 340282366920938463463374607431768211456 % 18446744073709551616) ((num4 (b4_0 % 18446744073709551616) (b4_1 % 18446744073709551616) (b4_2 % 18446744073709551616) (b4_3 % 18446744073709551616) + num4 (b4_0 % 18446744073709551616) (b4_1 % 18446744073709551616) (b4_2 % 18446744073709551616) (b4_3 % 18446744073709551616)) / 6277101735386680763835789423207666416102355444464034512896 % 18446744073709551616)) (nn m)) % 18446744073709551616 = 0) (hg : G (mkX Try.prog (tab libe0) Try.f93 [] ρ w r) (s93st0 (a) (b) (m) (IntKind.wrap IntKind.i64 (t8 - 1)) (num4 ((num4 (b4_0 % 18446744073709551616) (b4_1 % 18446744073709551616) (b4_2 % 18446744073709551616) (b4_3 % 18446744073709551616) + num4 (b4_0 % 18446744073709551616) (b4_1 % 18446744073709551616) (b4_2 % 18446744073709551616) (b4_3 % 18446744073709551616) ||| bitI (nn b) (IntKind.wrap IntKind.i64 (t8 - 256))) % 18446744073709551616) ((num4 (b4_0 % 18446744073709551616) (b4_1 % 18446744073709551616) (b4_2 % 18446744073709551616) (b4_3 % 18446744073709551616) + num4 (b4_0 % 18446744073709551616) (b4_1 % 18446744073709551616) (b4_2 % 18446744073709551616) (b4_3 % 18446744073709551616)) / 18446744073709551616 % 18446744073709551616) ((num4 (b4_0 % 18446744073709551616) (b4_1 % 18446744073709551616) (b4_2 % 18446744073709551616) (b4_3 % 18446744073709551616) + num4 (b4_0 % 18446744073709551616) (b4_1 % 18446744073709551616) (b4_2 % 18446744073709551616) (b4_3 % 18446744073709551616)) / 340282366920938463463374607431768211456 % 18446744073709551616) ((num4 (b4_0 % 18446744073709551616) (b4_1 % 18446744073709551616) (b4_2 % 18446744073709551616) (b4_3 % 18446744073709551616) + num4 (b4_0 % 18446744073709551616) (b4_1 % 18446744073709551616) (b4_2 % 18446744073709551616) (b4_3 % 18446744073709551616)) / 6277101735386680763835789423207666416102355444464034512896 % 18446744073709551616) + (115792089237316195423570985008687907853269984665640564039457584007913129639936 - nn m)) ((num4 ((num4 (b4_0 % 18446744073709551616) (b4_1 % 18446744073709551616) (b4_2 % 18446744073709551616) (b4_3 % 18446744073709551616) + num4 (b4_0 % 18446744073709551616) (b4_1 % 18446744073709551616) (b4_2 % 18446744073709551616) (b4_3 % 18446744073709551616) ||| bitI (nn b) (IntKind.wrap IntKind.i64 (t8 - 256))) % 18446744073709551616) ((num4 (b4_0 % 18446744073709551616) (b4_1 % 18446744073709551616) (b4_2 % 18446744073709551616) (b4_3 % 18446744073709551616) + num4 (b4_0 % 18446744073709551616) (b4_1 % 18446744073709551616) (b4_2 % 18446744073709551616) (b4_3 % 18446744073709551616)) / 18446744073709551616 % 18446744073709551616) ((num4 (b4_0 % 18446744073709551616) (b4_1 % 18446744073709551616) (b4_2 % 18446744073709551616) (b4_3 % 18446744073709551616) + num4 (b4_0 % 18446744073709551616) (b4_1 % 18446744073709551616) (b4_2 % 18446744073709551616) (b4_3 % 18446744073709551616)) / 340282366920938463463374607431768211456 % 18446744073709551616) ((num4 (b4_0 % 18446744073709551616) (b4_1 % 18446744073709551616) (b4_2 % 18446744073709551616) (b4_3 % 18446744073709551616) + num4 (b4_0 % 18446744073709551616) (b4_1 % 18446744073709551616) (b4_2 % 18446744073709551616) (b4_3 % 18446744073709551616)) / 6277101735386680763835789423207666416102355444464034512896 % 18446744073709551616) + (115792089237316195423570985008687907853269984665640564039457584007913129639936 - nn m)) / 18446744073709551616) ((num4 ((num4 (b4_0 % 18446744073709551616) (b4_1 % 18446744073709551616) (b4_2 % 18446744073709551616) (b4_3 % 18446744073709551616) + num4 (b4_0 % 18446744073709551616) (b4_1 % 18446744073709551616) (b4_2 % 18446744073709551616) (b4_3 % 18446744073709551616) ||| bitI (nn b) (IntKind.wrap IntKind.i64 (t8 - 256))) % 18446744073709551616) ((num4 (b4_0 % 18446744073709551616) (b4_1 % 18446744073709551616) (b4_2 % 18446744073709551616) (b4_3 % 18446744073709551616) + num4 (b4_0 % 18446744073709551616) (b4_1 % 18446744073709551616) (b4_2 % 18446744073709551616) (b4_3 % 18446744073709551616)) / 18446744073709551616 % 18446744073709551616) ((num4 (b4_0 % 18446744073709551616) (b4_1 % 18446744073709551616) (b4_2 % 18446744073709551616) (b4_3 % 18446744073709551616) + num4 (b4_0 % 18446744073709551616) (b4_1 % 18446744073709551616) (b4_2 % 18446744073709551616) (b4_3 % 18446744073709551616)) / 340282366920938463463374607431768211456 % 18446744073709551616) ((num4 (b4_0 % 18446744073709551616) (b4_1 % 18446744073709551616) (b4_2 % 18446744073709551616) (b4_3 % 18446744073709551616) + num4 (b4_0 % 18446744073709551616) (b4_1 % 18446744073709551616) (b4_2 % 18446744073709551616) (b4_3 % 18446744073709551616)) / 6277101735386680763835789423207666416102355444464034512896 % 18446744073709551616) + (115792089237316195423570985008687907853269984665640564039457584007913129639936 - nn m)) / 340282366920938463463374607431768211456) ((num4 ((num4 (b4_0 % 18446744073709551616) (b4_1 % 18446744073709551616) (b4_2 % 18446744073709551616) (b4_3 % 18446744073709551616) + num4 (b4_0 % 18446744073709551616) (b4_1 % 18446744073709551616) (b4_2 % 18446744073709551616) (b4_3 % 18446744073709551616) ||| bitI (nn b) (IntKind.wrap IntKind.i64 (t8 - 256))) % 18446744073709551616) ((num4 (b4_0 % 18446744073709551616) (b4_1 % 18446744073709551616) (b4_2 % 18446744073709551616) (b4_3 % 18446744073709551616) + num4 (b4_0 % 18446744073709551616) (b4_1 % 18446744073709551616) (b4_2 % 18446744073709551616) (b4_3 % 18446744073709551616)) / 18446744073709551616 % 18446744073709551616) ((num4 (b4_0 % 18446744073709551616) (b4_1 % 18446744073709551616) (b4_2 % 18446744073709551616) (b4_3 % 18446744073709551616) + num4 (b4_0 % 18446744073709551616) (b4_1 % 18446744073709551616) (b4_2 % 18446744073709551616) (b4_3 % 18446744073709551616)) / 340282366920938463463374607431768211456 % 18446744073709551616) ((num4 (b4_0 % 18446744073709551616) (b4_1 % 18446744073709551616) (b4_2 % 18446744073709551616) (b4_3 % 18446744073709551616) + num4 (b4_0 % 18446744073709551616) (b4_1 % 18446744073709551616) (b4_2 % 18446744073709551616) (b4_3 % 18446744073709551616)) / 6277101735386680763835789423207666416102355444464034512896 % 18446744073709551616) + (115792089237316195423570985008687907853269984665640564039457584007913129639936 - nn m)) / 6277101735386680763835789423207666416102355444464034512896))) : G (mkX Try.prog (tab libe0) Try.f93 [] ρ w r) (s93st0 a b m t8 b4_0 b4_1 b4_2 b4_3) :=
  G.seg (X := mkX Try.prog (tab libe0) Try.f93 [] ρ w r) ⟨tab_ok libe0_ok, mixed⟩ [(18, true), (25, true), (49, false), (52, true)] 1000000 0 [3, 4, 5, 6, 7, 8] [(0, none), (1, none), (2, none), (3, none), (4, none)] (k := s93k0) (vs := [V.w (W.c (C.ptr 0 0)), V.w (W.c (C.ptr 1 0)), V.w (W.c (C.ptr 2 0)), V.w (W.c (C.ptr 3 0)), V.w (W.c (C.ptr 4 0)), V.int IntKind.i64 (IntKind.wrap IntKind.i64 (t8 - 1))]) (bs := [Blk.mk 80 Mode.rw (K.cs (numC a)), Blk.mk 80 Mode.rw (K.cs (numC b)), Blk.mk 80 Mode.rw (K.cs (numC m)), Blk.mk 80 Mode.rw (K.cs [C.u 0, C.u 0, C.u 0, C.u 0]), Blk.mk 80 Mode.rw (K.cs [C.u (num4 ((num4 (b4_0 % 18446744073709551616) (b4_1 % 18446744073709551616) (b4_2 % 18446744073709551616) (b4_3 % 18446744073709551616) + num4 (b4_0 % 18446744073709551616) (b4_1 % 18446744073709551616) (b4_2 % 18446744073709551616) (b4_3 % 18446744073709551616) ||| bitI (nn b) (IntKind.wrap IntKind.i64 (t8 - 256))) % 18446744073709551616) ((num4 (b4_0 % 18446744073709551616) (b4_1 % 18446744073709551616) (b4_2 % 18446744073709551616) (b4_3 % 18446744073709551616) + num4 (b4_0 % 18446744073709551616) (b4_1 % 18446744073709551616) (b4_2 % 18446744073709551616) (b4_3 % 18446744073709551616)) / 18446744073709551616 % 18446744073709551616) ((num4 (b4_0 % 18446744073709551616) (b4_1 % 18446744073709551616) (b4_2 % 18446744073709551616) (b4_3 % 18446744073709551616) + num4 (b4_0 % 18446744073709551616) (b4_1 % 18446744073709551616) (b4_2 % 18446744073709551616) (b4_3 % 18446744073709551616)) / 340282366920938463463374607431768211456 % 18446744073709551616) ((num4 (b4_0 % 18446744073709551616) (b4_1 % 18446744073709551616) (b4_2 % 18446744073709551616) (b4_3 % 18446744073709551616) + num4 (b4_0 % 18446744073709551616) (b4_1 % 18446744073709551616) (b4_2 % 18446744073709551616) (b4_3 % 18446744073709551616)) / 6277101735386680763835789423207666416102355444464034512896 % 18446744073709551616) + (115792089237316195423570985008687907853269984665640564039457584007913129639936 - nn m)), C.u ((num4 ((num4 (b4_0 % 18446744073709551616) (b4_1 % 18446744073709551616) (b4_2 % 18446744073709551616) (b4_3 % 18446744073709551616) + num4 (b4_0 % 18446744073709551616) (b4_1 % 18446744073709551616) (b4_2 % 18446744073709551616) (b4_3 % 18446744073709551616) ||| bitI (nn b) (IntKind.wrap IntKind.i64 (t8 - 256))) % 18446744073709551616) ((num4 (b4_0 % 18446744073709551616) (b4_1 % 18446744073709551616) (b4_2 % 18446744073709551616) (b4_3 % 18446744073709551616) + num4 (b4_0 % 18446744073709551616) (b4_1 % 18446744073709551616) (b4_2 % 18446744073709551616) (b4_3 % 18446744073709551616)) / 18446744073709551616 % 18446744073709551616) ((num4 (b4_0 % 18446744073709551616) (b4_1 % 18446744073709551616) (b4_2 % 18446744073709551616) (b4_3 % 18446744073709551616) + num4 (b4_0 % 18446744073709551616) (b4_1 % 18446744073709551616) (b4_2 % 18446744073709551616) (b4_3 % 18446744073709551616)) / 340282366920938463463374607431768211456 % 18446744073709551616) ((num4 (b4_0 % 18446744073709551616) (b4_1 % 18446744073709551616) (b4_2 % 18446744073709551616) (b4_3 % 18446744073709551616) + num4 (b4_0 % 18446744073709551616) (b4_1 % 18446744073709551616) (b4_2 % 18446744073709551616) (b4_3 % 18446744073709551616)) / 6277101735386680763835789423207666416102355444464034512896 % 18446744073709551616) + (115792089237316195423570985008687907853269984665640564039457584007913129639936 - nn m)) / 18446744073709551616), C.u ((num4 ((num4 (b4_0 % 18446744073709551616) (b4_1 % 18446744073709551616) (b4_2 % 18446744073709551616) (b4_3 % 18446744073709551616) + num4 (b4_0 % 18446744073709551616) (b4_1 % 18446744073709551616) (b4_2 % 18446744073709551616) (b4_3 % 18446744073709551616) ||| bitI (nn b) (IntKind.wrap IntKind.i64 (t8 - 256))) % 18446744073709551616) ((num4 (b4_0 % 18446744073709551616) (b4_1 % 18446744073709551616) (b4_2 % 18446744073709551616) (b4_3 % 18446744073709551616) + num4 (b4_0 % 18446744073709551616) (b4_1 % 18446744073709551616) (b4_2 % 18446744073709551616) (b4_3 % 18446744073709551616)) / 18446744073709551616 % 18446744073709551616) ((num4 (b4_0 % 18446744073709551616) (b4_1 % 18446744073709551616) (b4_2 % 18446744073709551616) (b4_3 % 18446744073709551616) + num4 (b4_0 % 18446744073709551616) (b4_1 % 18446744073709551616) (b4_2 % 18446744073709551616) (b4_3 % 18446744073709551616)) / 340282366920938463463374607431768211456 % 18446744073709551616) ((num4 (b4_0 % 18446744073709551616) (b4_1 % 18446744073709551616) (b4_2 % 18446744073709551616) (b4_3 % 18446744073709551616) + num4 (b4_0 % 18446744073709551616) (b4_1 % 18446744073709551616) (b4_2 % 18446744073709551616) (b4_3 % 18446744073709551616)) / 6277101735386680763835789423207666416102355444464034512896 % 18446744073709551616) + (115792089237316195423570985008687907853269984665640564039457584007913129639936 - nn m)) / 340282366920938463463374607431768211456), C.u ((num4 ((num4 (b4_0 % 18446744073709551616) (b4_1 % 18446744073709551616) (b4_2 % 18446744073709551616) (b4_3 % 18446744073709551616) + num4 (b4_0 % 18446744073709551616) (b4_1 % 18446744073709551616) (b4_2 % 18446744073709551616) (b4_3 % 18446744073709551616) ||| bitI (nn b) (IntKind.wrap IntKind.i64 (t8 - 256))) % 18446744073709551616) ((num4 (b4_0 % 18446744073709551616) (b4_1 % 18446744073709551616) (b4_2 % 18446744073709551616) (b4_3 % 18446744073709551616) + num4 (b4_0 % 18446744073709551616) (b4_1 % 18446744073709551616) (b4_2 % 18446744073709551616) (b4_3 % 18446744073709551616)) / 18446744073709551616 % 18446744073709551616) ((num4 (b4_0 % 18446744073709551616) (b4_1 % 18446744073709551616) (b4_2 % 18446744073709551616) (b4_3 % 18446744073709551616) + num4 (b4_0 % 18446744073709551616) (b4_1 % 18446744073709551616) (b4_2 % 18446744073709551616) (b4_3 % 18446744073709551616)) / 340282366920938463463374607431768211456 % 18446744073709551616) ((num4 (b4_0 % 18446744073709551616) (b4_1 % 18446744073709551616) (b4_2 % 18446744073709551616) (b4_3 % 18446744073709551616) + num4 (b4_0 % 18446744073709551616) (b4_1 % 18446744073709551616) (b4_2 % 18446744073709551616) (b4_3 % 18446744073709551616)) / 6277101735386680763835789423207666416102355444464034512896 % 18446744073709551616) + (115792089237316195423570985008687907853269984665640564039457584007913129639936 - nn m)) / 6277101735386680763835789423207666416102355444464034512896)])]) (by kernel_rfl) (by kernel_rfl)
    (ocons (decide_eq_true h1) (ocons rfl (ocons (decide_eq_true h2) (ocons rfl (ocons rfl (ocons rfl (ocons rfl (ocons rfl (ocons rfl (ocons rfl (ocons rfl (ocons h3 (ocons (beqT h4) (ocons rfl (ocons rfl onil))))))))))))))) hg
theorem s93_5 {ρ : Env} {w : World} {r : Res} (a : Nat) (b : Nat) (m : Nat) (t8 : Int) (b4_0 : Nat) (b4_1 : Nat) (b4_2 : Nat) (b4_3 : Nat) (h1 : t8 ≥ 0) (h2 : t8 ≥ 256) (h3 : (!Nat.beq ((num4 (b4_0 % 18446744073709551616) (b4_1 % 18446744073709551616) (b4_2 % 18446744073709551616) (b4_3 % 18446744073709551616) + num4 (b4_0 % 18446744073709551616) (b4_1 % 18446744073709551616) (b4_2 % 18446744073709551616) (b4_3 % 18446744073709551616)) / 115792089237316195423570985008687907853269984665640564039457584007913129639936 % 18446744073709551616) 1) = true) (h4 : (!Nat.beq (b2n (Nat.blt (num4 ((num4 (b4_0 % 18446744073709551616) (b4_1 % 18446744073709551616) (b4_2 % 18446744073709551616) (b4_3 % 18446744073709551616) + num4 (b4_0 % 18446744073709551616) (b4_1 % 18446744073709551616) (b4_2 % 18446744073709551616) (b4_3 % 18446744073709551616) ||| bitI (nn b) (IntKind.wrap IntKind.i64 (t8 - 256))) % 18446744073709551616) ((num4 (b4_0 % 18446744073709551616) (b4_1 % 18446744073709551616) (b4_2 % 18446744073709551616) (b4_3 % 18446744073709551616) + num4 (b4_0 % 18446744073709551616) (b4_1 % 18446744073709551616) (b4_2 % 18446744073709551616) (b4_3 % 18446744073709551616)) / 18446744073709551616 % 18446744073709551616) ((num4 (b4_0 % 18446744073709551616) (b4_1 % 18446744073709551616) (b4_2 % 18446744073709551616) (b4_3 % 18446744073709551616) + num4 (b4_0 % 18446744073709551616) (b4_1 % 18446744073709551616) (b4_2 % 18446744073709551616) (b4_3 % 18446744073709551616)) / 340282366920938463463374607431768211456 % 18446744073709551616) ((num4 (b4_0 % 18446744073709551616) (b4_1 % 18446744073709551616) (b4_2 % 18446744073709551616) (b4_3 % 18446744073709551616) + num4 (b4_0 % 18446744073709551616) (b4_1 % 18446744073709551616) (b4_2 % 18446744073709551616) (b4_3 % 18446744073709551616)) / 6277101735386680763835789423207666416102355444464034512896 % 18446744073709551616)) (nn m)) % 18446744073709551616) 0) = true) (hg : G (mkX Try.prog (tab libe0) Try.f93 [] ρ w r) (s93st0 (a) (b) (m) (IntKind.wrap IntKind.i64 (t8 - 1)) (num4 (b4_0 % 18446744073709551616) (b4_1 % 18446744073709551616) (b4_2 % 18446744073709551616) (b4_3 % 18446744073709551616) + num4 (b4_0 % 18446744073709551616) (b4_1 % 18446744073709551616) (b4_2 % 18446744073709551616) (b4_3 % 18446744073709551616) ||| bitI (nn b) (IntKind.wrap IntKind.i64 (t8 - 256))) ((num4 (b4_0 % 18446744073709551616) (b4_1 % 18446744073709551616) (b4_2 % 18446744073709551616) (b4_3 % 18446744073709551616) + num4 (b4_0 % 18446744073709551616) (b4_1 % 18446744073709551616) (b4_2 % 18446744073709551616) (b4_3 % 18446744073709551616)) / 18446744073709551616) ((num4 (b4_0 % 18446744073709551616) (b4_1 % 18446744073709551616) (b4_2 % 18446744073709551616) (b4_3 % 18446744073709551616) + num4 (b4_0 % 18446744073709551616) (b4_1 % 18446744073709551616) (b4_2 % 18446744073709551616) (b4_3 % 18446744073709551616)) / 340282366920938463463374607431768211456) ((num4 (b4_0 % 18446744073709551616) (b4_1 % 18446744073709551616) (b4_2 % 18446744073709551616) (b4_3 % 18446744073709551616) + num4 (b4_0 % 18446744073709551616) (b4_1 % 18446744073709551616) (b4_2 % 18446744073709551616) (b4_3 % 18446744073709551616)) / 6277101735386680763835789423207666416102355444464034512896))) : G (mkX Try.prog (tab libe0) Try.f93 [] ρ w r) (s93st0 a b m t8 b4_0 b4_1 b4_2 b4_3) :=
  G.seg (X := mkX Try.prog (tab libe0) Try.f93 [] ρ w r) ⟨tab_ok libe0_ok, mixed⟩ [(18, true), (25, true), (49, false), (52, false)] 1000000 0 [3, 4, 5, 6, 7, 8] [(0, none), (1, none), (2, none), (3, none), (4, none)] (k := s93k0) (vs := [V.w (W.c (C.ptr 0 0)), V.w (W.c (C.ptr 1 0)), V.w (W.c (C.ptr 2 0)), V.w (W.c (C.ptr 3 0)), V.w (W.c (C.ptr 4 0)), V.int IntKind.i64 (IntKind.wrap IntKind.i64 (t8 - 1))]) (bs := [Blk.mk 80 Mode.rw (K.cs (numC a)), Blk.mk 80 Mode.rw (K.cs (numC b)), Blk.mk 80 Mode.rw (K.cs (numC m)), Blk.mk 80 Mode.rw (K.cs [C.u 0, C.u 0, C.u 0, C.u 0]), Blk.mk 80 Mode.rw (K.cs [C.u (num4 (b4_0 % 18446744073709551616) (b4_1 % 18446744073709551616) (b4_2 % 18446744073709551616) (b4_3 % 18446744073709551616) + num4 (b4_0 % 18446744073709551616) (b4_1 % 18446744073709551616) (b4_2 % 18446744073709551616) (b4_3 % 18446744073709551616) ||| bitI (nn b) (IntKind.wrap IntKind.i64 (t8 - 256))), C.u ((num4 (b4_0 % 18446744073709551616) (b4_1 % 18446744073709551616) (b4_2 % 18446744073709551616) (b4_3 % 18446744073709551616) + num4 (b4_0 % 18446744073709551616) (b4_1 % 18446744073709551616) (b4_2 % 18446744073709551616) (b4_3 % 18446744073709551616)) / 18446744073709551616), C.u ((num4 (b4_0 % 18446744073709551616) (b4_1 % 18446744073709551616) (b4_2 % 18446744073709551616) (b4_3 % 18446744073709551616) + num4 (b4_0 % 18446744073709551616) (b4_1 % 18446744073709551616) (b4_2 % 18446744073709551616) (b4_3 % 18446744073709551616)) / 340282366920938463463374607431768211456), C.u ((num4 (b4_0 % 18446744073709551616) (b4_1 % 18446744073709551616) (b4_2 % 18446744073709551616) (b4_3 % 18446744073709551616) + num4 (b4_0 % 18446744073709551616) (b4_1 % 18446744073709551616) (b4_2 % 18446744073709551616) (b4_3 % 18446744073709551616)) / 6277101735386680763835789423207666416102355444464034512896)])]) (by kernel_rfl) (by kernel_rfl)
    (ocons (decide_eq_true h1) (ocons rfl (ocons (decide_eq_true h2) (ocons rfl (ocons rfl (ocons rfl (ocons rfl (ocons rfl (ocons rfl (ocons rfl (ocons rfl (ocons h3 (ocons h4 (ocons rfl onil)))))))))))))) hg
theorem s93_6 {ρ : Env} {w : World} {r : Res} (a : Nat) (b : Nat) (m : Nat) (t8 : Int) (b4_0 : Nat) (b4_1 : Nat) (b4_2 : Nat) (b4_3 : Nat) (h1 : t8 ≥ 0) (h2 : ¬t8 ≥ 256) (h3 : (num4 (b4_0 % 18446744073709551616) (b4_1 % 18446744073709551616) (b4_2 % 18446744073709551616) (b4_3 % 18446744073709551616) + num4 (b4_0 % 18446744073709551616) (b4_1 % 18446744073709551616) (b4_2 % 18446744073709551616) (b4_3 % 18446744073709551616)) / 115792089237316195423570985008687907853269984665640564039457584007913129639936 % 18446744073709551616 = 1) (hg : G (mkX Try.prog (tab libe0) Try.f93 [] ρ w r) (s93st0 (a) (b) (m) (IntKind.wrap IntKind.i64 (t8 - 1)) (num4 ((num4 (b4_0 % 18446744073709551616) (b4_1 % 18446744073709551616) (b4_2 % 18446744073709551616) (b4_3 % 18446744073709551616) + num4 (b4_0 % 18446744073709551616) (b4_1 % 18446744073709551616) (b4_2 % 18446744073709551616) (b4_3 % 18446744073709551616) ||| bitI (nn a) t8) % 18446744073709551616) ((num4 (b4_0 % 18446744073709551616) (b4_1 % 18446744073709551616) (b4_2 % 18446744073709551616) (b4_3 % 18446744073709551616) + num4 (b4_0 % 18446744073709551616) (b4_1 % 18446744073709551616) (b4_2 % 18446744073709551616) (b4_3 % 18446744073709551616)) / 18446744073709551616 % 18446744073709551616) ((num4 (b4_0 % 18446744073709551616) (b4_1 % 18446744073709551616) (b4_2 % 18446744073709551616) (b4_3 % 18446744073709551616) + num4 (b4_0 % 18446744073709551616) (b4_1 % 18446744073709551616) (b4_2 % 18446744073709551616) (b4_3 % 18446744073709551616)) / 340282366920938463463374607431768211456 % 18446744073709551616) ((num4 (b4_0 % 18446744073709551616) (b4_1 % 18446744073709551616) (b4_2 % 18446744073709551616) (b4_3 % 18446744073709551616) + num4 (b4_0 % 18446744073709551616) (b4_1 % 18446744073709551616) (b4_2 % 18446744073709551616) (b4_3 % 18446744073709551616)) / 6277101735386680763835789423207666416102355444464034512896 % 18446744073709551616) + (115792089237316195423570985008687907853269984665640564039457584007913129639936 - nn m)) ((num4 ((num4 (b4_0 % 18446744073709551616) (b4_1 % 18446744073709551616) (b4_2 % 18446744073709551616) (b4_3 % 18446744073709551616) + num4 (b4_0 % 18446744073709551616) (b4_1 % 18446744073709551616) (b4_2 % 18446744073709551616) (b4_3 % 18446744073709551616) ||| bitI (nn a) t8) % 18446744073709551616) ((num4 (b4_0 % 18446744073709551616) (b4_1 % 18446744073709551616) (b4_2 % 18446744073709551616) (b4_3 % 18446744073709551616) + num4 (b4_0 % 18446744073709551616) (b4_1 % 18446744073709551616) (b4_2 % 18446744073709551616) (b4_3 % 18446744073709551616)) / 18446744073709551616 % 18446744073709551616) ((num4 (b4_0 % 18446744073709551616) (b4_1 % 18446744073709551616) (b4_2 % 18446744073709551616) (b4_3 % 18446744073709551616) + num4 (b4_0 % 18446744073709551616) (b4_1 % 18446744073709551616) (b4_2 % 18446744073709551616) (b4_3 % 18446744073709551616)) / 340282366920938463463374607431768211456 % 18446744073709551616) ((num4 (b4_0 % 18446744073709551616) (b4_1 % 18446744073709551616) (b4_2 % 18446744073709551616) (b4_3 % 18446744073709551616) + num4 (b4_0 % 18446744073709551616) (b4_1 % 18446744073709551616) (b4_2 % 18446744073709551616) (b4_3 % 18446744073709551616)) / 6277101735386680763835789423207666416102355444464034512896 % 18446744073709551616) + (115792089237316195423570985008687907853269984665640564039457584007913129639936 - nn m)) / 18446744073709551616) ((num4 ((num4 (b4_0 % 18446744073709551616) (b4_1 % 18446744073709551616) (b4_2 % 18446744073709551616) (b4_3 % 18446744073709551616) + num4 (b4_0 % 18446744073709551616) (b4_1 % 18446744073709551616) (b4_2 % 18446744073709551616) (b4_3 % 18446744073709551616) ||| bitI (nn a) t8) % 18446744073709551616) ((num4 (b4_0 % 18446744073709551616) (b4_1 % 18446744073709551616) (b4_2 % 18446744073709551616) (b4_3 % 18446744073709551616) + num4 (b4_0 % 18446744073709551616) (b4_1 % 18446744073709551616) (b4_2 % 18446744073709551616) (b4_3 % 18446744073709551616)) / 18446744073709551616 % 18446744073709551616) ((num4 (b4_0 % 18446744073709551616) (b4_1 % 18446744073709551616) (b4_2 % 18446744073709551616) (b4_3 % 18446744073709551616) + num4 (b4_0 % 18446744073709551616) (b4_1 % 18446744073709551616) (b4_2 % 18446744073709551616) (b4_3 % 18446744073709551616)) / 340282366920938463463374607431768211456 % 18446744073709551616) ((num4 (b4_0 % 18446744073709551616) (b4_1 % 18446744073709551616) (b4_2 % 18446744073709551616) (b4_3 % 18446744073709551616) + num4 (b4_0 % 18446744073709551616) (b4_1 % 18446744073709551616) (b4_2 % 18446744073709551616) (b4_3 % 18446744073709551616)) / 6277101735386680763835789423207666416102355444464034512896 % 18446744073709551616) + (115792089237316195423570985008687907853269984665640564039457584007913129639936 - nn m)) / 340282366920938463463374607431768211456) ((num4 ((num4 (b4_0 % 18446744073709551616) (b4_1 % 18446744073709551616) (b4_2 % 18446744073709551616) (b4_3 % 18446744073709551616) + num4 (b4_0 % 18446744073709551616) (b4_1 % 18446744073709551616) (b4_2 % 18446744073709551616) (b4_3 % 18446744073709551616) ||| bitI (nn a) t8) % 18446744073709551616) ((num4 (b4_0 % 18446744073709551616) (b4_1 % 18446744073709551616) (b4_2 % 18446744073709551616) (b4_3 % 18446744073709551616) + num4 (b4_0 % 18446744073709551616) (b4_1 % 18446744073709551616) (b4_2 % 18446744073709551616) (b4_3 % 18446744073709551616)) / 18446744073709551616 % 18446744073709551616) ((num4 (b4_0 % 18446744073709551616) (b4_1 % 18446744073709551616) (b4_2 % 18446744073709551616) (b4_3 % 18446744073709551616) + num4 (b4_0 % 18446744073709551616) (b4_1 % 18446744073709551616) (b4_2 % 18446744073709551616) (b4_3 % 18446744073709551616)) / 340282366920938463463374607431768211456 % 18446744073709551616) ((num4 (b4_0 % 18446744073709551616) (b4_1 % 18446744073709551616) (b4_2 % 18446744073709551616) (b4_3 % 18446744073709551616) + num4 (b4_0 % 18446744073709551616) (b4_1 % 18446744073709551616) (b4_2 % 18446744073709551616) (b4_3 % 18446744073709551616)) / 6277101735386680763835789423207666416102355444464034512896 % 18446744073709551616) + (115792089237316195423570985008687907853269984665640564039457584007913129639936 - nn m)) / 6277101735386680763835789423207666416102355444464034512896))) : G (mkX Try.prog (tab libe0) Try.f93 [] ρ w r) (s93st0 a b m t8 b4_0 b4_1 b4_2 b4_3) :=
  G.seg (X := mkX Try.prog (tab libe0) Try.f93 [] ρ w r) ⟨tab_ok libe0_ok, mixed⟩ [(18, true), (25, false), (49, true)] 1000000 0 [3, 4, 5, 6, 7, 8] [(0, none), (1, none), (2, none), (3, none), (4, none)] (k := s93k0) (vs := [V.w (W.c (C.ptr 0 0)), V.w (W.c (C.ptr 1 0)), V.w (W.c (C.ptr 2 0)), V.w (W.c (C.ptr 3 0)), V.w (W.c (C.ptr 4 0)), V.int IntKind.i64 (IntKind.wrap IntKind.i64 (t8 - 1))]) (bs := [Blk.mk 80 Mode.rw (K.cs (numC a)), Blk.mk 80 Mode.rw (K.cs (numC b)), Blk.mk 80 Mode.rw (K.cs (numC m)), Blk.mk 80 Mode.rw (K.cs [C.u 0, C.u 0, C.u 0, C.u 0]), Blk.mk 80 Mode.rw (K.cs [C.u (num4 ((num4 (b4_0 % 18446744073709551616) (b4_1 % 18446744073709551616) (b4_2 % 18446744073709551616) (b4_3 % 18446744073709551616) + num4 (b4_0 % 18446744073709551616) (b4_1 % 18446744073709551616) (b4_2 % 18446744073709551616) (b4_3 % 18446744073709551616) ||| bitI (nn a) t8) % 18446744073709551616) ((num4 (b4_0 % 18446744073709551616) (b4_1 % 18446744073709551616) (b4_2 % 18446744073709551616) (b4_3 % 18446744073709551616) + num4 (b4_0 % 18446744073709551616) (b4_1 % 18446744073709551616) (b4_2 % 18446744073709551616) (b4_3 % 18446744073709551616)) / 18446744073709551616 % 18446744073709551616) ((num4 (b4_0 % 18446744073709551616) (b4_1 % 18446744073709551616) (b4_2 % 18446744073709551616) (b4_3 % 18446744073709551616) + num4 (b4_0 % 18446744073709551616) (b4_1 % 18446744073709551616) (b4_2 % 18446744073709551616) (b4_3 % 18446744073709551616)) / 340282366920938463463374607431768211456 % 18446744073709551616) ((num4 (b4_0 % 18446744073709551616) (b4_1 % 18446744073709551616) (b4_2 % 18446744073709551616) (b4_3 % 18446744073709551616) + num4 (b4_0 % 18446744073709551616) (b4_1 % 18446744073709551616) (b4_2 % 18446744073709551616) (b4_3 % 18446744073709551616)) / 6277101735386680763835789423207666416102355444464034512896 % 18446744073709551616) + (115792089237316195423570985008687907853269984665640564039457584007913129639936 - nn m)), C.u ((num4 ((num4 (b4_0 % 18446744073709551616) (b4_1 % 18446744073709551616) (b4_2 % 18446744073709551616) (b4_3 % 18446744073709551616) + num4 (b4_0 % 18446744073709551616) (b4_1 % 18446744073709551616) (b4_2 % 18446744073709551616) (b4_3 % 18446744073709551616) ||| bitI (nn a) t8) % 18446744073709551616) ((num4 (b4_0 % 18446744073709551616) (b4_1 % 18446744073709551616) (b4_2 % 18446744073709551616) (b4_3 % 18446744073709551616) + num4 (b4_0 % 18446744073709551616) (b4_1 % 18446744073709551616) (b4_2 % 18446744073709551616) (b4_3 % 18446744073709551616)) / 18446744073709551616 % 18446744073709551616) ((num4 (b4_0 % 18446744073709551616) (b4_1 % 18446744073709551616) (b4_2 % 18446744073709551616) (b4_3 % 18446744073709551616) + num4 (b4_0 % 18446744073709551616) (b4_1 % 18446744073709551616) (b4_2 % 18446744073709551616) (b4_3 % 18446744073709551616)) / 340282366920938463463374607431768211456 % 18446744073709551616) ((num4 (b4_0 % 18446744073709551616) (b4_1 % 18446744073709551616) (b4_2 % 18446744073709551616) (b4_3 % 18446744073709551616) + num4 (b4_0 % 18446744073709551616) (b4_1 % 18446744073709551616) (b4_2 % 18446744073709551616) (b4_3 % 18446744073709551616)) / 6277101735386680763835789423207666416102355444464034512896 % 18446744073709551616) + (115792089237316195423570985008687907853269984665640564039457584007913129639936 - nn m)) / 18446744073709551616), C.u ((num4 ((num4 (b4_0 % 18446744073709551616) (b4_1 % 18446744073709551616) (b4_2 % 18446744073709551616) (b4_3 % 18446744073709551616) + num4 (b4_0 % 18446744073709551616) (b4_1 % 18446744073709551616) (b4_2 % 18446744073709551616) (b4_3 % 18446744073709551616) ||| bitI (nn a) t8) % 18446744073709551616) ((num4 (b4_0 % 18446744073709551616) (b4_1 % 18446744073709551616) (b4_2 % 18446744073709551616) (b4_3 % 18446744073709551616) + num4 (b4_0 % 18446744073709551616) (b4_1 % 18446744073709551616) (b4_2 % 18446744073709551616) (b4_3 % 18446744073709551616)) / 18446744073709551616 % 18446744073709551616) ((num4 (b4_0 % 18446744073709551616) (b4_1 % 18446744073709551616) (b4_2 % 18446744073709551616) (b4_3 % 18446744073709551616) + num4 (b4_0 % 18446744073709551616) (b4_1 % 18446744073709551616) (b4_2 % 18446744073709551616) (b4_3 % 18446744073709551616)) / 340282366920938463463374607431768211456 % 18446744073709551616) ((num4 (b4_0 % 18446744073709551616) (b4_1 % 18446744073709551616) (b4_2 % 18446744073709551616) (b4_3 % 18446744073709551616) + num4 (b4_0 % 18446744073709551616) (b4_1 % 18446744073709551616) (b4_2 % 18446744073709551616) (b4_3 % 18446744073709551616)) / 6277101735386680763835789423207666416102355444464034512896 % 18446744073709551616) + (115792089237316195423570985008687907853269984665640564039457584007913129639936 - nn m)) / 340282366920938463463374607431768211456), C.u ((num4 ((num4 (b4_0 % 18446744073709551616) (b4_1 % 18446744073709551616) (b4_2 % 18446744073709551616) (b4_3 % 18446744073709551616) + num4 (b4_0 % 18446744073709551616) (b4_1 % 18446744073709551616) (b4_2 % 18446744073709551616) (b4_3 % 18446744073709551616) ||| bitI (nn a) t8) % 18446744073709551616) ((num4 (b4_0 % 18446744073709551616) (b4_1 % 18446744073709551616) (b4_2 % 18446744073709551616) (b4_3 % 18446744073709551616) + num4 (b4_0 % 18446744073709551616) (b4_1 % 18446744073709551616) (b4_2 % 18446744073709551616) (b4_3 % 18446744073709551616)) / 18446744073709551616 % 18446744073709551616) ((num4 (b4_0 % 18446744073709551616) (b4_1 % 18446744073709551616) (b4_2 % 18446744073709551616) (b4_3 % 18446744073709551616) + num4 (b4_0 % 18446744073709551616) (b4_1 % 18446744073709551616) (b4_2 % 18446744073709551616) (b4_3 % 18446744073709551616)) / 340282366920938463463374607431768211456 % 18446744073709551616) ((num4 (b4_0 % 18446744073709551616) (b4_1 % 18446744073709551616) (b4_2 % 18446744073709551616) (b4_3 % 18446744073709551616) + num4 (b4_0 % 18446744073709551616) (b4_1 % 18446744073709551616) (b4_2 % 18446744073709551616) (b4_3 % 18446744073709551616)) / 6277101735386680763835789423207666416102355444464034512896 % 18446744073709551616) + (115792089237316195423570985008687907853269984665640564039457584007913129639936 - nn m)) / 6277101735386680763835789423207666416102355444464034512896)])]) (by kernel_rfl) (by kernel_rfl)
    (ocons (decide_eq_true h1) (ocons rfl (ocons (ndec h2) (ocons rfl (ocons rfl (ocons rfl (ocons rfl (ocons rfl (ocons rfl (ocons rfl (ocons (beqT h3) (ocons rfl (ocons rfl onil))))))))))))) hg
theorem s93_7 {ρ : Env} {w : World} {r : Res} (a : Nat) (b : Nat) (m : Nat) (t8 : Int) (b4_0 : Nat) (b4_1 : Nat) (b4_2 : Nat) (b4_3 : Nat) (h1 : t8 ≥ 0) (h2 : ¬t8 ≥ 256) (h3 : (!Nat.beq ((num4 (b4_0 % 18446744073709551616) (b4_1 % 18446744073709551616) (b4_2 % 18446744073709551616) (b4_3 % 18446744073709551616) + num4 (b4_0 % 18446744073709551616) (b4_1 % 18446744073709551616) (b4_2 % 18446744073709551616) (b4_3 % 18446744073709551616)) / 115792089237316195423570985008687907853269984665640564039457584007913129639936 % 18446744073709551616) 1) = true) (h4 : b2n (Nat.blt (num4 ((num4 (b4_0 % 18446744073709551616) (b4_1 % 18446744073709551616) (b4_2 % 18446744073709551616) (b4_3 % 18446744073709551616) + num4 (b4_0 % 18446744073709551616) (b4_1 % 18446744073709551616) (b4_2 % 18446744073709551616) (b4_3 % 18446744073709551616) ||| bitI (nn a) t8) % 18446744073709551616) ((num4 (b4_0 % 18446744073709551616) (b4_1 % 18446744073709551616) (b4_2 % 18446744073709551616) (b4_3 % 18446744073709551616) + num4 (b4_0 % 18446744073709551616) (b4_1 % 18446744073709551616) (b4_2 % 18446744073709551616) (b4_3 % 18446744073709551616)) / 18446744073709551616 % 18446744073709551616) ((num4 (b4_0 % 18446744073709551616) (b4_1 % 18446744073709551616) (b4_2 % 18446744073709551616) (b4_3 % 18446744073709551616) + num4 (b4_0 % 18446744073709551616) (b4_1 % 18446744073709551616) (b4_2 % 18446744073709551616) (b4_3 % 18446744073709551616)) / 340282366920938463463374607431768211456 % 18446744073709551616) ((num4 (b4_0 % 18446744073709551616) (b4_1 % 18446744073709551616) (b4_2 % 18446744073709551616) (b4_3 % 18446744073709551616) + num4 (b4_0 % 18446744073709551616) (b4_1 % 18446744073709551616) (b4_2 % 18446744073709551616) (b4_3 % 18446744073709551616)) / 6277101735386680763835789423207666416102355444464034512896 % 18446744073709551616)) (nn m)) % 18446744073709551616 = 0) (hg : G (mkX Try.prog (tab libe0) Try.f93 [] ρ w r) (s93st0 (a) (b) (m) (IntKind.wrap IntKind.i64 (t8 - 1)) (num4 ((num4 (b4_0 % 18446744073709551616) (b4_1 % 18446744073709551616) (b4_2 % 18446744073709551616) (b4_3 % 18446744073709551616) + num4 (b4_0 % 18446744073709551616) (b4_1 % 18446744073709551616) (b4_2 % 18446744073709551616) (b4_3 % 18446744073709551616) ||| bitI (nn a) t8) % 18446744073709551616) ((num4 (b4_0 % 18446744073709551616) (b4_1 % 18446744073709551616) (b4_2 % 18446744073709551616) (b4_3 % 18446744073709551616) + num4 (b4_0 % 18446744073709551616) (b4_1 % 18446744073709551616) (b4_2 % 18446744073709551616) (b4_3 % 18446744073709551616)) / 18446744073709551616 % 18446744073709551616) ((num4 (b4_0 % 18446744073709551616) (b4_1 % 18446744073709551616) (b4_2 % 18446744073709551616) (b4_3 % 18446744073709551616) + num4 (b4_0 % 18446744073709551616) (b4_1 % 18446744073709551616) (b4_2 % 18446744073709551616) (b4_3 % 18446744073709551616)) / 340282366920938463463374607431768211456 % 18446744073709551616) ((num4 (b4_0 % 18446744073709551616) (b4_1 % 18446744073709551616) (b4_2 % 18446744073709551616) (b4_3 % 18446744073709551616) + num4 (b4_0 % 18446744073709551616) (b4_1 % 18446744073709551616) (b4_2 % 18446744073709551616) (b4_3 % 18446744073709551616)) / 6277101735386680763835789423207666416102355444464034512896 % 18446744073709551616) + (115792089237316195423570985008687907853269984665640564039457584007913129639936 - nn m)) ((num4 ((num4 (b4_0 % 18446744073709551616) (b4_1 % 18446744073709551616) (b4_2 % 18446744073709551616) (b4_3 % 18446744073709551616) + num4 (b4_0 % 18446744073709551616) (b4_1 % 18446744073709551616) (b4_2 % 18446744073709551616) (b4_3 % 18446744073709551616) ||| bitI (nn a) t8) % 18446744073709551616) ((num4 (b4_0 % 18446744073709551616) (b4_1 % 18446744073709551616) (b4_2 % 18446744073709551616) (b4_3 % 18446744073709551616) + num4 (b4_0 % 18446744073709551616) (b4_1 % 18446744073709551616) (b4_2 % 18446744073709551616) (b4_3 % 18446744073709551616)) / 18446744073709551616 % 18446744073709551616) ((num4 (b4_0 % 18446744073709551616) (b4_1 % 18446744073709551616) (b4_2 % 18446744073709551616) (b4_3 % 18446744073709551616) + num4 (b4_0 % 18446744073709551616) (b4_1 % 18446744073709551616) (b4_2 % 18446744073709551616) (b4_3 % 18446744073709551616)) / 340282366920938463463374607431768211456 % 18446744073709551616) ((num4 (b4_0 % 18446744073709551616) (b4_1 % 18446744073709551616) (b4_2 % 18446744073709551616) (b4_3 % 18446744073709551616) + num4 (b4_0 % 18446744073709551616) (b4_1 % 18446744073709551616) (b4_2 % 18446744073709551616) (b4_3 % 18446744073709551616)) / 6277101735386680763835789423207666416102355444464034512896 % 18446744073709551616) + (115792089237316195423570985008687907853269984665640564039457584007913129639936 - nn m)) / 18446744073709551616) ((num4 ((num4 (b4_0 % 18446744073709551616) (b4_1 % 18446744073709551616) (b4_2 % 18446744073709551616) (b4_3 % 18446744073709551616) + num4 (b4_0 % 18446744073709551616) (b4_1 % 18446744073709551616) (b4_2 % 18446744073709551616) (b4_3 % 18446744073709551616) ||| bitI (nn a) t8) % 18446744073709551616) ((num4 (b4_0 % 18446744073709551616) (b4_1 % 18446744073709551616) (b4_2 % 18446744073709551616) (b4_3 % 18446744073709551616) + num4 (b4_0 % 18446744073709551616) (b4_1 % 18446744073709551616) (b4_2 % 18446744073709551616) (b4_3 % 18446744073709551616)) / 18446744073709551616 % 18446744073709551616) ((num4 (b4_0 % 18446744073709551616) (b4_1 % 18446744073709551616) (b4_2 % 18446744073709551616) (b4_3 % 18446744073709551616) + num4 (b4_0 % 18446744073709551616) (b4_1 % 18446744073709551616) (b4_2 % 18446744073709551616) (b4_3 % 18446744073709551616)) / 340282366920938463463374607431768211456 % 18446744073709551616) ((num4 (b4_0 % 18446744073709551616) (b4_1 % 18446744073709551616) (b4_2 % 18446744073709551616) (b4_3 % 18446744073709551616) + num4 (b4_0 % 18446744073709551616) (b4_1 % 18446744073709551616) (b4_2 % 18446744073709551616) (b4_3 % 18446744073709551616)) / 6277101735386680763835789423207666416102355444464034512896 % 18446744073709551616) + (115792089237316195423570985008687907853269984665640564039457584007913129639936 - nn m)) / 340282366920938463463374607431768211456) ((num4 ((num4 (b4_0 % 18446744073709551616) (b4_1 % 18446744073709551616) (b4_2 % 18446744073709551616) (b4_3 % 18446744073709551616) + num4 (b4_0 % 18446744073709551616) (b4_1 % 18446744073709551616) (b4_2 % 18446744073709551616) (b4_3 % 18446744073709551616) ||| bitI (nn a) t8) % 18446744073709551616) ((num4 (b4_0 % 18446744073709551616) (b4_1 % 18446744073709551616) (b4_2 % 18446744073709551616) (b4_3 % 18446744073709551616) + num4 (b4_0 % 18446744073709551616) (b4_1 % 18446744073709551616) (b4_2 % 18446744073709551616) (b4_3 % 18446744073709551616)) / 18446744073709551616 % 18446744073709551616) ((num4 (b4_0 % 18446744073709551616) (b4_1 % 18446744073709551616) (b4_2 % 18446744073709551616) (b4_3 % 18446744073709551616) + num4 (b4_0 % 18446744073709551616) (b4_1 % 18446744073709551616) (b4_2 % 18446744073709551616) (b4_3 % 18446744073709551616)) / 340282366920938463463374607431768211456 % 18446744073709551616) ((num4 (b4_0 % 18446744073709551616) (b4_1 % 18446744073709551616) (b4_2 % 18446744073709551616) (b4_3 % 18446744073709551616) + num4 (b4_0 % 18446744073709551616) (b4_1 % 18446744073709551616) (b4_2 % 18446744073709551616) (b4_3 % 18446744073709551616)) / 6277101735386680763835789423207666416102355444464034512896 % 18446744073709551616) + (115792089237316195423570985008687907853269984665640564039457584007913129639936 - nn m)) / 6277101735386680763835789423207666416102355444464034512896))) : G (mkX Try.prog (tab libe0) Try.f93 [] ρ w r) (s93st0 a b m t8 b4_0 b4_1 b4_2 b4_3) :=
  G.seg (X := mkX Try.prog (tab libe0) Try.f93 [] ρ w r) ⟨tab_ok libe0_ok, mixed⟩ [(18, true), (25, false), (49, false), (52, true)] 1000000 0 [3, 4, 5, 6, 7, 8] [(0, none), (1, none), (2, none), (3, none), (4, none)] (k := s93k0) (vs := [V.w (W.c (C.ptr 0 0)), V.w (W.c (C.ptr 1 0)), V.w (W.c (C.ptr 2 0)), V.w (W.c (C.ptr 3 0)), V.w (W.c (C.ptr 4 0)), V.int IntKind.i64 (IntKind.wrap IntKind.i64 (t8 - 1))]) (bs := [Blk.mk 80 Mode.rw (K.cs (numC a)), Blk.mk 80 Mode.rw (K.cs (numC b)), Blk.mk 80 Mode.rw (K.cs (numC m)), Blk.mk 80 Mode.rw (K.cs [C.u 0, C.u 0, C.u 0, C.u 0]), Blk.mk 80 Mode.rw (K.cs [C.u (num4 ((num4 (b4_0 % 18446744073709551616) (b4_1 % 18446744073709551616) (b4_2 % 18446744073709551616) (b4_3 % 18446744073709551616) + num4 (b4_0 % 18446744073709551616) (b4_1 % 18446744073709551616) (b4_2 % 18446744073709551616) (b4_3 % 18446744073709551616) ||| bitI (nn a) t8) % 18446744073709551616) ((num4 (b4_0 % 18446744073709551616) (b4_1 % 18446744073709551616) (b4_2 % 18446744073709551616) (b4_3 % 18446744073709551616) + num4 (b4_0 % 18446744073709551616) (b4_1 % 18446744073709551616) (b4_2 % 18446744073709551616) (b4_3 % 18446744073709551616)) / 18446744073709551616 % 18446744073709551616) ((num4 (b4_0 % 18446744073709551616) (b4_1 % 18446744073709551616) (b4_2 % 18446744073709551616) (b4_3 % 18446744073709551616) + num4 (b4_0 % 18446744073709551616) (b4_1 % 18446744073709551616) (b4_2 % 18446744073709551616) (b4_3 % 18446744073709551616)) / 340282366920938463463374607431768211456 % 18446744073709551616) ((num4 (b4_0 % 18446744073709551616) (b4_1 % 18446744073709551616) (b4_2 % 18446744073709551616) (b4_3 % 18446744073709551616) + num4 (b4_0 % 18446744073709551616) (b4_1 % 18446744073709551616) (b4_2 % 18446744073709551616) (b4_3 % 18446744073709551616)) / 6277101735386680763835789423207666416102355444464034512896 % 18446744073709551616) + (115792089237316195423570985008687907853269984665640564039457584007913129639936 - nn m)), C.u ((num4 ((num4 (b4_0 % 18446744073709551616) (b4_1 % 18446744073709551616) (b4_2 % 18446744073709551616) (b4_3 % 18446744073709551616) + num4 (b4_0 % 18446744073709551616) (b4_1 % 18446744073709551616) (b4_2 % 18446744073709551616) (b4_3 % 18446744073709551616) ||| bitI (nn a) t8) % 18446744073709551616) ((num4 (b4_0 % 18446744073709551616) (b4_1 % 18446744073709551616) (b4_2 % 18446744073709551616) (b4_3 % 18446744073709551616) + num4 (b4_0 % 18446744073709551616) (b4_1 % 18446744073709551616) (b4_2 % 18446744073709551616) (b4_3 % 18446744073709551616)) / 18446744073709551616 % 18446744073709551616) ((num4 (b4_0 % 18446744073709551616) (b4_1 % 18446744073709551616) (b4_2 % 18446744073709551616) (b4_3 % 18446744073709551616) + num4 (b4_0 % 18446744073709551616) (b4_1 % 18446744073709551616) (b4_2 % 18446744073709551616) (b4_3 % 18446744073709551616)) / 340282366920938463463374607431768211456 % 18446744073709551616) ((num4 (b4_0 % 18446744073709551616) (b4_1 % 18446744073709551616) (b4_2 % 18446744073709551616) (b4_3 % 18446744073709551616) + num4 (b4_0 % 18446744073709551616) (b4_1 % 18446744073709551616) (b4_2 % 18446744073709551616) (b4_3 % 18446744073709551616)) / 6277101735386680763835789423207666416102355444464034512896 % 18446744073709551616) + (115792089237316195423570985008687907853269984665640564039457584007913129639936 - nn m)) / 18446744073709551616), C.u ((num4 ((num4 (b4_0 % 18446744073709551616) (b4_1 % 18446744073709551616) (b4_2 % 18446744073709551616) (b4_3 % 18446744073709551616) + num4 (b4_0 % 18446744073709551616) (b4_1 % 18446744073709551616) (b4_2 % 18446744073709551616) (b4_3 % 18446744073709551616) ||| bitI (nn a) t8) % 18446744073709551616) ((num4 (b4_0 % 18446744073709551616) (b4_1 % 18446744073709551616) (b4_2 % 18446744073709551616) (b4_3 % 18446744073709551616) + num4 (b4_0 % 18446744073709551616) (b4_1 % 18446744073709551616) (b4_2 % 18446744073709551616) (b4_3 % 18446744073709551616)) / 18446744073709551616 % 18446744073709551616) ((num4 (b4_0 % 18446744073709551616) (b4_1 % 18446744073709551616) (b4_2 % 18446744073709551616) (b4_3 % 18446744073709551616) + num4 (b4_0 % 18446744073709551616) (b4_1 % 18446744073709551616) (b4_2 % 18446744073709551616) (b4_3 % 18446744073709551616)) / 340282366920938463463374607431768211456 % 18446744073709551616) ((num4 (b4_0 % 18446744073709551616) (b4_1 % 18446744073709551616) (b4_2 % 18446744073709551616) (b4_3 % 18446744073709551616) + num4 (b4_0 % 18446744073709551616) (b4_1 % 18446744073709551616) (b4_2 % 18446744073709551616) (b4_3 % 18446744073709551616)) / 6277101735386680763835789423207666416102355444464034512896 % 18446744073709551616) + (115792089237316195423570985008687907853269984665640564039457584007913129639936 - nn m)) / 340282366920938463463374607431768211456), C.u ((num4 ((num4 (b4_0 % 18446744073709551616) (b4_1 % 18446744073709551616) (b4_2 % 18446744073709551616) (b4_3 % 18446744073709551616) + num4 (b4_0 % 18446744073709551616) (b4_1 % 18446744073709551616) (b4_2 % 18446744073709551616) (b4_3 % 18446744073709551616) ||| bitI (nn a) t8) % 18446744073709551616) ((num4 (b4_0 % 18446744073709551616) (b4_1 % 18446744073709551616) (b4_2 % 18446744073709551616) (b4_3 % 18446744073709551616) + num4 (b4_0 % 18446744073709551616) (b4_1 % 18446744073709551616) (b4_2 % 18446744073709551616) (b4_3 % 18446744073709551616)) / 18446744073709551616 % 18446744073709551616) ((num4 (b4_0 % 18446744073709551616) (b4_1 % 18446744073709551616) (b4_2 % 18446744073709551616) (b4_3 % 18446744073709551616) + num4 (b4_0 % 18446744073709551616) (b4_1 % 18446744073709551616) (b4_2 % 18446744073709551616) (b4_3 % 18446744073709551616)) / 340282366920938463463374607431768211456 % 18446744073709551616) ((num4 (b4_0 % 18446744073709551616) (b4_1 % 18446744073709551616) (b4_2 % 18446744073709551616) (b4_3 % 18446744073709551616) + num4 (b4_0 % 18446744073709551616) (b4_1 % 18446744073709551616) (b4_2 % 18446744073709551616) (b4_3 % 18446744073709551616)) / 6277101735386680763835789423207666416102355444464034512896 % 18446744073709551616) + (115792089237316195423570985008687907853269984665640564039457584007913129639936 - nn m)) / 6277101735386680763835789423207666416102355444464034512896)])]) (by kernel_rfl) (by kernel_rfl)
    (ocons (decide_eq_true h1) (ocons rfl (ocons (ndec h2) (ocons rfl (ocons rfl (ocons rfl (ocons rfl (ocons rfl (ocons rfl (ocons rfl (ocons h3 (ocons (beqT h4) (ocons rfl (ocons rfl onil)))))))))))))) hg
theorem s93_8 {ρ : Env} {w : World} {r : Res} (a : Nat) (b : Nat) (m : Nat) (t8 : Int) (b4_0 : Nat) (b4_1 : Nat) (b4_2 : Nat) (b4_3 : Nat) (h1 : t8 ≥ 0) (h2 : ¬t8 ≥ 256) (h3 : (!Nat.beq ((num4 (b4_0 % 18446744073709551616) (b4_1 % 18446744073709551616) (b4_2 % 18446744073709551616) (b4_3 % 18446744073709551616) + num4 (b4_0 % 18446744073709551616) (b4_1 % 18446744073709551616) (b4_2 % 18446744073709551616) (b4_3 % 18446744073709551616)) / 115792089237316195423570985008687907853269984665640564039457584007913129639936 % 18446744073709551616) 1) = true) (h4 : (!Nat.beq (b2n (Nat.blt (num4 ((num4 (b4_0 % 18446744073709551616) (b4_1 % 18446744073709551616) (b4_2 % 18446744073709551616) (b4_3 % 18446744073709551616) + num4 (b4_0 % 18446744073709551616) (b4_1 % 18446744073709551616) (b4_2 % 18446744073709551616) (b4_3 % 18446744073709551616) ||| bitI (nn a) t8) % 18446744073709551616) ((num4 (b4_0 % 18446744073709551616) (b4_1 % 18446744073709551616) (b4_2 % 18446744073709551616) (b4_3 % 18446744073709551616) + num4 (b4_0 % 18446744073709551616) (b4_1 % 18446744073709551616) (b4_2 % 18446744073709551616) (b4_3 % 18446744073709551616)) / 18446744073709551616 % 18446744073709551616) ((num4 (b4_0 % 18446744073709551616) (b4_1 % 18446744073709551616) (b4_2 % 18446744073709551616) (b4_3 % 18446744073709551616) + num4 (b4_0 % 18446744073709551616) (b4_1 % 18446744073709551616) (b4_2 % 18446744073709551616) (b4_3 % 18446744073709551616)) / 340282366920938463463374607431768211456 % 18446744073709551616) ((num4 (b4_0 % 18446744073709551616) (b4_1 % 18446744073709551616) (b4_2 % 18446744073709551616) (b4_3 % 18446744073709551616) + num4 (b4_0 % 18446744073709551616) (b4_1 % 18446744073709551616) (b4_2 % 18446744073709551616) (b4_3 % 18446744073709551616)) / 6277101735386680763835789423207666416102355444464034512896 % 18446744073709551616)) (nn m)) % 18446744073709551616) 0) = true) (hg : G (mkX Try.prog (tab libe0) Try.f93 [] ρ w r) (s93st0 (a) (b) (m) (IntKind.wrap IntKind.i64 (t8 - 1)) (num4 (b4_0 % 18446744073709551616) (b4_1 % 18446744073709551616) (b4_2 % 18446744073709551616) (b4_3 % 18446744073709551616) + num4 (b4_0 % 18446744073709551616) (b4_1 % 18446744073709551616) (b4_2 % 18446744073709551616) (b4_3 % 18446744073709551616) ||| bitI (nn a) t8) ((num4 (b4_0 % 18446744073709551616) (b4_1 % 18446744073709551616) (b4_2 % 18446744073709551616) (b4_3 % 18446744073709551616) + num4 (b4_0 % 18446744073709551616) (b4_1 % 18446744073709551616) (b4_2 % 18446744073709551616) (b4_3 % 18446744073709551616)) / 18446744073709551616) ((num4 (b4_0 % 18446744073709551616) (b4_1 % 18446744073709551616) (b4_2 % 18446744073709551616) (b4_3 % 18446744073709551616) + num4 (b4_0 % 18446744073709551616) (b4_1 % 18446744073709551616) (b4_2 % 18446744073709551616) (b4_3 % 18446744073709551616)) / 340282366920938463463374607431768211456) ((num4 (b4_0 % 18446744073709551616) (b4_1 % 18446744073709551616) (b4_2 % 18446744073709551616) (b4_3 % 18446744073709551616) + num4 (b4_0 % 18446744073709551616) (b4_1 % 18446744073709551616) (b4_2 % 18446744073709551616) (b4_3 % 18446744073709551616)) / 6277101735386680763835789423207666416102355444464034512896))) : G (mkX Try.prog (tab libe0) Try.f93 [] ρ w r) (s93st0 a b m t8 b4_0 b4_1 b4_2 b4_3) :=
  G.seg (X := mkX Try.prog (tab libe0) Try.f93 [] ρ w r) ⟨tab_ok libe0_ok, mixed⟩ [(18, true), (25, false), (49, false), (52, false)] 1000000 0 [3, 4, 5, 6, 7, 8] [(0, none), (1, none), (2, none), (3, none), (4, none)] (k := s93k0) (vs := [V.w (W.c (C.ptr 0 0)), V.w (W.c (C.ptr 1 0)), V.w (W.c (C.ptr 2 0)), V.w (W.c (C.ptr 3 0)), V.w (W.c (C.ptr 4 0)), V.int IntKind.i64 (IntKind.wrap IntKind.i64 (t8 - 1))]) (bs := [Blk.mk 80 Mode.rw (K.cs (numC a)), Blk.mk 80 Mode.rw (K.cs (numC b)), Blk.mk 80 Mode.rw (K.cs (numC m)), Blk.mk 80 Mode.rw (K.cs [C.u 0, C.u 0, C.u 0, C.u 0]), Blk.mk 80 Mode.rw (K.cs [C.u (num4 (b4_0 % 18446744073709551616) (b4_1 % 18446744073709551616) (b4_2 % 18446744073709551616) (b4_3 % 18446744073709551616) + num4 (b4_0 % 18446744073709551616) (b4_1 % 18446744073709551616) (b4_2 % 18446744073709551616) (b4_3 % 18446744073709551616) ||| bitI (nn a) t8), C.u ((num4 (b4_0 % 18446744073709551616) (b4_1 % 18446744073709551616) (b4_2 % 18446744073709551616) (b4_3 % 18446744073709551616) + num4 (b4_0 % 18446744073709551616) (b4_1 % 18446744073709551616) (b4_2 % 18446744073709551616) (b4_3 % 18446744073709551616)) / 18446744073709551616), C.u ((num4 (b4_0 % 18446744073709551616) (b4_1 % 18446744073709551616) (b4_2 % 18446744073709551616) (b4_3 % 18446744073709551616) + num4 (b4_0 % 18446744073709551616) (b4_1 % 18446744073709551616) (b4_2 % 18446744073709551616) (b4_3 % 18446744073709551616)) / 340282366920938463463374607431768211456), C.u ((num4 (b4_0 % 18446744073709551616) (b4_1 % 18446744073709551616) (b4_2 % 18446744073709551616) (b4_3 % 18446744073709551616) + num4 (b4_0 % 18446744073709551616) (b4_1 % 18446744073709551616) (b4_2 % 18446744073709551616) (b4_3 % 18446744073709551616)) / 6277101735386680763835789423207666416102355444464034512896)])]) (by kernel_rfl) (by kernel_rfl)
    (ocons (decide_eq_true h1) (ocons rfl (ocons (ndec h2) (ocons rfl (ocons rfl (ocons rfl (ocons rfl (ocons rfl (ocons rfl (ocons rfl (ocons h3 (ocons h4 (ocons rfl onil))))))))))))) hg
theorem s93_9 {ρ : Env} {w : World} (a : Nat) (b : Nat) (m : Nat) (t8 : Int) (b4_0 : Nat) (b4_1 : Nat) (b4_2 : Nat) (b4_3 : Nat) (h1 : ¬t8 ≥ 0) : G (mkX Try.prog (tab libe0) Try.f93 [] ρ w ⟨V.w (W.agg [C.u b4_0, C.u b4_1, C.u b4_2, C.u b4_3]), [], []⟩) (s93st0 a b m t8 b4_0 b4_1 b4_2 b4_3) :=
  G.ends (tab_ok libe0_ok) mixed [(18, false)] 1000000 [] (by kernel_rfl) (by kernel_rfl) (by kernel_rfl) (by kernel_rfl)
    (ocons (ndec h1) (ocons rfl onil))


/-- what four cells say. -/
def d4 (a b c d : Nat) : Nat := num4 (a % 18446744073709551616) (b % 18446744073709551616) (c % 18446744073709551616) (d % 18446744073709551616)
theorem d4_num (n : Nat) : d4 n (n / 18446744073709551616) (n / 340282366920938463463374607431768211456) (n / 6277101735386680763835789423207666416102355444464034512896) = n % 115792089237316195423570985008687907853269984665640564039457584007913129639936 := nn_eq n
theorem rw_d4 {ρ : Env} {a b c d : Nat} (y : Value) : RW ρ (.agg [.u a, .u b, .u c, .u d]) y → RW ρ (.agg (numC (d4 a b c d))) y := by
  obtain ⟨h0, h1, h2, h3, _⟩ := num4_cells (Nat.mod_lt a (show 0 < 18446744073709551616 by decide)) (Nat.mod_lt b (show 0 < 18446744073709551616 by decide)) (Nat.mod_lt c (show 0 < 18446744073709551616 by decide)) (Nat.mod_lt d (show 0 < 18446744073709551616 by decide))
  refine rw4 (fun y h => ?_) (fun y h => ?_) (fun y h => ?_) (fun y h => ?_)
  · show y = _; rw [show y = _ from h, d4, h0]
  · show y = _; rw [show y = _ from h, d4, h1]
  · show y = _; rw [show y = _ from h, d4, h2]
  · show y = _; rw [show y = _ from h, d4, h3]
/-- twice a number, and a bit. -/
theorem d4_or {x b : Nat} (hb : b < 2) : d4 (x + x ||| b) ((x + x) / 18446744073709551616) ((x + x) / 340282366920938463463374607431768211456) ((x + x) / 6277101735386680763835789423207666416102355444464034512896) = (x + x + b) % 115792089237316195423570985008687907853269984665640564039457584007913129639936 := by
  have e : x + x ||| b = x + x + b := by
    have := Nat.two_pow_add_eq_or_of_lt (i := 1) (b := b) (by omega) x
    rw [show 2 ^ 1 * x = x + x by omega] at this
    exact this.symm
  rw [e, ← nn_eq]
  unfold d4 nn
  have h1 : (x + x) / 18446744073709551616 = (x + x + b) / 18446744073709551616 := by omega
  have h2 : (x + x) / 340282366920938463463374607431768211456 = (x + x + b) / 340282366920938463463374607431768211456 := by omega
  have h3 : (x + x) / 6277101735386680763835789423207666416102355444464034512896 = (x + x + b) / 6277101735386680763835789423207666416102355444464034512896 := by omega
  rw [h1, h2, h3]
theorem bitI_lt (n : Nat) (i : Int) : bitI n i < 2 := by
  unfold bitI
  cases decide (0 ≤ i) && decide (i < 256) with
  | true => exact Nat.mod_lt _ (by decide)
  | false => exact Nat.zero_lt_succ _
theorem bitI_low {n k : Nat} (h : k < 256) : bitI n (k : Nat) = n / 2 ^ k % 2 := by
  unfold bitI
  rw [decide_eq_true (p := (0 : Int) ≤ (k : Nat)) (by omega), decide_eq_true (p := ((k : Nat) : Int) < 256) (by omega)]
  rfl
/-- the bits of a number of two parts. -/
theorem bit_hi {a b k : Nat} (ha : a < 115792089237316195423570985008687907853269984665640564039457584007913129639936) (h : 256 ≤ k) : (a + 115792089237316195423570985008687907853269984665640564039457584007913129639936 * b) / 2 ^ k = b / 2 ^ (k - 256) := by
  have e : 2 ^ k = 115792089237316195423570985008687907853269984665640564039457584007913129639936 * 2 ^ (k - 256) := by
    rw [show (115792089237316195423570985008687907853269984665640564039457584007913129639936 : Nat) = 2 ^ 256 from by decide, ← Nat.pow_add, Nat.add_sub_of_le h]
  rw [e, ← Nat.div_div_eq_div_mul, Nat.add_mul_div_left _ _ (by decide), Nat.div_eq_of_lt ha, Nat.zero_add]
theorem bit_lo {a b k : Nat} (h : k < 256) : (a + 115792089237316195423570985008687907853269984665640564039457584007913129639936 * b) / 2 ^ k % 2 = a / 2 ^ k % 2 := by
  have e : (115792089237316195423570985008687907853269984665640564039457584007913129639936 : Nat) = 2 ^ k * (2 * 2 ^ (255 - k)) := by
    rw [← Nat.mul_assoc, ← Nat.pow_succ, ← Nat.pow_add, show k.succ + (255 - k) = 256 by omega]
  rw [e, Nat.mul_assoc, Nat.add_mul_div_left _ _ (Nat.pow_pos (by decide)), Nat.mul_assoc, Nat.add_mul_mod_self_left]
theorem rem_bit (X m n : Nat) (_hm : 0 < m) : X / 2 ^ n % m = (X / 2 ^ (n + 1) % m + X / 2 ^ (n + 1) % m + X / 2 ^ n % 2) % m := by
  have e : X / 2 ^ n = 2 * (X / 2 ^ (n + 1)) + X / 2 ^ n % 2 := by
    rw [Nat.pow_succ, ← Nat.div_div_eq_div_mul]
    exact (Nat.div_add_mod _ 2).symm
  have : X / 2 ^ n = X / 2 ^ (n + 1) + X / 2 ^ (n + 1) + X / 2 ^ n % 2 := by omega
  conv => lhs; rw [this]
  rw [Nat.add_mod, Nat.add_mod (X / 2 ^ (n + 1)), Nat.add_mod (X / 2 ^ (n + 1) % m + X / 2 ^ (n + 1) % m)]
/-- what a turn makes of the rest so far. -/
theorem rem_turn {x m b : Nat} (hx : x < m) (hm : m < 115792089237316195423570985008687907853269984665640564039457584007913129639936) (hb : b < 2) :
    ((x + x) / 115792089237316195423570985008687907853269984665640564039457584007913129639936 % 18446744073709551616 = 1 → (d4 (x + x ||| b) ((x + x) / 18446744073709551616) ((x + x) / 340282366920938463463374607431768211456) ((x + x) / 6277101735386680763835789423207666416102355444464034512896) + (115792089237316195423570985008687907853269984665640564039457584007913129639936 - m)) % 115792089237316195423570985008687907853269984665640564039457584007913129639936 = (x + x + b) % m) ∧
    (¬ (x + x) / 115792089237316195423570985008687907853269984665640564039457584007913129639936 % 18446744073709551616 = 1 → ¬ d4 (x + x ||| b) ((x + x) / 18446744073709551616) ((x + x) / 340282366920938463463374607431768211456) ((x + x) / 6277101735386680763835789423207666416102355444464034512896) < m → (d4 (x + x ||| b) ((x + x) / 18446744073709551616) ((x + x) / 340282366920938463463374607431768211456) ((x + x) / 6277101735386680763835789423207666416102355444464034512896) + (115792089237316195423570985008687907853269984665640564039457584007913129639936 - m)) % 115792089237316195423570985008687907853269984665640564039457584007913129639936 = (x + x + b) % m) ∧
    (¬ (x + x) / 115792089237316195423570985008687907853269984665640564039457584007913129639936 % 18446744073709551616 = 1 → d4 (x + x ||| b) ((x + x) / 18446744073709551616) ((x + x) / 340282366920938463463374607431768211456) ((x + x) / 6277101735386680763835789423207666416102355444464034512896) < m → d4 (x + x ||| b) ((x + x) / 18446744073709551616) ((x + x) / 340282366920938463463374607431768211456) ((x + x) / 6277101735386680763835789423207666416102355444464034512896) = (x + x + b) % m) := by
  rw [d4_or hb]
  have hlt : x + x + b < 2 * m := by omega
  have big : m ≤ x + x + b → (x + x + b) % m = x + x + b - m := fun h => by
    rw [Nat.mod_eq_sub_mod h, Nat.mod_eq_of_lt (by omega)]
  refine ⟨fun h => ?_, fun h1 h2 => ?_, fun h1 h2 => ?_⟩
  · rw [big (by omega)]; omega
  · rw [big (by omega)]; omega
  · rw [Nat.mod_eq_of_lt (a := x + x + b) (b := m) (by omega)]; omega
theorem s93n {a b m : Nat} (ha : a < P256) (hb : b < P256) (hm : m < P256) : Sx.Spec Try.prog 93 [.agg (numC a), .agg (numC b), .agg (numC m)] [] (r93 [a, b, m]) := by
  have na := nn_id ha
  have nb := nn_id hb
  have nm := nn_id hm
  unfold P256 at ha hb hm
  by_cases h0 : m = 0
  · subst h0
    exact spec_res (s93_1 a b 0 rfl) (by kernel_rfl)
  have hm0 : 0 < m := Nat.pos_of_ne_zero h0
  have hz : (!Nat.beq (nn m) 0) = true := by rw [nm, beq_f h0]; rfl
  have hv : r93 [a, b, m] = ⟨.w (.agg (numC ((a + 115792089237316195423570985008687907853269984665640564039457584007913129639936 * b) % m))), [], []⟩ := by
    show (⟨.w (.agg (numC (remN a b m))), [], []⟩ : Res) = _
    unfold remN
    rw [beq_f h0]
    rfl
  rw [hv]
  refine spec_body (tab := tab libe0) Try.func93 (by kernel_rfl) (by kernel_rfl) (by kernel_rfl) fun ρ w => ?_
  refine s93_2 a b m hz ?_
  have X : ∀ n : Nat, n ≤ 512 → ∀ c0 c1 c2 c3, d4 c0 c1 c2 c3 = (a + 115792089237316195423570985008687907853269984665640564039457584007913129639936 * b) / 2 ^ n % m → G (mkX Try.prog (tab libe0) Try.f93 [] ρ w ⟨.w (.agg (numC ((a + 115792089237316195423570985008687907853269984665640564039457584007913129639936 * b) % m))), [], []⟩) (s93st0 a b m ((n : Int) - 1) c0 c1 c2 c3) := by
    intro n
    induction n with
    | zero =>
      intro _ c0 c1 c2 c3 hc
      rw [Nat.pow_zero, Nat.div_one] at hc
      refine G.resv (r := ⟨.w (.agg [.u c0, .u c1, .u c2, .u c3]), [], []⟩) (fun ρ y h => ?_) (s93_9 a b m _ c0 c1 c2 c3 (by omega))
      rw [← hc]
      exact rw_d4 y h
    | succ n ih =>
      intro hn c0 c1 c2 c3 hc
      have ei : (((n + 1 : Nat) : Int) - 1) = (n : Int) := by omega
      rw [ei]
      have ew : IntKind.wrap .i64 ((n : Int) - 1) = (n : Int) - 1 := by rw [i64w] <;> omega
      have hx : d4 c0 c1 c2 c3 < m := by rw [hc]; exact Nat.mod_lt _ hm0
      by_cases h256 : 256 ≤ n
      · have e2 : IntKind.wrap .i64 ((n : Int) - 256) = ((n - 256 : Nat) : Int) := by rw [i64w] <;> omega
        have eb : bitI (nn b) (IntKind.wrap .i64 ((n : Int) - 256)) = (a + 115792089237316195423570985008687907853269984665640564039457584007913129639936 * b) / 2 ^ n % 2 := by
          rw [e2, nb, bitI_low (by omega), bit_hi ha h256]
        obtain ⟨t1, t2, t3⟩ := rem_turn hx hm (bitI_lt (nn b) (IntKind.wrap .i64 ((n : Int) - 256)))
        rw [show (d4 c0 c1 c2 c3 + d4 c0 c1 c2 c3 + bitI (nn b) (IntKind.wrap .i64 ((n : Int) - 256))) % m = (a + 115792089237316195423570985008687907853269984665640564039457584007913129639936 * b) / 2 ^ n % m by rw [rem_bit _ m n hm0, hc, eb]] at t1 t2 t3
        by_cases hov : (d4 c0 c1 c2 c3 + d4 c0 c1 c2 c3) / 115792089237316195423570985008687907853269984665640564039457584007913129639936 % 18446744073709551616 = 1
        · refine s93_3 a b m n c0 c1 c2 c3 (by omega) (by omega) hov ?_
          rw [ew]
          refine ih (by omega) _ _ _ _ ?_
          rw [d4_num, nm]
          exact t1 hov
        · by_cases hls : d4 (d4 c0 c1 c2 c3 + d4 c0 c1 c2 c3 ||| bitI (nn b) (IntKind.wrap .i64 ((n : Int) - 256))) ((d4 c0 c1 c2 c3 + d4 c0 c1 c2 c3) / 18446744073709551616) ((d4 c0 c1 c2 c3 + d4 c0 c1 c2 c3) / 340282366920938463463374607431768211456) ((d4 c0 c1 c2 c3 + d4 c0 c1 c2 c3) / 6277101735386680763835789423207666416102355444464034512896) < m
          · refine s93_5 a b m n c0 c1 c2 c3 (by omega) (by omega) ?_ ?_ ?_
            · exact congrArg Bool.not (beq_f hov)
            · rw [nm]
              refine congrArg Bool.not (beq_f ?_)
              have : Nat.blt _ _ = true := Nat.blt_eq.mpr hls
              exact fun e => absurd (e.symm.trans (congrArg (fun x => b2n x % 18446744073709551616) this)) (by decide)
            · rw [ew]
              exact ih (by omega) _ _ _ _ (t3 hov hls)
          · refine s93_4 a b m n c0 c1 c2 c3 (by omega) (by omega) ?_ ?_ ?_
            · exact congrArg Bool.not (beq_f hov)
            · rw [nm]
              exact congrArg (fun x => b2n x % 18446744073709551616) (blt_f hls)
            · rw [ew]
              refine ih (by omega) _ _ _ _ ?_
              rw [d4_num, nm]
              exact t2 hov hls
      · have eb : bitI (nn a) (n : Int) = (a + 115792089237316195423570985008687907853269984665640564039457584007913129639936 * b) / 2 ^ n % 2 := by
          rw [na, bitI_low (by omega), bit_lo (by omega)]
        obtain ⟨t1, t2, t3⟩ := rem_turn hx hm (bitI_lt (nn a) (n : Int))
        rw [show (d4 c0 c1 c2 c3 + d4 c0 c1 c2 c3 + bitI (nn a) (n : Int)) % m = (a + 115792089237316195423570985008687907853269984665640564039457584007913129639936 * b) / 2 ^ n % m by rw [rem_bit _ m n hm0, hc, eb]] at t1 t2 t3
        by_cases hov : (d4 c0 c1 c2 c3 + d4 c0 c1 c2 c3) / 115792089237316195423570985008687907853269984665640564039457584007913129639936 % 18446744073709551616 = 1
        · refine s93_6 a b m n c0 c1 c2 c3 (by omega) (by omega) hov ?_
          rw [ew]
          refine ih (by omega) _ _ _ _ ?_
          rw [d4_num, nm]
          exact t1 hov
        · by_cases hls : d4 (d4 c0 c1 c2 c3 + d4 c0 c1 c2 c3 ||| bitI (nn a) (n : Int)) ((d4 c0 c1 c2 c3 + d4 c0 c1 c2 c3) / 18446744073709551616) ((d4 c0 c1 c2 c3 + d4 c0 c1 c2 c3) / 340282366920938463463374607431768211456) ((d4 c0 c1 c2 c3 + d4 c0 c1 c2 c3) / 6277101735386680763835789423207666416102355444464034512896) < m
          · refine s93_8 a b m n c0 c1 c2 c3 (by omega) (by omega) ?_ ?_ ?_
            · exact congrArg Bool.not (beq_f hov)
            · rw [nm]
              refine congrArg Bool.not (beq_f ?_)
              have : Nat.blt _ _ = true := Nat.blt_eq.mpr hls
              exact fun e => absurd (e.symm.trans (congrArg (fun x => b2n x % 18446744073709551616) this)) (by decide)
            · rw [ew]
              exact ih (by omega) _ _ _ _ (t3 hov hls)
          · refine s93_7 a b m n c0 c1 c2 c3 (by omega) (by omega) ?_ ?_ ?_
            · exact congrArg Bool.not (beq_f hov)
            · rw [nm]
              exact congrArg (fun x => b2n x % 18446744073709551616) (blt_f hls)
            · rw [ew]
              refine ih (by omega) _ _ _ _ ?_
              rw [d4_num, nm]
              exact t2 hov hls
  have hz0 : ∀ n : Nat, n = 512 → (a + 115792089237316195423570985008687907853269984665640564039457584007913129639936 * b) / 2 ^ n = 0 := by
    intro n hn
    rw [bit_hi ha (by omega)]
    refine Nat.div_eq_of_lt (Nat.lt_of_lt_of_le hb ?_)
    rw [show (115792089237316195423570985008687907853269984665640564039457584007913129639936 : Nat) = 2 ^ 256 from by decide]
    exact Nat.pow_le_pow_right (by decide) (by omega)
  have hgo : ∀ n : Nat, n = 512 → G (mkX Try.prog (tab libe0) Try.f93 [] ρ w ⟨.w (.agg (numC ((a + 115792089237316195423570985008687907853269984665640564039457584007913129639936 * b) % m))), [], []⟩) (s93st0 a b m ((n : Int) - 1) 0 0 0 0) := by
    intro n hn
    refine X n (by omega) 0 0 0 0 ?_
    rw [hz0 n hn, Nat.zero_mod]
    rfl
  exact hgo 512 rfl
theorem e93n_ok : EntryOk Try.prog 93 (numsE [1, 1, 1] r93) := numsE_ok fun ns h hl => by
  obtain ⟨a, b, m, rfl⟩ := ns3 h
  exact s93n (hl a (by simp)) (hl b (by simp)) (hl m (by simp))
end Go.Proofs.Ytmjejlbmcefaoaa
namespace Go.Proofs.Ytmjejlbmcefaoaa
open Go Sx

def libf0 : List (Nat × Entry) := [(218, e218)]
theorem libf0_ok : AllOk Try.prog libf0 := .cons e218_ok (.nil _)
noncomputable def s89k0 : List Item := kAt Try.prog (tab libf0) Try.f89 [] 0 [W.ints IntKind.u64 [0], W.ints IntKind.u64 [0]] []
noncomputable def s89st0 (l : List Int) (m : List Int) (t13h0 : Int) (b4_0h0 : List Int) : Cfg := cfg s89k0 [2, 3, 4, 5, 6, 13] [V.w (W.c (C.ptr 0 0)), V.w (W.c (C.ptr 1 0)), V.w (W.c (C.ptr 2 0)), V.w (W.c (C.ptr 3 0)), V.w (W.c (C.ptr 4 0)), V.int IntKind.i64 t13h0] [Blk.mk 80 Mode.rw (K.ints IntKind.u64 l), Blk.mk 80 Mode.rw (K.ints IntKind.u64 m), Blk.mk 80 Mode.rw (K.ints IntKind.u64 [0, 0, 0, 0]), Blk.mk 80 Mode.rw (K.ints IntKind.u64 [0, 0, 0, 0]), Blk.mk 211 Mode.rw (K.ints IntKind.u64 b4_0h0)]
noncomputable def s89k1 : List Item := kAt Try.prog (tab libf0) Try.f89 [(14, true)] 1 [W.ints IntKind.u64 [0], W.ints IntKind.u64 [0]] []
noncomputable def s89st1 (l : List Int) (m : List Int) (t8h1 : Int) (t16h1 : Int) (b4_0h1 : List Int) (t13h0 : Int) : Cfg := cfg s89k1 [2, 3, 4, 5, 6, 7, 8, 13, 16] [V.w (W.c (C.ptr 0 0)), V.w (W.c (C.ptr 1 0)), V.w (W.c (C.ptr 2 0)), V.w (W.c (C.ptr 3 0)), V.w (W.c (C.ptr 4 0)), V.int IntKind.i64 t13h0, V.int IntKind.u64 t8h1, V.int IntKind.i64 t13h0, V.int IntKind.i64 t16h1] [Blk.mk 80 Mode.rw (K.ints IntKind.u64 l), Blk.mk 80 Mode.rw (K.ints IntKind.u64 m), Blk.mk 80 Mode.rw (K.ints IntKind.u64 [0, 0, 0, 0]), Blk.mk 80 Mode.rw (K.ints IntKind.u64 [0, 0, 0, 0]), Blk.mk 211 Mode.rw (K.ints IntKind.u64 b4_0h1)]
theorem s89_1 {ρ : Env} {w : World} {r : Res} (l : List Int) (m : List Int) (hg : G (mkX Try.prog (tab libf0) Try.f89 [] ρ w r) (s89st0 (l) (m) (0) ([0, 0, 0, 0, 0, 0, 0, 0]))) : G (mkX Try.prog (tab libf0) Try.f89 [] ρ w r) (cfg [.code (Try.f89.body.getD .skip)] (List.range 2) ([W.ints IntKind.u64 l, W.ints IntKind.u64 m].map V.w) []) :=
  G.seg (X := mkX Try.prog (tab libf0) Try.f89 [] ρ w r) ⟨tab_ok libf0_ok, mixed⟩ [] 1000000 0 [2, 3, 4, 5, 6, 13] [(0, none), (4, none), (8, some IntKind.u64), (12, some IntKind.u64), (16, some IntKind.u64)] (k := s89k0) (vs := [V.w (W.c (C.ptr 0 0)), V.w (W.c (C.ptr 1 0)), V.w (W.c (C.ptr 2 0)), V.w (W.c (C.ptr 3 0)), V.w (W.c (C.ptr 4 0)), V.int IntKind.i64 0]) (bs := [Blk.mk 80 Mode.rw (K.ints IntKind.u64 l), Blk.mk 80 Mode.rw (K.ints IntKind.u64 m), Blk.mk 80 Mode.rw (K.ints IntKind.u64 [0, 0, 0, 0]), Blk.mk 80 Mode.rw (K.ints IntKind.u64 [0, 0, 0, 0]), Blk.mk 211 Mode.rw (K.ints IntKind.u64 [0, 0, 0, 0, 0, 0, 0, 0])]) (by kernel_rfl) (by kernel_rfl)
    onil hg
theorem s89_2 {ρ : Env} {w : World} {r : Res} (l : List Int) (m : List Int) (t13h0 : Int) (b4_0h0 : List Int) (h1 : t13h0 < 4) (hg : G (mkX Try.prog (tab libf0) Try.f89 [] ρ w r) (s89st1 (l) (m) (0) (0) (b4_0h0) (t13h0))) : G (mkX Try.prog (tab libf0) Try.f89 [] ρ w r) (s89st0 l m t13h0 b4_0h0) :=
  G.seg (X := mkX Try.prog (tab libf0) Try.f89 [] ρ w r) ⟨tab_ok libf0_ok, mixed⟩ [(14, true)] 1000000 0 [2, 3, 4, 5, 6, 7, 8, 13, 16] [(0, none), (1, none), (2, none), (3, none), (4, none)] (k := s89k1) (vs := [V.w (W.c (C.ptr 0 0)), V.w (W.c (C.ptr 1 0)), V.w (W.c (C.ptr 2 0)), V.w (W.c (C.ptr 3 0)), V.w (W.c (C.ptr 4 0)), V.int IntKind.i64 t13h0, V.int IntKind.u64 0, V.int IntKind.i64 t13h0, V.int IntKind.i64 0]) (bs := [Blk.mk 80 Mode.rw (K.ints IntKind.u64 l), Blk.mk 80 Mode.rw (K.ints IntKind.u64 m), Blk.mk 80 Mode.rw (K.ints IntKind.u64 [0, 0, 0, 0]), Blk.mk 80 Mode.rw (K.ints IntKind.u64 [0, 0, 0, 0]), Blk.mk 211 Mode.rw (K.ints IntKind.u64 b4_0h0)]) (by kernel_rfl) (by kernel_rfl)
    (ocons (decide_eq_true h1) onil) hg
theorem s89_3 {ρ : Env} {w : World} (l : List Int) (m : List Int) (t13h0 : Int) (b4_0h0 : List Int) (h1 : ¬t13h0 < 4) (h2 : 0 < List.length b4_0h0) (h3 : 1 < List.length b4_0h0) (h4 : 2 < List.length b4_0h0) (h5 : 3 < List.length b4_0h0) (h6 : 4 < List.length b4_0h0) (h7 : 5 < List.length b4_0h0) (h8 : 6 < List.length b4_0h0) (h9 : 7 < List.length b4_0h0) (h10 : 3 < List.length (List.set (List.set (List.set [0, 0, 0, 0] 0 (List.getD b4_0h0 0 0)) 1 (List.getD b4_0h0 1 0)) 2 (List.getD b4_0h0 2 0))) (h11 : 3 < List.length (List.set (List.set (List.set [0, 0, 0, 0] 0 (List.getD b4_0h0 4 0)) 1 (List.getD b4_0h0 5 0)) 2 (List.getD b4_0h0 6 0))) (h12 : 0 < List.length (List.set (List.set (List.set (List.set [0, 0, 0, 0] 0 (List.getD b4_0h0 0 0)) 1 (List.getD b4_0h0 1 0)) 2 (List.getD b4_0h0 2 0)) 3 (List.getD b4_0h0 3 0))) (h13 : 1 < List.length (List.set (List.set (List.set (List.set [0, 0, 0, 0] 0 (List.getD b4_0h0 0 0)) 1 (List.getD b4_0h0 1 0)) 2 (List.getD b4_0h0 2 0)) 3 (List.getD b4_0h0 3 0))) (h14 : 2 < List.length (List.set (List.set (List.set (List.set [0, 0, 0, 0] 0 (List.getD b4_0h0 0 0)) 1 (List.getD b4_0h0 1 0)) 2 (List.getD b4_0h0 2 0)) 3 (List.getD b4_0h0 3 0))) (h15 : 3 < List.length (List.set (List.set (List.set (List.set [0, 0, 0, 0] 0 (List.getD b4_0h0 0 0)) 1 (List.getD b4_0h0 1 0)) 2 (List.getD b4_0h0 2 0)) 3 (List.getD b4_0h0 3 0))) (h16 : 0 < List.length (List.set (List.set (List.set (List.set [0, 0, 0, 0] 0 (List.getD b4_0h0 4 0)) 1 (List.getD b4_0h0 5 0)) 2 (List.getD b4_0h0 6 0)) 3 (List.getD b4_0h0 7 0))) (h17 : 1 < List.length (List.set (List.set (List.set (List.set [0, 0, 0, 0] 0 (List.getD b4_0h0 4 0)) 1 (List.getD b4_0h0 5 0)) 2 (List.getD b4_0h0 6 0)) 3 (List.getD b4_0h0 7 0))) (h18 : 2 < List.length (List.set (List.set (List.set (List.set [0, 0, 0, 0] 0 (List.getD b4_0h0 4 0)) 1 (List.getD b4_0h0 5 0)) 2 (List.getD b4_0h0 6 0)) 3 (List.getD b4_0h0 7 0))) (h19 : 3 < List.length (List.set (List.set (List.set (List.set [0, 0, 0, 0] 0 (List.getD b4_0h0 4 0)) 1 (List.getD b4_0h0 5 0)) 2 (List.getD b4_0h0 6 0)) 3 (List.getD b4_0h0 7 0))) : G (mkX Try.prog (tab libf0) Try.f89 [] ρ w ⟨V.tup [W.agg [C.v (Value.int IntKind.u64 (List.getD (List.set (List.set (List.set (List.set [0, 0, 0, 0] 0 (List.getD b4_0h0 0 0)) 1 (List.getD b4_0h0 1 0)) 2 (List.getD b4_0h0 2 0)) 3 (List.getD b4_0h0 3 0)) 0 0)), C.v (Value.int IntKind.u64 (List.getD (List.set (List.set (List.set (List.set [0, 0, 0, 0] 0 (List.getD b4_0h0 0 0)) 1 (List.getD b4_0h0 1 0)) 2 (List.getD b4_0h0 2 0)) 3 (List.getD b4_0h0 3 0)) 1 0)), C.v (Value.int IntKind.u64 (List.getD (List.set (List.set (List.set (List.set [0, 0, 0, 0] 0 (List.getD b4_0h0 0 0)) 1 (List.getD b4_0h0 1 0)) 2 (List.getD b4_0h0 2 0)) 3 (List.getD b4_0h0 3 0)) 2 0)), C.v (Value.int IntKind.u64 (List.getD (List.set (List.set (List.set (List.set [0, 0, 0, 0] 0 (List.getD b4_0h0 0 0)) 1 (List.getD b4_0h0 1 0)) 2 (List.getD b4_0h0 2 0)) 3 (List.getD b4_0h0 3 0)) 3 0))], W.agg [C.v (Value.int IntKind.u64 (List.getD (List.set (List.set (List.set (List.set [0, 0, 0, 0] 0 (List.getD b4_0h0 4 0)) 1 (List.getD b4_0h0 5 0)) 2 (List.getD b4_0h0 6 0)) 3 (List.getD b4_0h0 7 0)) 0 0)), C.v (Value.int IntKind.u64 (List.getD (List.set (List.set (List.set (List.set [0, 0, 0, 0] 0 (List.getD b4_0h0 4 0)) 1 (List.getD b4_0h0 5 0)) 2 (List.getD b4_0h0 6 0)) 3 (List.getD b4_0h0 7 0)) 1 0)), C.v (Value.int IntKind.u64 (List.getD (List.set (List.set (List.set (List.set [0, 0, 0, 0] 0 (List.getD b4_0h0 4 0)) 1 (List.getD b4_0h0 5 0)) 2 (List.getD b4_0h0 6 0)) 3 (List.getD b4_0h0 7 0)) 2 0)), C.v (Value.int IntKind.u64 (List.getD (List.set (List.set (List.set (List.set [0, 0, 0, 0] 0 (List.getD b4_0h0 4 0)) 1 (List.getD b4_0h0 5 0)) 2 (List.getD b4_0h0 6 0)) 3 (List.getD b4_0h0 7 0)) 3 0))]], [], []⟩) (s89st0 l m t13h0 b4_0h0) :=
  G.ends (tab_ok libf0_ok) mixed [(14, false)] 1000000 [] (by kernel_rfl) (by kernel_rfl) (by kernel_rfl) (by kernel_rfl)
    (ocons (ndec h1) (ocons rfl (ocons rfl (ocons rfl (ocons rfl (ocons rfl (ocons (bltT h2) (ocons (bltT h3) (ocons (bltT h4) (ocons (bltT h5) (ocons rfl (ocons rfl (ocons rfl (ocons rfl (ocons rfl (ocons (bltT h6) (ocons (bltT h7) (ocons (bltT h8) (ocons (bltT h9) (ocons rfl (ocons rfl (ocons rfl (ocons rfl (ocons (bltT h10) (ocons rfl (ocons rfl (ocons rfl (ocons rfl (ocons (bltT h11) (ocons (bltT h12) (ocons (bltT h13) (ocons (bltT h14) (ocons (bltT h15) (ocons (bltT h16) (ocons (bltT h17) (ocons (bltT h18) (ocons (bltT h19) onil)))))))))))))))))))))))))))))))))))))
theorem s89_4 {ρ : Env} {w : World} {r : Res} (l : List Int) (m : List Int) (t8h1 : Int) (t16h1 : Int) (b4_0h1 : List Int) (t13h0 : Int) (h1 : t16h1 < 4) (h2 : 0 ≤ t13h0) (h3 : t13h0 < 4) (h4 : Int.toNat t13h0 < List.length l) (h5 : 0 ≤ t16h1) (h6 : Int.toNat t16h1 < List.length m) (h7 : w64 (List.getD l (Int.toNat t13h0) 0) = true) (h8 : w64 (List.getD m (Int.toNat t16h1) 0) = true) (h9 : 0 ≤ IntKind.wrap IntKind.i64 (t13h0 + t16h1)) (h10 : IntKind.wrap IntKind.i64 (t13h0 + t16h1) < 8) (h11 : Int.toNat (IntKind.wrap IntKind.i64 (t13h0 + t16h1)) < List.length b4_0h1) (h12 : Int.toNat (IntKind.wrap IntKind.i64 (t13h0 + t16h1)) + 0 < List.length b4_0h1) (hg : G (mkX Try.prog (tab libf0) Try.f89 [] ρ w r) (s89st1 (l) (m) (IntKind.wrap IntKind.u64 (IntKind.wrap IntKind.u64 (List.getD l (Int.toNat t13h0) 0 * List.getD m (Int.toNat t16h1) 0 / 18446744073709551616 + addC (List.getD l (Int.toNat t13h0) 0 * List.getD m (Int.toNat t16h1) 0 % 18446744073709551616) (List.getD b4_0h1 (Int.toNat (IntKind.wrap IntKind.i64 (t13h0 + t16h1))) 0) 0) + addC (addS (List.getD l (Int.toNat t13h0) 0 * List.getD m (Int.toNat t16h1) 0 % 18446744073709551616) (List.getD b4_0h1 (Int.toNat (IntKind.wrap IntKind.i64 (t13h0 + t16h1))) 0) 0) t8h1 0)) (IntKind.wrap IntKind.i64 (t16h1 + 1)) (List.set b4_0h1 (Int.toNat (IntKind.wrap IntKind.i64 (t13h0 + t16h1)) + 0) (addS (addS (List.getD l (Int.toNat t13h0) 0 * List.getD m (Int.toNat t16h1) 0 % 18446744073709551616) (List.getD b4_0h1 (Int.toNat (IntKind.wrap IntKind.i64 (t13h0 + t16h1))) 0) 0) t8h1 0)) (t13h0))) : G (mkX Try.prog (tab libf0) Try.f89 [] ρ w r) (s89st1 l m t8h1 t16h1 b4_0h1 t13h0) :=
  G.seg (X := mkX Try.prog (tab libf0) Try.f89 [] ρ w r) ⟨tab_ok libf0_ok, mixed⟩ [(17, true)] 1000000 0 [2, 3, 4, 5, 6, 7, 8, 13, 16] [(0, none), (1, none), (2, none), (3, none), (4, none)] (k := s89k1) (vs := [V.w (W.c (C.ptr 0 0)), V.w (W.c (C.ptr 1 0)), V.w (W.c (C.ptr 2 0)), V.w (W.c (C.ptr 3 0)), V.w (W.c (C.ptr 4 0)), V.int IntKind.i64 t13h0, V.int IntKind.u64 (IntKind.wrap IntKind.u64 (IntKind.wrap IntKind.u64 (List.getD l (Int.toNat t13h0) 0 * List.getD m (Int.toNat t16h1) 0 / 18446744073709551616 + addC (List.getD l (Int.toNat t13h0) 0 * List.getD m (Int.toNat t16h1) 0 % 18446744073709551616) (List.getD b4_0h1 (Int.toNat (IntKind.wrap IntKind.i64 (t13h0 + t16h1))) 0) 0) + addC (addS (List.getD l (Int.toNat t13h0) 0 * List.getD m (Int.toNat t16h1) 0 % 18446744073709551616) (List.getD b4_0h1 (Int.toNat (IntKind.wrap IntKind.i64 (t13h0 + t16h1))) 0) 0) t8h1 0)), V.int IntKind.i64 t13h0, V.int IntKind.i64 (IntKind.wrap IntKind.i64 (t16h1 + 1))]) (bs := [Blk.mk 80 Mode.rw (K.ints IntKind.u64 l), Blk.mk 80 Mode.rw (K.ints IntKind.u64 m), Blk.mk 80 Mode.rw (K.ints IntKind.u64 [0, 0, 0, 0]), Blk.mk 80 Mode.rw (K.ints IntKind.u64 [0, 0, 0, 0]), Blk.mk 211 Mode.rw (K.ints IntKind.u64 (List.set b4_0h1 (Int.toNat (IntKind.wrap IntKind.i64 (t13h0 + t16h1)) + 0) (addS (addS (List.getD l (Int.toNat t13h0) 0 * List.getD m (Int.toNat t16h1) 0 % 18446744073709551616) (List.getD b4_0h1 (Int.toNat (IntKind.wrap IntKind.i64 (t13h0 + t16h1))) 0) 0) t8h1 0)))]) (by kernel_rfl) (by kernel_rfl)
    (ocons (decide_eq_true h1) (ocons (decide_eq_true h2) (ocons (decide_eq_true h3) (ocons (bltT h4) (ocons (decide_eq_true h5) (ocons (decide_eq_true h1) (ocons (bltT h6) (ocons h7 (ocons h8 (ocons (decide_eq_true h9) (ocons (decide_eq_true h10) (ocons (bltT h11) (ocons rfl (ocons rfl (ocons (decide_eq_true h9) (ocons (decide_eq_true h10) (ocons rfl (ocons (bltT h12) onil)))))))))))))))))) hg
theorem s89_5 {ρ : Env} {w : World} {r : Res} (l : List Int) (m : List Int) (t8h1 : Int) (t16h1 : Int) (b4_0h1 : List Int) (t13h0 : Int) (h1 : ¬t16h1 < 4) (h2 : 0 ≤ IntKind.wrap IntKind.i64 (t13h0 + 4)) (h3 : IntKind.wrap IntKind.i64 (t13h0 + 4) < 8) (h4 : Int.toNat (IntKind.wrap IntKind.i64 (t13h0 + 4)) + 0 < List.length b4_0h1) (hg : G (mkX Try.prog (tab libf0) Try.f89 [] ρ w r) (s89st0 (l) (m) (IntKind.wrap IntKind.i64 (t13h0 + 1)) (List.set b4_0h1 (Int.toNat (IntKind.wrap IntKind.i64 (t13h0 + 4)) + 0) t8h1))) : G (mkX Try.prog (tab libf0) Try.f89 [] ρ w r) (s89st1 l m t8h1 t16h1 b4_0h1 t13h0) :=
  G.seg (X := mkX Try.prog (tab libf0) Try.f89 [] ρ w r) ⟨tab_ok libf0_ok, mixed⟩ [(17, false)] 1000000 0 [2, 3, 4, 5, 6, 13] [(0, none), (1, none), (2, none), (3, none), (4, none)] (k := s89k0) (vs := [V.w (W.c (C.ptr 0 0)), V.w (W.c (C.ptr 1 0)), V.w (W.c (C.ptr 2 0)), V.w (W.c (C.ptr 3 0)), V.w (W.c (C.ptr 4 0)), V.int IntKind.i64 (IntKind.wrap IntKind.i64 (t13h0 + 1))]) (bs := [Blk.mk 80 Mode.rw (K.ints IntKind.u64 l), Blk.mk 80 Mode.rw (K.ints IntKind.u64 m), Blk.mk 80 Mode.rw (K.ints IntKind.u64 [0, 0, 0, 0]), Blk.mk 80 Mode.rw (K.ints IntKind.u64 [0, 0, 0, 0]), Blk.mk 211 Mode.rw (K.ints IntKind.u64 (List.set b4_0h1 (Int.toNat (IntKind.wrap IntKind.i64 (t13h0 + 4)) + 0) t8h1))]) (by kernel_rfl) (by kernel_rfl)
    (ocons (ndec h1) (ocons (decide_eq_true h2) (ocons (decide_eq_true h3) (ocons rfl (ocons (bltT h4) onil))))) hg

noncomputable def s97k0 : List Item := kAt Try.prog (tab libn) Try.f97 [] 0 [W.ints IntKind.u64 [0]] []
noncomputable def s97st0 (l : List Int) (t8 : Int) (b1_1 : List Int) : Cfg := cfg s97k0 [1, 3, 7, 8] [V.w (W.c (C.ptr 0 0)), V.w (W.c (C.own 1)), V.int IntKind.i64 32, V.int IntKind.i64 t8] [Blk.mk 80 Mode.rw (K.ints IntKind.u64 l), Blk.mk 5 (Mode.own 32) (K.ints IntKind.u8 b1_1)]
theorem s97_1 {ρ : Env} {w : World} {r : Res} (l : List Int) (hg : G (mkX Try.prog (tab libn) Try.f97 [] ρ w r) (s97st0 (l) (0) (List.replicate 32 0))) : G (mkX Try.prog (tab libn) Try.f97 [] ρ w r) (cfg [.code (Try.f97.body.getD .skip)] (List.range 1) ([W.ints IntKind.u64 l].map V.w) []) :=
  G.seg (X := mkX Try.prog (tab libn) Try.f97 [] ρ w r) ⟨tab_ok libn_ok, mixed⟩ [] 1000000 0 [1, 3, 7, 8] [(0, none), (8, none)] (k := s97k0) (vs := [V.w (W.c (C.ptr 0 0)), V.w (W.c (C.own 1)), V.int IntKind.i64 32, V.int IntKind.i64 0]) (bs := [Blk.mk 80 Mode.rw (K.ints IntKind.u64 l), Blk.mk 5 (Mode.own 32) (K.ints IntKind.u8 (List.replicate 32 0))]) (by kernel_rfl) (by kernel_rfl)
    (ocons rfl (ocons rfl (ocons rfl onil))) hg
theorem s97_2 {ρ : Env} {w : World} {r : Res} (l : List Int) (t8 : Int) (b1_1 : List Int) (h1 : t8 < 32) (h2 : 0 ≤ IntKind.wrap IntKind.i64 (Int.tdiv t8 8)) (h3 : IntKind.wrap IntKind.i64 (Int.tdiv t8 8) < 4) (h4 : Int.toNat (IntKind.wrap IntKind.i64 (Int.tdiv t8 8)) < List.length l) (h5 : 0 ≤ IntKind.wrap IntKind.i64 (8 * Int.tmod t8 8)) (h6 : 0 ≤ t8) (h7 : Int.toNat t8 + 0 < List.length b1_1) (hg : G (mkX Try.prog (tab libn) Try.f97 [] ρ w r) (s97st0 (l) (IntKind.wrap IntKind.i64 (t8 + 1)) (List.set b1_1 (Int.toNat t8 + 0) (IntKind.wrap IntKind.u8 (Int.fdiv (List.getD l (Int.toNat (IntKind.wrap IntKind.i64 (Int.tdiv t8 8))) 0) (2 ^ min (Int.toNat (IntKind.wrap IntKind.i64 (8 * Int.tmod t8 8))) 64)))))) : G (mkX Try.prog (tab libn) Try.f97 [] ρ w r) (s97st0 l t8 b1_1) :=
  G.seg (X := mkX Try.prog (tab libn) Try.f97 [] ρ w r) ⟨tab_ok libn_ok, mixed⟩ [(9, true)] 1000000 0 [1, 3, 7, 8] [(0, none), (1, none)] (k := s97k0) (vs := [V.w (W.c (C.ptr 0 0)), V.w (W.c (C.own 1)), V.int IntKind.i64 32, V.int IntKind.i64 (IntKind.wrap IntKind.i64 (t8 + 1))]) (bs := [Blk.mk 80 Mode.rw (K.ints IntKind.u64 l), Blk.mk 5 (Mode.own 32) (K.ints IntKind.u8 (List.set b1_1 (Int.toNat t8 + 0) (IntKind.wrap IntKind.u8 (Int.fdiv (List.getD l (Int.toNat (IntKind.wrap IntKind.i64 (Int.tdiv t8 8))) 0) (2 ^ min (Int.toNat (IntKind.wrap IntKind.i64 (8 * Int.tmod t8 8))) 64)))))]) (by kernel_rfl) (by kernel_rfl)
    (ocons (decide_eq_true h1) (ocons rfl (ocons (decide_eq_true h2) (ocons (decide_eq_true h3) (ocons (bltT h4) (ocons rfl (ocons (decide_eq_true h5) (ocons (decide_eq_true h6) (ocons (decide_eq_true h1) (ocons rfl (ocons (bltT h7) onil))))))))))) hg
theorem s97_3 {ρ : Env} {w : World} (l : List Int) (t8 : Int) (b1_1 : List Int) (h1 : ¬t8 < 32) (h2 : 32 ≤ List.length b1_1) : G (mkX Try.prog (tab libn) Try.f97 [] ρ w ⟨V.str (strOf (List.take 32 (List.drop 0 b1_1))), [], []⟩) (s97st0 l t8 b1_1) :=
  G.ends (tab_ok libn_ok) mixed [(9, false)] 1000000 [] (by kernel_rfl) (by kernel_rfl) (by kernel_rfl) (by kernel_rfl)
    (ocons (ndec h1) (ocons (bleT h2) onil))

noncomputable def s96k0 : List Item := kAt Try.prog (tab libn) Try.f96 [(8, false)] 0 [W.c (C.v (Value.string ByteArray.empty))] []
noncomputable def s96st0 (s : ByteArray) (t10 : Int) (b1_0 : List Int) : Cfg := cfg s96k0 [0, 2, 4, 10] [V.str s, V.w (W.c (C.ptr 0 0)), V.w (W.c (C.ptr 1 0)), V.int IntKind.i64 t10] [Blk.mk 80 Mode.rw (K.ints IntKind.u64 [0, 0, 0, 0]), Blk.mk 80 Mode.rw (K.ints IntKind.u64 b1_0)]
theorem s96_1 (s : ByteArray) (h1 : ¬(↑(ByteArray.size s) : Int) = 32) : Sx.Spec Try.prog 96 [W.c (C.v (Value.string s))] [] ⟨V.tup [W.agg [C.u 0, C.u 0, C.u 0, C.u 0], W.int IntKind.i64 1], [], []⟩ :=
  spec_of_whole (tab_ok libn_ok) mixed Try.func96 [(8, true)] 1000000 [] (by kernel_rfl) (by kernel_rfl) (by kernel_rfl) (by kernel_rfl) (by kernel_rfl) (by kernel_rfl)
    (ocons (bneI h1) (ocons rfl onil))
theorem s96_2 {ρ : Env} {w : World} {r : Res} (s : ByteArray) (h1 : (↑(ByteArray.size s) : Int) = 32) (hg : G (mkX Try.prog (tab libn) Try.f96 [] ρ w r) (s96st0 (s) (0) ([0, 0, 0, 0]))) : G (mkX Try.prog (tab libn) Try.f96 [] ρ w r) (cfg [.code (Try.f96.body.getD .skip)] (List.range 1) ([W.c (C.v (Value.string s))].map V.w) []) :=
  G.seg (X := mkX Try.prog (tab libn) Try.f96 [] ρ w r) ⟨tab_ok libn_ok, mixed⟩ [(8, false)] 1000000 0 [0, 2, 4, 10] [(0, some IntKind.u64), (8, some IntKind.u64)] (k := s96k0) (vs := [V.str s, V.w (W.c (C.ptr 0 0)), V.w (W.c (C.ptr 1 0)), V.int IntKind.i64 0]) (bs := [Blk.mk 80 Mode.rw (K.ints IntKind.u64 [0, 0, 0, 0]), Blk.mk 80 Mode.rw (K.ints IntKind.u64 [0, 0, 0, 0])]) (by kernel_rfl) (by kernel_rfl)
    (ocons (nbneI h1) onil) hg
theorem s96_3 {ρ : Env} {w : World} {r : Res} (s : ByteArray) (t10 : Int) (b1_0 : List Int) (h1 : t10 < 32) (h2 : 0 ≤ IntKind.wrap IntKind.i64 (Int.tdiv t10 8)) (h3 : IntKind.wrap IntKind.i64 (Int.tdiv t10 8) < 4) (h4 : Int.toNat (IntKind.wrap IntKind.i64 (Int.tdiv t10 8)) < List.length b1_0) (h5 : 0 ≤ t10) (h6 : t10 < (↑(ByteArray.size s) : Int)) (h7 : 0 ≤ IntKind.wrap IntKind.i64 (8 * Int.tmod t10 8)) (h8 : Int.toNat (IntKind.wrap IntKind.i64 (Int.tdiv t10 8)) + 0 < List.length b1_0) (hg : G (mkX Try.prog (tab libn) Try.f96 [] ρ w r) (s96st0 (s) (IntKind.wrap IntKind.i64 (t10 + 1)) (List.set b1_0 (Int.toNat (IntKind.wrap IntKind.i64 (Int.tdiv t10 8)) + 0) (orI IntKind.u64 (List.getD b1_0 (Int.toNat (IntKind.wrap IntKind.i64 (Int.tdiv t10 8))) 0) (shl IntKind.u64 (IntKind.wrap IntKind.u64 (bt s t10)) (IntKind.wrap IntKind.i64 (8 * Int.tmod t10 8))))))) : G (mkX Try.prog (tab libn) Try.f96 [] ρ w r) (s96st0 s t10 b1_0) :=
  G.seg (X := mkX Try.prog (tab libn) Try.f96 [] ρ w r) ⟨tab_ok libn_ok, mixed⟩ [(11, true)] 1000000 0 [0, 2, 4, 10] [(0, none), (1, none)] (k := s96k0) (vs := [V.str s, V.w (W.c (C.ptr 0 0)), V.w (W.c (C.ptr 1 0)), V.int IntKind.i64 (IntKind.wrap IntKind.i64 (t10 + 1))]) (bs := [Blk.mk 80 Mode.rw (K.ints IntKind.u64 [0, 0, 0, 0]), Blk.mk 80 Mode.rw (K.ints IntKind.u64 (List.set b1_0 (Int.toNat (IntKind.wrap IntKind.i64 (Int.tdiv t10 8)) + 0) (orI IntKind.u64 (List.getD b1_0 (Int.toNat (IntKind.wrap IntKind.i64 (Int.tdiv t10 8))) 0) (shl IntKind.u64 (IntKind.wrap IntKind.u64 (bt s t10)) (IntKind.wrap IntKind.i64 (8 * Int.tmod t10 8))))))]) (by kernel_rfl) (by kernel_rfl)
    (ocons (decide_eq_true h1) (ocons rfl (ocons (decide_eq_true h2) (ocons (decide_eq_true h3) (ocons (bltT h4) (ocons (decide_eq_true h5) (ocons (decide_eq_true h6) (ocons rfl (ocons (decide_eq_true h7) (ocons (decide_eq_true h2) (ocons (decide_eq_true h3) (ocons rfl (ocons (bltT h8) onil))))))))))))) hg
theorem s96_4 {ρ : Env} {w : World} (s : ByteArray) (t10 : Int) (b1_0 : List Int) (h1 : ¬t10 < 32) (h2 : 0 < List.length b1_0) (h3 : 1 < List.length b1_0) (h4 : 2 < List.length b1_0) (h5 : 3 < List.length b1_0) (h6 : 3 < List.length (List.set (List.set (List.set [0, 0, 0, 0] 0 (List.getD b1_0 0 0)) 1 (List.getD b1_0 1 0)) 2 (List.getD b1_0 2 0))) (h7 : 0 < List.length (List.set (List.set (List.set (List.set [0, 0, 0, 0] 0 (List.getD b1_0 0 0)) 1 (List.getD b1_0 1 0)) 2 (List.getD b1_0 2 0)) 3 (List.getD b1_0 3 0))) (h8 : 1 < List.length (List.set (List.set (List.set (List.set [0, 0, 0, 0] 0 (List.getD b1_0 0 0)) 1 (List.getD b1_0 1 0)) 2 (List.getD b1_0 2 0)) 3 (List.getD b1_0 3 0))) (h9 : 2 < List.length (List.set (List.set (List.set (List.set [0, 0, 0, 0] 0 (List.getD b1_0 0 0)) 1 (List.getD b1_0 1 0)) 2 (List.getD b1_0 2 0)) 3 (List.getD b1_0 3 0))) (h10 : 3 < List.length (List.set (List.set (List.set (List.set [0, 0, 0, 0] 0 (List.getD b1_0 0 0)) 1 (List.getD b1_0 1 0)) 2 (List.getD b1_0 2 0)) 3 (List.getD b1_0 3 0))) : G (mkX Try.prog (tab libn) Try.f96 [] ρ w ⟨V.tup [W.agg [C.v (Value.int IntKind.u64 (List.getD (List.set (List.set (List.set (List.set [0, 0, 0, 0] 0 (List.getD b1_0 0 0)) 1 (List.getD b1_0 1 0)) 2 (List.getD b1_0 2 0)) 3 (List.getD b1_0 3 0)) 0 0)), C.v (Value.int IntKind.u64 (List.getD (List.set (List.set (List.set (List.set [0, 0, 0, 0] 0 (List.getD b1_0 0 0)) 1 (List.getD b1_0 1 0)) 2 (List.getD b1_0 2 0)) 3 (List.getD b1_0 3 0)) 1 0)), C.v (Value.int IntKind.u64 (List.getD (List.set (List.set (List.set (List.set [0, 0, 0, 0] 0 (List.getD b1_0 0 0)) 1 (List.getD b1_0 1 0)) 2 (List.getD b1_0 2 0)) 3 (List.getD b1_0 3 0)) 2 0)), C.v (Value.int IntKind.u64 (List.getD (List.set (List.set (List.set (List.set [0, 0, 0, 0] 0 (List.getD b1_0 0 0)) 1 (List.getD b1_0 1 0)) 2 (List.getD b1_0 2 0)) 3 (List.getD b1_0 3 0)) 3 0))], W.int IntKind.i64 0], [], []⟩) (s96st0 s t10 b1_0) :=
  G.ends (tab_ok libn_ok) mixed [(11, false)] 1000000 [] (by kernel_rfl) (by kernel_rfl) (by kernel_rfl) (by kernel_rfl)
    (ocons (ndec h1) (ocons (bltT h2) (ocons (bltT h3) (ocons (bltT h4) (ocons (bltT h5) (ocons rfl (ocons rfl (ocons rfl (ocons rfl (ocons (bltT h6) (ocons (bltT h7) (ocons (bltT h8) (ocons (bltT h9) (ocons (bltT h10) onil))))))))))))))


/-- the number of words in a row. -/
def wv : List Int → Int
  | [] => 0
  | a :: l => a + 18446744073709551616 * wv l
theorem wv_set : ∀ (l : List Int) (j : Nat) (x : Int), j < l.length → wv (l.set j x) = wv l + (x - l.getD j 0) * 18446744073709551616 ^ j
  | [], j, x, h => by simp at h
  | a :: l, 0, x, h => by simp [wv]; omega
  | a :: l, j + 1, x, h => by
    have ih := wv_set l j x (by simpa using h)
    simp only [List.set_cons_succ, wv, ih, List.getD_cons_succ, Int.pow_succ]
    grind
theorem getD_set (l : List Int) (j i : Nat) (x : Int) (hj : j < l.length) : (l.set j x).getD i 0 = if i = j then x else l.getD i 0 := by
  by_cases h : i = j
  · subst h; simp [List.getD, hj]
  · simp [List.getD, Ne.symm h, h]
def lowW (n k : Nat) : Int := ((n % 18446744073709551616 ^ k : Nat) : Int)
theorem lowW_succ (n k : Nat) : lowW n (k + 1) = lowW n k + wd n k * 18446744073709551616 ^ k := by
  unfold lowW wd
  have : n % 18446744073709551616 ^ (k + 1) = n % 18446744073709551616 ^ k + 18446744073709551616 ^ k * (n / 18446744073709551616 ^ k % 18446744073709551616) := by rw [Nat.pow_succ]; exact Nat.mod_mul
  rw [this]
  simp only [Int.natCast_add, Int.natCast_mul, Int.natCast_pow]
  grind
theorem wrow_get (n i : Nat) (h : i < 4) : (wrow n).getD i 0 = wd n i := by
  match i, h with
  | 0, _ => rfl
  | 1, _ => rfl
  | 2, _ => rfl
  | 3, _ => rfl
structure MInv (a b i k : Nat) (row : List Int) (o : Int) : Prop where
  len : row.length = 8
  rng : ∀ j, 0 ≤ row.getD j 0 ∧ row.getD j 0 < 18446744073709551616
  zer : ∀ j, i + 4 ≤ j → row.getD j 0 = 0
  o0 : 0 ≤ o
  o1 : o < 18446744073709551616
  val : wv row + o * 18446744073709551616 ^ (i + k) = lowW a i * b + wd a i * 18446744073709551616 ^ i * lowW b k
theorem MInv.turn {a b i k : Nat} {row : List Int} {o w' o' : Int} (h : MInv a b i k row o) (hi : i < 4) (hk : k < 4) (hw : 0 ≤ w' ∧ w' < 18446744073709551616) (ho : 0 ≤ o' ∧ o' < 18446744073709551616) (e : w' + 18446744073709551616 * o' = wd a i * wd b k + row.getD (i + k) 0 + o) :
    MInv a b i (k + 1) (row.set (i + k) w') o' where
  len := by simp [h.len]
  rng := fun j => by
    rw [getD_set _ _ _ _ (by rw [h.len]; omega)]
    split
    · exact hw
    · exact h.rng j
  zer := fun j hj => by
    rw [getD_set _ _ _ _ (by rw [h.len]; omega), if_neg (by omega)]
    exact h.zer j hj
  o0 := ho.1
  o1 := ho.2
  val := by
    have hv := h.val
    rw [wv_set _ _ _ (by rw [h.len]; omega), lowW_succ, ← Nat.add_assoc, Int.pow_succ]
    rw [Int.pow_add] at hv ⊢
    generalize (18446744073709551616 : Int) ^ i = p at *
    generalize (18446744073709551616 : Int) ^ k = q at *
    generalize wv row = v at *
    generalize row.getD (i + k) 0 = x at *
    generalize lowW a i * (b : Int) = A at *
    generalize wd a i = ai at *
    generalize wd b k = bk at *
    generalize lowW b k = B at *
    grind
theorem mul_lt {x y w o : Int} (hx : 0 ≤ x ∧ x < 18446744073709551616) (hy : 0 ≤ y ∧ y < 18446744073709551616) (hw : 0 ≤ w ∧ w < 18446744073709551616) (ho : 0 ≤ o ∧ o < 18446744073709551616) : 0 ≤ x * y ∧ x * y + w + o < 18446744073709551616 * 18446744073709551616 := by
  have h0 := Int.mul_nonneg hx.1 hy.1
  have h1 := Int.mul_le_mul (show x ≤ 18446744073709551616 - 1 by omega) (show y ≤ 18446744073709551616 - 1 by omega) hy.1 (by omega)
  omega
theorem mul_parts {x y w o : Int} (hx : 0 ≤ x ∧ x < 18446744073709551616) (hy : 0 ≤ y ∧ y < 18446744073709551616) (hw : 0 ≤ w ∧ w < 18446744073709551616) (ho : 0 ≤ o ∧ o < 18446744073709551616) :
    addS (addS (x * y % 18446744073709551616) w 0) o 0 = (x * y + w + o) % 18446744073709551616 ∧
    IntKind.wrap .u64 (IntKind.wrap .u64 (x * y / 18446744073709551616 + addC (x * y % 18446744073709551616) w 0) + addC (addS (x * y % 18446744073709551616) w 0) o 0) = (x * y + w + o) / 18446744073709551616 := by
  obtain ⟨h0, h1⟩ := mul_lt hx hy hw ho
  generalize x * y = p at *
  rw [addS_eq (x := p % 18446744073709551616) (by omega) hw.1 (by omega), addC_eq (x := p % 18446744073709551616) (by omega) hw.1 (by omega)]
  rw [addS_eq (by omega) ho.1 (by omega), addC_eq (by omega) ho.1 (by omega), wU, wU]
  omega
theorem s89n {a b : Nat} (ha : a < P256) (hb : b < P256) : Sx.Spec Try.prog 89 [.agg (numC a), .agg (numC b)] [] (r89 [a, b]) := by
  refine Spec.imps (imps2r a b) ?_
  refine spec_body (tab := tab libf0) Try.func89 (by kernel_rfl) (by kernel_rfl) (by kernel_rfl) fun ρ w => ?_
  have hl : ∀ n, (wrow n).length = 4 := fun n => rfl
  have inner : ∀ (i : Nat), i < 4 → (∀ row, MInv a b i 4 row 0 ∨ True → True) → (∀ row o, MInv a b i 4 row o → G (mkX Try.prog (tab libf0) Try.f89 [] ρ w (r89 [a, b])) (s89st1 (wrow a) (wrow b) o 4 row i)) →
      ∀ (n k : Nat) (row : List Int) (o : Int), k + n = 4 → MInv a b i k row o → G (mkX Try.prog (tab libf0) Try.f89 [] ρ w (r89 [a, b])) (s89st1 (wrow a) (wrow b) o (k : Nat) row (i : Nat)) := by
    intro i hi _ fin n
    induction n with
    | zero =>
      intro k row o hk hI
      have : k = 4 := by omega
      subst this
      exact fin row o hI
    | succ n ih =>
      intro k row o hk hI
      have e1 : IntKind.wrap .i64 ((i : Int) + (k : Int)) = ((i + k : Nat) : Int) := by rw [i64w] <;> omega
      have e2 : IntKind.wrap .i64 ((k : Int) + 1) = ((k + 1 : Nat) : Int) := i64s k (by omega)
      have ga : List.getD (wrow a) (Int.toNat (i : Int)) 0 = wd a i := wrow_get a i hi
      have gb : List.getD (wrow b) (Int.toNat (k : Int)) 0 = wd b k := wrow_get b k (by omega)
      obtain ⟨p1, p2⟩ := mul_parts (wd_range a i) (wd_range b k) (hI.rng (i + k)) ⟨hI.o0, hI.o1⟩
      obtain ⟨q1, q2⟩ := mul_lt (wd_range a i) (wd_range b k) (hI.rng (i + k)) ⟨hI.o0, hI.o1⟩
      refine s89_4 (wrow a) (wrow b) o (k : Nat) row (i : Nat) (by omega) (by omega) (by omega) (by rw [hl]; omega) (by omega) (by rw [hl]; omega) (by rw [ga]; exact w64_wd _ _) (by rw [gb]; exact w64_wd _ _) (by rw [e1]; omega) (by rw [e1]; omega) (by rw [e1, hI.len]; omega) (by rw [e1, hI.len]; omega) ?_
      rw [e1, e2, ga, gb, Int.toNat_natCast, Nat.add_zero, p1, p2]
      have r1 := hI.rng (i + k)
      refine ih (k + 1) _ _ (by omega) (hI.turn hi (by omega) ⟨by omega, by omega⟩ ⟨?_, ?_⟩ ?_)
      · have := hI.o0; omega
      · have := hI.o0; omega
      · omega
  refine s89_1 _ _ ?_
  have outer : ∀ (n i : Nat) (row : List Int), i + n = 4 → row.length = 8 → (∀ j, 0 ≤ row.getD j 0 ∧ row.getD j 0 < 18446744073709551616) → (∀ j, i + 4 ≤ j → row.getD j 0 = 0) → wv row = lowW a i * b →
      G (mkX Try.prog (tab libf0) Try.f89 [] ρ w (r89 [a, b])) (s89st0 (wrow a) (wrow b) (i : Nat) row) := by
    intro n
    induction n with
    | zero =>
      intro i row hi hlen hrng _ hval
      have : i = 4 := by omega
      subst this
      match row, hlen with
      | [w0, w1, w2, w3, w4, w5, w6, w7], _ =>
        have g0 := hrng 0; have g1 := hrng 1; have g2 := hrng 2; have g3 := hrng 3; have g4 := hrng 4; have g5 := hrng 5; have g6 := hrng 6; have g7 := hrng 7
        simp only [List.getD_cons_zero, List.getD_cons_succ] at g0 g1 g2 g3 g4 g5 g6 g7
        have hA : lowW a 4 = (a : Int) := by
          unfold lowW
          rw [Nat.mod_eq_of_lt (b := 18446744073709551616 ^ 4) (Nat.lt_of_lt_of_le ha (by decide))]
        rw [hA] at hval
        simp only [wv, Int.mul_zero, Int.add_zero] at hval
        have hN : ((a * b : Nat) : Int) = (a : Int) * b := Int.natCast_mul a b
        rw [← hN] at hval
        unfold P256 at ha hb
        refine G.resv (fun ρ y => rv_tup2 (fun y h => ?_) (fun y h => ?_)) (s89_3 (wrow a) (wrow b) 4 [w0, w1, w2, w3, w4, w5, w6, w7] (by decide) (by simp) (by simp) (by simp) (by simp) (by simp) (by simp) (by simp) (by simp) (by simp) (by simp) (by simp) (by simp) (by simp) (by simp) (by simp) (by simp) (by simp) (by simp))
        · refine rw_numI.1 (show RW ρ (.agg [.v (.int .u64 (wd (a * b) 0)), .v (.int .u64 (wd (a * b) 1)), .v (.int .u64 (wd (a * b) 2)), .v (.int .u64 (wd (a * b) 3))]) y from ?_)
          have f0 : wd (a * b) 0 = w0 := by rw [wd0]; omega
          have f1 : wd (a * b) 1 = w1 := by rw [wd1]; omega
          have f2 : wd (a * b) 2 = w2 := by rw [wd2]; omega
          have f3 : wd (a * b) 3 = w3 := by rw [wd3]; omega
          rw [f0, f1, f2, f3]
          exact h
        · refine rw_numI.1 (show RW ρ (.agg [.v (.int .u64 (wd (a * b / 115792089237316195423570985008687907853269984665640564039457584007913129639936) 0)), .v (.int .u64 (wd (a * b / 115792089237316195423570985008687907853269984665640564039457584007913129639936) 1)), .v (.int .u64 (wd (a * b / 115792089237316195423570985008687907853269984665640564039457584007913129639936) 2)), .v (.int .u64 (wd (a * b / 115792089237316195423570985008687907853269984665640564039457584007913129639936) 3))]) y from ?_)
          have f0 : wd (a * b / 115792089237316195423570985008687907853269984665640564039457584007913129639936) 0 = w4 := by rw [wd0]; omega
          have f1 : wd (a * b / 115792089237316195423570985008687907853269984665640564039457584007913129639936) 1 = w5 := by rw [wd1]; omega
          have f2 : wd (a * b / 115792089237316195423570985008687907853269984665640564039457584007913129639936) 2 = w6 := by rw [wd2]; omega
          have f3 : wd (a * b / 115792089237316195423570985008687907853269984665640564039457584007913129639936) 3 = w7 := by rw [wd3]; omega
          rw [f0, f1, f2, f3]
          exact h
    | succ n ih =>
      intro i row hi hlen hrng hzer hval
      refine s89_2 _ _ (i : Nat) row (by omega) ?_
      refine inner i (by omega) (fun _ _ => trivial) (fun row o hI => ?_) 4 0 row 0 (by omega) ⟨hlen, hrng, hzer, by omega, by omega, ?_⟩
      · have e1 : IntKind.wrap .i64 ((i : Int) + 4) = ((i + 4 : Nat) : Int) := by rw [i64w] <;> omega
        have e2 : IntKind.wrap .i64 ((i : Int) + 1) = ((i + 1 : Nat) : Int) := i64s i (by omega)
        refine s89_5 _ _ o 4 row (i : Nat) (by omega) (by rw [e1]; omega) (by rw [e1]; omega) (by rw [e1, hI.len]; omega) ?_
        rw [e1, e2, Int.toNat_natCast, Nat.add_zero]
        refine ih (i + 1) _ (by omega) (by simp [hI.len]) (fun j => ?_) (fun j hj => ?_) ?_
        · rw [getD_set _ _ _ _ (by rw [hI.len]; omega)]
          split
          · exact ⟨hI.o0, hI.o1⟩
          · exact hI.rng j
        · rw [getD_set _ _ _ _ (by rw [hI.len]; omega), if_neg (by omega)]
          exact hI.zer j (by omega)
        · have hv := hI.val
          have hz := hI.zer (i + 4) (by omega)
          have hB : lowW b 4 = (b : Int) := by
            unfold lowW
            rw [Nat.mod_eq_of_lt (b := 18446744073709551616 ^ 4) (Nat.lt_of_lt_of_le hb (by decide))]
          rw [wv_set _ _ _ (by rw [hI.len]; omega), hz, Int.sub_zero, hv, hB, lowW_succ]
          grind
      · have : lowW b 0 = 0 := by
          unfold lowW
          rw [Nat.pow_zero, Nat.mod_one]
          rfl
        rw [this, Int.mul_zero, Int.zero_mul, Int.add_zero, Int.add_zero]
        exact hval
  exact outer 4 0 [0, 0, 0, 0, 0, 0, 0, 0] rfl rfl (fun j => by
    match j with
    | 0 | 1 | 2 | 3 | 4 | 5 | 6 | 7 => exact ⟨by decide, by decide⟩
    | j + 8 => simp [List.getD]) (fun j hj => by
    match j, hj with
    | 4, _ | 5, _ | 6, _ | 7, _ => rfl
    | j + 8, _ => simp [List.getD]) (by
    show (0 : Int) = _
    unfold lowW
    rw [Nat.pow_zero, Nat.mod_one]
    simp)
theorem e89n_ok : EntryOk Try.prog 89 (numsE [1, 1] r89) := numsE_ok fun ns h hl => by
  obtain ⟨a, b, rfl⟩ := ns2 h
  exact s89n (hl a (by simp)) (hl b (by simp))

/-- so many bytes of a number, the lowest one first. -/
def leB (k n : Nat) : List Int := (List.range k).map fun i => ((n / 256 ^ i % 256 : Nat) : Int)
theorem leB_length (k n : Nat) : (leB k n).length = k := by simp [leB]
theorem leB_succ (k n : Nat) : leB (k + 1) n = leB k n ++ [((n / 256 ^ k % 256 : Nat) : Int)] := by simp [leB, List.range_succ]
theorem set_fill (l : List Int) (n : Nat) (x : Int) : (l ++ List.replicate (n + 1) 0).set l.length x = (l ++ [x]) ++ List.replicate n 0 := by
  rw [List.set_append_right _ _ (Nat.le_refl _), Nat.sub_self, List.replicate_succ, List.set_cons_zero, List.append_assoc]
  rfl
theorem word_part (a q r s : Nat) (h : r + s ≤ 64) : a / 18446744073709551616 ^ q % 18446744073709551616 / 2 ^ r % 2 ^ s = a / 2 ^ (64 * q + r) % 2 ^ s := by
  have e : (18446744073709551616 : Nat) = 2 ^ r * (2 ^ s * 2 ^ (64 - r - s)) := by
    rw [← Nat.pow_add, ← Nat.pow_add, show r + (s + (64 - r - s)) = 64 by omega]
  have ep : (18446744073709551616 : Nat) ^ q = 2 ^ (64 * q) := by rw [Nat.pow_mul]
  rw [ep]
  generalize hb : a / 2 ^ (64 * q) = b
  rw [e, Nat.mod_mul_right_div_self, Nat.mod_mul_right_mod, Nat.pow_add, ← Nat.div_div_eq_div_mul, hb]
theorem byte_word (a j : Nat) (hj : j < 32) : IntKind.wrap .u8 (Int.fdiv (List.getD (wrow a) (Int.toNat (IntKind.wrap .i64 (Int.tdiv (j : Nat) 8))) 0) (2 ^ min (Int.toNat (IntKind.wrap .i64 (8 * Int.tmod (j : Nat) 8))) 64)) = ((a / 256 ^ j % 256 : Nat) : Int) := by
  have e1 : IntKind.wrap .i64 (Int.tdiv (j : Int) 8) = ((j / 8 : Nat) : Int) := by
    rw [Int.tdiv_eq_ediv_of_nonneg (by omega), i64w] <;> omega
  have e2 : IntKind.wrap .i64 (8 * Int.tmod (j : Int) 8) = ((8 * (j % 8) : Nat) : Int) := by
    rw [Int.tmod_eq_emod_of_nonneg (by omega), i64w] <;> omega
  rw [e1, e2, Int.toNat_natCast, Int.toNat_natCast, wrow_get a _ (by omega), show min (8 * (j % 8)) 64 = 8 * (j % 8) by omega]
  have ef : (wd a (j / 8)).fdiv (2 ^ (8 * (j % 8))) = ((a / 18446744073709551616 ^ (j / 8) % 18446744073709551616 / 2 ^ (8 * (j % 8)) : Nat) : Int) := by
    unfold wd
    rw [Int.fdiv_eq_ediv_of_nonneg _ (by exact_mod_cast Nat.zero_le _)]
    simp
  rw [ef, wrap_u8]
  have := word_part a (j / 8) (8 * (j % 8)) 8 (by omega)
  rw [show (64 * (j / 8) + 8 * (j % 8)) = 8 * j by omega, show (2 : Nat) ^ (8 * j) = 256 ^ j from by rw [Nat.pow_mul], show (2 : Nat) ^ 8 = 256 from rfl] at this
  rw [← this]
  omega
def bytesN (n : Nat) : ByteArray := strOf (leB 32 n)
def r97 : List Nat → Res := fun ns => match ns with | [a] => ⟨V.str (bytesN a), [], []⟩ | _ => ⟨.tup [], [], []⟩
theorem s97n (a : Nat) : Sx.Spec Try.prog 97 [.agg (numC a)] [] (r97 [a]) := by
  refine Spec.imps (bs := [.ints .u64 (wrow a)]) (.cons (fun _ _ => rw_row) .nil) ?_
  refine spec_body (tab := tab libn) Try.func97 (by kernel_rfl) (by kernel_rfl) (by kernel_rfl) fun ρ w => ?_
  have hl : (wrow a).length = 4 := rfl
  refine s97_1 _ ?_
  refine G.loop (fun j => s97st0 (wrow a) (j : Nat) (leB j a ++ List.replicate (32 - j) 0)) 32 (fun j hj hg => ?_) ?_
  · have e1 : IntKind.wrap .i64 (Int.tdiv (j : Int) 8) = ((j / 8 : Nat) : Int) := by
      rw [Int.tdiv_eq_ediv_of_nonneg (by omega), i64w] <;> omega
    have e2 : IntKind.wrap .i64 (8 * Int.tmod (j : Int) 8) = ((8 * (j % 8) : Nat) : Int) := by
      rw [Int.tmod_eq_emod_of_nonneg (by omega), i64w] <;> omega
    refine s97_2 _ _ _ (by omega) (by rw [e1]; omega) (by rw [e1]; omega) (by rw [e1, hl]; omega) (by rw [e2]; omega) (by omega) (by simp [leB_length]; omega) ?_
    rw [byte_word a j hj, i64s j (by omega), Int.toNat_natCast]
    simp only [Nat.add_zero]
    have hs := set_fill (leB j a) (31 - j) ((a / 256 ^ j % 256 : Nat) : Int)
    rw [leB_length, show 31 - j + 1 = 32 - j by omega] at hs
    rw [hs, ← leB_succ]
    simp only [show 32 - (j + 1) = 31 - j by omega] at hg
    exact hg
  · refine G.resv (r := ⟨V.str (strOf (List.take 32 (List.drop 0 (leB 32 a ++ List.replicate (32 - 32) 0)))), [], []⟩) (fun ρ y h => ?_) (s97_3 _ _ _ (by decide) (by simp [leB_length]))
    have : List.take 32 (List.drop 0 (leB 32 a ++ List.replicate (32 - 32) 0)) = leB 32 a := by
      rw [List.drop_zero, Nat.sub_self, List.replicate_zero, List.append_nil, List.take_of_length_le (by rw [leB_length]; exact Nat.le_refl _)]
    rw [this] at h
    exact h
theorem e97n_ok : EntryOk Try.prog 97 (numsE [1] r97) := numsE_ok fun ns h hl => by
  obtain ⟨a, rfl⟩ := ns1 h
  exact s97n a
/-- the number of a text's bytes. -/
def leN (s : ByteArray) : Nat := (leV (bytesOf s)).toNat
def ofN (s : ByteArray) : Nat := bif Nat.beq s.size 32 then leN s else 0
def ofE (s : ByteArray) : Int := bif Nat.beq s.size 32 then 0 else 1
def e96n : Entry := fun args ms => match args, ms with
  | [.c (.v (.string s))], [] => some (⟨.tup [.agg (numC (ofN s)), .c (.v (.int .i64 (ofE s)))], [], []⟩, [])
  | _, _ => none
theorem of_turn {V c p q : Nat} (hq : q < 4) (hV : V < 18446744073709551616 ^ q * p) (hc : c + p ≤ 18446744073709551616) : (wrow V).set q ((V / 18446744073709551616 ^ q + c : Nat) : Int) = wrow (V + c * 18446744073709551616 ^ q) := by
  have key : ∀ i, i < 4 → (if i = q then ((V / 18446744073709551616 ^ q + c : Nat) : Int) else wd V i) = wd (V + c * 18446744073709551616 ^ q) i := by
    intro i hi
    match q, hq with
    | 0, _ =>
      rw [Nat.pow_zero, Nat.one_mul] at hV
      rw [Nat.pow_zero, Nat.div_one, Nat.mul_one]
      match i, hi with
      | 0, _ => rw [if_pos rfl, wd0]; omega
      | 1, _ => rw [if_neg (by omega), wd1, wd1]; omega
      | 2, _ => rw [if_neg (by omega), wd2, wd2]; omega
      | 3, _ => rw [if_neg (by omega), wd3, wd3]; omega
    | 1, _ =>
      rw [Nat.pow_one] at *
      match i, hi with
      | 0, _ => rw [if_neg (by omega), wd0, wd0]; omega
      | 1, _ => rw [if_pos rfl, wd1]; omega
      | 2, _ => rw [if_neg (by omega), wd2, wd2]; omega
      | 3, _ => rw [if_neg (by omega), wd3, wd3]; omega
    | 2, _ =>
      rw [show (18446744073709551616 : Nat) ^ 2 = 340282366920938463463374607431768211456 from rfl] at *
      match i, hi with
      | 0, _ => rw [if_neg (by omega), wd0, wd0]; omega
      | 1, _ => rw [if_neg (by omega), wd1, wd1]; omega
      | 2, _ => rw [if_pos rfl, wd2]; omega
      | 3, _ => rw [if_neg (by omega), wd3, wd3]; omega
    | 3, _ =>
      rw [show (18446744073709551616 : Nat) ^ 3 = 6277101735386680763835789423207666416102355444464034512896 from rfl] at *
      match i, hi with
      | 0, _ => rw [if_neg (by omega), wd0, wd0]; omega
      | 1, _ => rw [if_neg (by omega), wd1, wd1]; omega
      | 2, _ => rw [if_neg (by omega), wd2, wd2]; omega
      | 3, _ => rw [if_pos rfl, wd3]; omega
  apply List.ext_getElem?
  intro i
  rcases Nat.lt_or_ge i 4 with hi | hi
  · have h1 : ((wrow V).set q ((V / 18446744073709551616 ^ q + c : Nat) : Int)).getD i 0 = (wrow (V + c * 18446744073709551616 ^ q)).getD i 0 := by
      rw [getD_set _ _ _ _ hq, wrow_get _ _ hi, wrow_get _ _ hi]
      exact key i hi
    have l1 : i < ((wrow V).set q ((V / 18446744073709551616 ^ q + c : Nat) : Int)).length := by rw [List.length_set]; exact hi
    have l2 : i < (wrow (V + c * 18446744073709551616 ^ q)).length := hi
    rw [List.getElem?_eq_getElem l1, List.getElem?_eq_getElem l2]
    rw [List.getD_eq_getElem?_getD, List.getD_eq_getElem?_getD, List.getElem?_eq_getElem l1, List.getElem?_eq_getElem l2] at h1
    exact congrArg some h1
  · rw [List.getElem?_eq_none (by rw [List.length_set]; exact hi), List.getElem?_eq_none (by exact hi)]
/-- the number of the first bytes. -/
def leP (s : ByteArray) (j : Nat) : Nat := (leV ((bytesOf s).take j)).toNat
theorem leP_lt (s : ByteArray) (j : Nat) (h : j ≤ s.size) : leP s j < 256 ^ j ∧ ((leP s j : Nat) : Int) = leV ((bytesOf s).take j) := by
  have hr := leV_range ((bytesOf s).take j) (fun b hb => bytesOf_range s b (List.mem_of_mem_take hb))
  rw [List.length_take, bytesOf_length, Nat.min_eq_left h] at hr
  unfold leP
  refine ⟨?_, Int.toNat_of_nonneg hr.1⟩
  have := hr.2
  rw [show ((256 : Int) ^ j) = ((256 ^ j : Nat) : Int) by simp] at this
  omega
theorem leP_succ (s : ByteArray) (j : Nat) (h : j < s.size) : leP s (j + 1) = leP s j + (bt s (j : Nat)).toNat * 256 ^ j := by
  have h1 := (leP_lt s j (by omega)).2
  have h2 := (leP_lt s (j + 1) (by omega)).2
  have h3 := drop_bt s 0 j (by omega)
  rw [List.drop_zero, Nat.zero_add] at h3
  rw [h3, leV_append, ← h1, List.length_take, bytesOf_length, Nat.min_eq_left (by omega)] at h2
  obtain ⟨b, hb⟩ := nat_of (bt_range s (j : Nat)).1
  rw [hb] at h2 ⊢
  rw [Int.toNat_natCast]
  rw [show ((256 : Int) ^ j) = ((256 ^ j : Nat) : Int) by simp, ← Int.natCast_mul, ← Int.natCast_add] at h2
  exact Int.ofNat.inj h2
theorem s96n (s : ByteArray) : Sx.Spec Try.prog 96 [.c (.v (.string s))] [] ⟨.tup [.agg (numC (ofN s)), .c (.v (.int .i64 (ofE s)))], [], []⟩ := by
  by_cases hs : s.size = 32
  · have hb : Nat.beq s.size 32 = true := by rw [hs]; rfl
    unfold ofN ofE
    rw [hb]
    refine spec_body (tab := tab libn) Try.func96 (by kernel_rfl) (by kernel_rfl) (by kernel_rfl) fun ρ w => ?_
    refine s96_2 s (by omega) ?_
    have hz : wrow (leP s 0) = [0, 0, 0, 0] := by
      unfold leP
      rw [List.take_zero, show (leV []).toNat = 0 from rfl]
      decide
    rw [← hz]
    refine G.loop (fun j => s96st0 s (j : Nat) (wrow (leP s j))) 32 (fun j hj hg => ?_) ?_
    · have e1 : IntKind.wrap .i64 (Int.tdiv (j : Int) 8) = ((j / 8 : Nat) : Int) := by
        rw [Int.tdiv_eq_ediv_of_nonneg (by omega), i64w] <;> omega
      have e2 : IntKind.wrap .i64 (8 * Int.tmod (j : Int) 8) = ((8 * (j % 8) : Nat) : Int) := by
        rw [Int.tmod_eq_emod_of_nonneg (by omega), i64w] <;> omega
      have hl : (wrow (leP s j)).length = 4 := rfl
      refine s96_3 s _ _ (by omega) (by rw [e1]; omega) (by rw [e1]; omega) (by rw [e1, hl]; omega) (by omega) (by omega) (by rw [e2]; omega) (by rw [e1, hl]; omega) ?_
      obtain ⟨b, hbb⟩ := nat_of (bt_range s (j : Nat)).1
      have hbr := (bt_range s (j : Nat)).2
      rw [hbb] at hbr
      have hbr' : b < 256 := by omega
      have hV := (leP_lt s j (by omega)).1
      have hw : IntKind.wrap .u64 (b : Int) = (b : Int) := w64_id (by omega) (by omega)
      rw [e1, e2, hbb, hw, i64s j (by omega), Int.toNat_natCast, Nat.add_zero, wrow_get _ _ (by omega)]
      have ep : (256 : Nat) ^ j = 256 ^ (j % 8) * 18446744073709551616 ^ (j / 8) := by
        rw [show (18446744073709551616 : Nat) = 256 ^ 8 from by decide, ← Nat.pow_mul, ← Nat.pow_add, show j % 8 + 8 * (j / 8) = j by omega]
      rw [ep] at hV
      have hp : 256 * 256 ^ (j % 8) ≤ 18446744073709551616 := by
        rw [← Nat.pow_succ', show (18446744073709551616 : Nat) = 256 ^ 8 from by decide]
        exact Nat.pow_le_pow_right (by decide) (by omega)
      have hbp : b * 256 ^ (j % 8) + 256 ^ (j % 8) ≤ 18446744073709551616 := by
        have : (b + 1) * 256 ^ (j % 8) ≤ 256 * 256 ^ (j % 8) := Nat.mul_le_mul_right _ hbr'
        rw [Nat.add_mul, Nat.one_mul] at this
        omega
      have hd : leP s j / 18446744073709551616 ^ (j / 8) < 256 ^ (j % 8) := Nat.div_lt_of_lt_mul (by rw [Nat.mul_comm]; exact hV)
      have ew : wd (leP s j) (j / 8) = ((leP s j / 18446744073709551616 ^ (j / 8) : Nat) : Int) := by
        unfold wd
        rw [Nat.mod_eq_of_lt (by omega)]
      rw [ew, or_low un64 _ _ _ hd (by rw [bits64, show (2 : Nat) ^ 64 = 18446744073709551616 from rfl]; omega)]
      have ht := of_turn (V := leP s j) (c := b * 256 ^ (j % 8)) (p := 256 ^ (j % 8)) (q := j / 8) (by omega) (by rw [Nat.mul_comm]; exact hV) hbp
      simp only [Nat.add_zero]
      rw [ht, Nat.mul_assoc, ← ep]
      have hsucc := leP_succ s j (by omega)
      rw [hbb, Int.toNat_natCast] at hsucc
      rw [← hsucc]
      exact hg
    · have hall : leP s 32 = leN s := by
        unfold leP leN
        rw [List.take_of_length_le (by rw [bytesOf_length]; omega)]
      rw [hall]
      refine G.resv (fun ρ y => rv_tup2 (fun y h => ?_) (fun y h => h)) (s96_4 s 32 (wrow (leN s)) (by decide) (by simp [wrow]) (by simp [wrow]) (by simp [wrow]) (by simp [wrow]) (by simp) (by simp) (by simp) (by simp) (by simp))
      exact rw_numI.1 h
  · have hb : Nat.beq s.size 32 = false := beq_f hs
    unfold ofN ofE
    rw [hb]
    exact spec_res (s96_1 s (by omega)) (by kernel_rfl)
theorem e96n_ok : EntryOk Try.prog 96 e96n := by
  intro args ms r obs h ho
  unfold e96n at h
  split at h
  · cases h
    exact s96n _
  · cases h
end Go.Proofs.Ytmjejlbmcefaoaa
namespace Go.Proofs.Ytmjejlbmcefaoaa
open Go Sx

/-- the number of a row of limbs, the lowest one first. -/
def valL : List Int → Nat
  | [] => 0
  | a :: l => a.toNat + 65536 * valL l
def limOk (l : List Int) : Bool := l.all fun n => decide (0 ≤ n) && decide (n < 65536)
/-- so many limbs of a number. -/
def lim (k n : Nat) : List Int := (List.range k).map fun i => ((n / 65536 ^ i % 65536 : Nat) : Int)
theorem lim_length (k n : Nat) : (lim k n).length = k := by simp [lim]
theorem lim_succ (k n : Nat) : lim (k + 1) n = lim k n ++ [((n / 65536 ^ k % 65536 : Nat) : Int)] := by simp [lim, List.range_succ]
theorem limOk_get {l : List Int} (h : limOk l = true) (i : Nat) : 0 ≤ l.getD i 0 ∧ l.getD i 0 < 65536 := by
  rcases Nat.lt_or_ge i l.length with hi | hi
  · have := List.all_eq_true.1 h _ (List.getElem_mem hi)
    simp only [Bool.and_eq_true, decide_eq_true_eq] at this
    rw [List.getD_eq_getElem?_getD, List.getElem?_eq_getElem hi]
    exact this
  · rw [List.getD_eq_getElem?_getD, List.getElem?_eq_none hi]
    exact ⟨Int.le_refl _, by decide⟩
theorem limOk_lim (k n : Nat) : limOk (lim k n) = true := by
  unfold limOk
  rw [List.all_eq_true]
  intro a ha
  obtain ⟨i, _, rfl⟩ := List.mem_map.1 ha
  have h : n / 65536 ^ i % 65536 < 65536 := Nat.mod_lt _ (by omega)
  generalize n / 65536 ^ i % 65536 = x at *
  rw [Bool.and_eq_true, decide_eq_true_eq, decide_eq_true_eq]
  omega
theorem limOk_tail {a : Int} {l : List Int} (h : limOk (a :: l) = true) : (0 ≤ a ∧ a < 65536) ∧ limOk l = true := by
  unfold limOk at *
  simp only [List.all_cons, Bool.and_eq_true, decide_eq_true_eq] at h
  exact h
theorem valL_lt : ∀ {l : List Int}, limOk l = true → valL l < 65536 ^ l.length
  | [], _ => by simp [valL]
  | a :: l, h => by
    obtain ⟨h1, h2⟩ := limOk_tail h
    have ih := valL_lt h2
    simp only [valL, List.length_cons, Nat.pow_succ]
    omega
theorem valL_get : ∀ {l : List Int}, limOk l = true → ∀ i, l.getD i 0 = ((valL l / 65536 ^ i % 65536 : Nat) : Int)
  | [], _, i => by simp [valL]
  | a :: l, h, 0 => by
    obtain ⟨h1, h2⟩ := limOk_tail h
    simp only [List.getD_cons_zero, valL, Nat.pow_zero, Nat.div_one]
    omega
  | a :: l, h, i + 1 => by
    obtain ⟨h1, h2⟩ := limOk_tail h
    rw [List.getD_cons_succ, valL_get h2 i, valL, Nat.pow_succ', ← Nat.div_div_eq_div_mul]
    congr 3
    omega
theorem valL_append : ∀ (l : List Int) (a : Int), valL (l ++ [a]) = valL l + a.toNat * 65536 ^ l.length
  | [], a => by simp [valL]
  | b :: l, a => by
    simp only [List.cons_append, valL, valL_append l a, List.length_cons, Nat.pow_succ]
    grind
theorem valL_lim (k n : Nat) : valL (lim k n) = n % 65536 ^ k := by
  induction k with
  | zero => simp [lim, valL, Nat.mod_one]
  | succ k ih =>
    rw [lim_succ, valL_append, ih, lim_length, Int.toNat_natCast, Nat.pow_succ, Nat.mod_mul, Nat.mul_comm (65536 ^ k)]
theorem lim_ext {l : List Int} {k n : Nat} (hl : l.length = k) (h : ∀ i, i < k → l.getD i 0 = ((n / 65536 ^ i % 65536 : Nat) : Int)) : l = lim k n := by
  apply List.ext_getElem?
  intro i
  rcases Nat.lt_or_ge i k with hi | hi
  · have h1 := h i hi
    have l1 : i < l.length := by omega
    rw [List.getD_eq_getElem?_getD, List.getElem?_eq_getElem l1] at h1
    rw [List.getElem?_eq_getElem l1]
    simp only [Option.getD_some] at h1
    rw [h1]
    simp [lim, hi]
  · rw [List.getElem?_eq_none (by omega), List.getElem?_eq_none (by rw [lim_length]; omega)]
theorem lim_valL {l : List Int} (h : limOk l = true) : l = lim l.length (valL l) := lim_ext rfl fun i _ => valL_get h i
theorem lim_mod (k n : Nat) : lim k (n % 65536 ^ k) = lim k n := by
  refine (lim_ext (lim_length k n) fun i hi => ?_).symm
  have e : (65536 : Nat) ^ k = 65536 ^ i * (65536 * 65536 ^ (k - i - 1)) := by
    rw [← Nat.pow_succ', ← Nat.pow_add]
    congr 1
    omega
  rw [e, Nat.mod_mul_right_div_self, Nat.mod_mul_right_mod]
  simp [lim, hi]
theorem limbI_nat (l : List Int) (i : Nat) : (bif decide ((0 : Int) ≤ (i : Int)) && decide ((i : Int) < (l.length : Int)) then l.getD (Int.toNat (i : Int)) 0 else 0) = l.getD i 0 := by
  rw [decide_eq_true (by omega), Bool.true_and]
  by_cases h : i < l.length
  · rw [decide_eq_true (by omega)]; rfl
  · rw [decide_eq_false (by omega)]
    simp [List.getD, List.getElem?_eq_none (Nat.le_of_not_lt h)]

/-- a sum's digit, and what is carried. -/
theorem add_split (x y p : Nat) (hp : 0 < p) : (x + y) / p = x / p + y / p + (x % p + y % p) / p := by
  have h1 := Nat.div_add_mod x p
  have h2 := Nat.div_add_mod y p
  have : x + y = (x % p + y % p) + p * (x / p + y / p) := by rw [Nat.mul_add]; omega
  conv => lhs; rw [this]
  rw [Nat.add_mul_div_left _ _ hp]
  omega
theorem add_digit (x y p : Nat) (hp : 0 < p) : (x + y) / p % 65536 = (x / p % 65536 + y / p % 65536 + (x % p + y % p) / p) % 65536 := by
  rw [add_split x y p hp]; omega
theorem add_carry (x y p : Nat) (hp : 0 < p) : (x % (p * 65536) + y % (p * 65536)) / (p * 65536) = (x / p % 65536 + y / p % 65536 + (x % p + y % p) / p) / 65536 := by
  rw [Nat.mod_mul, Nat.mod_mul, ← Nat.div_div_eq_div_mul]
  congr 1
  have : x % p + p * (x / p % 65536) + (y % p + p * (y / p % 65536)) = (x % p + y % p) + p * (x / p % 65536 + y / p % 65536) := by rw [Nat.mul_add]; omega
  rw [this, Nat.add_mul_div_left _ _ hp]
  omega
theorem carry_le (x y p : Nat) (hp : 0 < p) : (x % p + y % p) / p ≤ 1 := by
  have h1 := Nat.mod_lt x hp
  have h2 := Nat.mod_lt y hp
  have : x % p + y % p < p * 2 := by omega
  have := Nat.div_lt_of_lt_mul this
  omega
/-- a difference's digit, and what is borrowed. -/
def bor (x y p : Nat) : Nat := if x % p < y % p then 1 else 0
theorem sub_digit (x y q p : Nat) (hp : 0 < p) (hq : y % (p * 65536 * q) ≤ x + p * 65536 * q) : (x + p * 65536 * q - y % (p * 65536 * q)) / p % 65536 = (65536 + x / p % 65536 - y / p % 65536 - bor x y p) % 65536 := by
  have e : y % (p * 65536 * q) / p % 65536 = y / p % 65536 := by
    rw [Nat.mul_assoc, Nat.mod_mul_right_div_self, Nat.mod_mul_right_mod]
  have e2 : y % (p * 65536 * q) % p = y % p := by rw [Nat.mul_assoc, Nat.mod_mul_right_mod]
  generalize hy : y % (p * 65536 * q) = z at *
  have hb : bor x y p = bor x z p := by unfold bor; rw [e2]
  rw [hb, ← e]
  generalize hD : x + p * 65536 * q - z = D
  have hsum : D + z = x + p * (65536 * q) := by rw [← Nat.mul_assoc]; omega
  have h1 := add_split D z p hp
  rw [hsum, Nat.add_mul_div_left _ _ hp] at h1
  have h2 : (D % p + z % p) % p = x % p := by rw [← Nat.add_mod, hsum, Nat.add_mul_mod_self_left]
  have h3 := Nat.mod_lt D hp
  have h4 := Nat.mod_lt z hp
  have h5 := Nat.mod_lt x hp
  have hc : (D % p + z % p) / p = bor x z p := by
    unfold bor
    split
    · rename_i hlt
      have : p ≤ D % p + z % p := by
        rcases Nat.lt_or_ge (D % p + z % p) p with h | h
        · rw [Nat.mod_eq_of_lt h] at h2; omega
        · exact h
      have h7 : D % p + z % p < p * 2 := by omega
      have := Nat.div_lt_of_lt_mul h7
      have := Nat.div_pos ‹p ≤ D % p + z % p› hp
      omega
    · rename_i hlt
      refine Nat.div_eq_of_lt ?_
      rcases Nat.lt_or_ge (D % p + z % p) p with h | h
      · exact h
      · rw [Nat.mod_eq_sub_mod h, Nat.mod_eq_of_lt (by omega)] at h2
        omega
  rw [hc] at h1
  have hbl : bor x z p ≤ 1 := by unfold bor; split <;> omega
  omega
theorem sub_borrow (x y p : Nat) (hp : 0 < p) : bor x y (p * 65536) = 1 - (65536 + x / p % 65536 - y / p % 65536 - bor x y p) / 65536 := by
  unfold bor
  rw [Nat.mod_mul, Nat.mod_mul]
  have h1 := Nat.mod_lt x hp
  have h2 := Nat.mod_lt y hp
  generalize hX : x / p % 65536 = X at *
  generalize hY : y / p % 65536 = Y at *
  have hX' : X < 65536 := by omega
  have hY' : Y < 65536 := by omega
  generalize x % p = a at *
  generalize y % p = b at *
  rcases Nat.lt_trichotomy X Y with h | h | h
  · have : a + p * X < b + p * Y := by
      have : p * (X + 1) ≤ p * Y := Nat.mul_le_mul_left _ h
      rw [Nat.mul_add] at this
      omega
    rw [if_pos this]
    split <;> omega
  · subst h
    by_cases hab : a < b
    · rw [if_pos (by omega), if_pos hab]; omega
    · rw [if_neg (by omega), if_neg hab]; omega
  · have : ¬ a + p * X < b + p * Y := by
      have : p * (Y + 1) ≤ p * X := Nat.mul_le_mul_left _ h
      rw [Nat.mul_add] at this
      omega
    rw [if_neg this]
    split <;> omega
/-- what stands first decides. -/
theorem lt_digit {x y p : Nat} (hp : 0 < p) (h : x / (p * 65536) = y / (p * 65536)) (hn : x / p % 65536 ≠ y / p % 65536) : (x < y) = (x / p % 65536 < y / p % 65536) := by
  rw [← Nat.div_div_eq_div_mul, ← Nat.div_div_eq_div_mul] at h
  have e : (x / p < y / p) = (x / p % 65536 < y / p % 65536) := by
    apply propext; omega
  rw [← e]
  apply propext
  constructor
  · intro hlt
    have := Nat.div_le_div_right (c := p) (Nat.le_of_lt hlt)
    rcases Nat.lt_or_ge (x / p) (y / p) with h' | h'
    · exact h'
    · have : x / p = y / p := by omega
      rw [this] at hn
      exact absurd rfl hn
  · intro hlt
    rcases Nat.lt_or_ge x y with h' | h'
    · exact h'
    · have := Nat.div_le_div_right (c := p) h'
      omega
theorem eq_digit {x y p : Nat} (h : x / (p * 65536) = y / (p * 65536)) (hn : x / p % 65536 = y / p % 65536) : x / p = y / p := by
  rw [← Nat.div_div_eq_div_mul, ← Nat.div_div_eq_div_mul] at h
  omega

/-- products, digit by digit. -/
def valI : List Int → Int
  | [] => 0
  | a :: l => a + 65536 * valI l
theorem valI_nat : ∀ {l : List Int}, limOk l = true → valI l = (valL l : Int)
  | [], _ => rfl
  | a :: l, h => by
    obtain ⟨h1, h2⟩ := limOk_tail h
    simp only [valI, valL, valI_nat h2]
    omega
theorem valI_set : ∀ (l : List Int) (j : Nat) (x : Int), j < l.length → valI (l.set j x) = valI l + (x - l.getD j 0) * 65536 ^ j
  | [], j, x, h => by simp at h
  | a :: l, 0, x, h => by simp [valI]; omega
  | a :: l, j + 1, x, h => by
    have ih := valI_set l j x (by simpa using h)
    simp only [List.set_cons_succ, valI, ih, List.getD_cons_succ, Int.pow_succ]
    grind
theorem valI_take_succ (l : List Int) (k : Nat) (h : k < l.length) : valI (l.take (k + 1)) = valI (l.take k) + l.getD k 0 * 65536 ^ k := by
  have key : ∀ (l : List Int) (a : Int), valI (l ++ [a]) = valI l + a * 65536 ^ l.length := by
    intro l
    induction l with
    | nil => intro a; simp [valI]
    | cons b l ih => intro a; simp only [List.cons_append, valI, ih a, List.length_cons, Int.pow_succ]; grind
  rw [List.take_add_one, List.getElem?_eq_getElem h]
  simp only [Option.toList_some]
  rw [key, List.length_take, Nat.min_eq_left (Nat.le_of_lt h), List.getD_eq_getElem?_getD, List.getElem?_eq_getElem h]
  rfl
structure LInv (l m : List Int) (i k : Nat) (row : List Int) (o : Int) : Prop where
  len : row.length = l.length + m.length
  rng : ∀ j, 0 ≤ row.getD j 0 ∧ row.getD j 0 < 65536
  zer : ∀ j, i + m.length ≤ j → row.getD j 0 = 0
  o0 : 0 ≤ o
  o1 : o < 65536
  val : valI row + o * 65536 ^ (i + k) = valI (l.take i) * valI m + l.getD i 0 * 65536 ^ i * valI (m.take k)
theorem LInv.turn {l m : List Int} {i k : Nat} {row : List Int} {o w' o' : Int} (h : LInv l m i k row o) (hi : i < l.length) (hk : k < m.length) (hw : 0 ≤ w' ∧ w' < 65536) (ho : 0 ≤ o' ∧ o' < 65536) (e : w' + 65536 * o' = row.getD (i + k) 0 + l.getD i 0 * m.getD k 0 + o) :
    LInv l m i (k + 1) (row.set (i + k) w') o' where
  len := by simp [h.len]
  rng := fun j => by
    rw [getD_set _ _ _ _ (by rw [h.len]; omega)]
    split
    · exact hw
    · exact h.rng j
  zer := fun j hj => by
    rw [getD_set _ _ _ _ (by rw [h.len]; omega), if_neg (by omega)]
    exact h.zer j hj
  o0 := ho.1
  o1 := ho.2
  val := by
    have hv := h.val
    rw [valI_set _ _ _ (by rw [h.len]; omega), valI_take_succ m k hk, ← Nat.add_assoc, Int.pow_succ]
    rw [Int.pow_add] at hv ⊢
    generalize (65536 : Int) ^ i = p at *
    generalize (65536 : Int) ^ k = q at *
    generalize valI row = v at *
    generalize row.getD (i + k) 0 = x at *
    generalize valI (l.take i) * valI m = A at *
    generalize l.getD i 0 = ai at *
    generalize m.getD k 0 = bk at *
    generalize valI (m.take k) = B at *
    grind
end Go.Proofs.Ytmjejlbmcefaoaa
