/- The law OctetPuts: the bytes of any words are the reference's. -/
import Derived.Test.YtmjejlbmcefaoaaOctB
import Derived.Test.YtmjejlbmcefaoaaHead
namespace Go.Proofs.Ytmjejlbmcefaoaa
open Go Sx Go.ChangeShapes Go.WideShapes Go.ChangeAt Go.RowKit

def beV (l : List Int) : Int := l.foldl (fun n b => n * 256 + b) 0
def e64 : Entry := fun args ms => match args, ms with
  | [.c (.sl 0 0 n)], [⟨_, .ro, .ints .u32 l⟩] => some (⟨V.str (strOf (l.flatMap (beL 4))), [], []⟩, [Nat.beq n l.length, Nat.ble l.length 100000000])
  | _, _ => none
def e65 : Entry := fun args ms => match args, ms with
  | [.c (.sl 0 0 n)], [⟨_, .ro, .ints .u64 l⟩] => some (⟨V.str (strOf (l.flatMap (beL 8))), [], []⟩, [Nat.beq n l.length, Nat.ble l.length 100000000])
  | _, _ => none
def e66 : Entry := fun args ms => match args, ms with
  | [.c (.sl 0 0 n)], [⟨_, .ro, .ints .u64 l⟩] => some (⟨V.str (strOf (l.flatMap (leL 8))), [], []⟩, [Nat.beq n l.length, Nat.ble l.length 100000000])
  | _, _ => none
def e58 : Entry := fun args ms => match args, ms with
  | [.c (.v (.string x))], [] => some (unhexRes (unhexR x), [Nat.ble x.size 1000000000])
  | _, _ => none
theorem e58_ok : EntryOk Try.prog 58 e58 := by
  intro args ms r obs h ho
  unfold e58 at h
  split at h
  · cases h; exact s58 _ (by simpa using ohead ho)
  · cases h
def e59 : Entry := fun args ms => match args, ms with
  | [.c (.v (.string x))], [] => some (unhexRes (unhexR x), [Nat.ble x.size 1000000000])
  | _, _ => none
theorem e59_ok : EntryOk Try.prog 59 e59 := by
  intro args ms r obs h ho
  unfold e59 at h
  split at h
  · cases h; exact s59 _ (by simpa using ohead ho)
  · cases h
def e63 : Entry := fun args ms => match args, ms with
  | [.c (.v (.string x))], [] => some (⟨V.str (strOf (bytesOf x).reverse), [], []⟩, [Nat.ble x.size 1000000000])
  | _, _ => none
def e76 : Entry := fun args ms => match args, ms with
  | [.c (.v (.string x))], [] => some (⟨V.int .u64 (beV (bytesOf x)), [], []⟩, [Nat.ble x.size 8])
  | _, _ => none
def libf : List (Nat × Entry) := [(58, e58), (60, e60), (64, roE [.ints .u32] e64)]
def e57 : Entry := fun args ms => match args, ms with
  | [], [] => some (⟨V.bool true, [], []⟩, [])
  | _, _ => none
def libg : List (Nat × Entry) := [(57, e57), (62, e62), (63, e63), (64, roE [.ints .u32] e64), (65, roE [.ints .u64] e65), (66, roE [.ints .u64] e66)]
theorem s64_1 (t : Nat) (l : List Int) (h1 : List.length l ≤ 100000000) : Sx.Spec Try.prog 64 [W.c (C.sl 0 0 (List.length l))] [Blk.mk t Mode.ro (K.ints IntKind.u32 l)] ⟨V.str (strOf (List.flatMap (beL 4) l)), [], []⟩ :=
  spec_of_whole (tab_ok libd_ok) mixed Try.func64 [] 1000000 [(0, none)] (by kernel_rfl) (by kernel_rfl) (by kernel_rfl) (by kernel_rfl) (by kernel_rfl) (by kernel_rfl)
    (ocons (beqT (rfl : List.length l = List.length l)) (ocons (bleT h1) onil))
theorem s65_1 (t : Nat) (l : List Int) (h1 : List.length l ≤ 100000000) : Sx.Spec Try.prog 65 [W.c (C.sl 0 0 (List.length l))] [Blk.mk t Mode.ro (K.ints IntKind.u64 l)] ⟨V.str (strOf (List.flatMap (beL 8) l)), [], []⟩ :=
  spec_of_whole (tab_ok libd_ok) mixed Try.func65 [] 1000000 [(0, none)] (by kernel_rfl) (by kernel_rfl) (by kernel_rfl) (by kernel_rfl) (by kernel_rfl) (by kernel_rfl)
    (ocons (beqT (rfl : List.length l = List.length l)) (ocons (bleT h1) onil))
theorem s66_1 (t : Nat) (l : List Int) (h1 : List.length l ≤ 100000000) : Sx.Spec Try.prog 66 [W.c (C.sl 0 0 (List.length l))] [Blk.mk t Mode.ro (K.ints IntKind.u64 l)] ⟨V.str (strOf (List.flatMap (leL 8) l)), [], []⟩ :=
  spec_of_whole (tab_ok libd_ok) mixed Try.func66 [] 1000000 [(0, none)] (by kernel_rfl) (by kernel_rfl) (by kernel_rfl) (by kernel_rfl) (by kernel_rfl) (by kernel_rfl)
    (ocons (beqT (rfl : List.length l = List.length l)) (ocons (bleT h1) (ocons rfl (ocons rfl onil))))
theorem e64_ok : EntryOk Try.prog 64 e64 := by
  intro args ms r obs h ho
  unfold e64 at h
  split at h
  · cases h
    have hn := Nat.beq_eq.mp (ohead ho)
    subst hn
    exact s64_1 _ _ (by simpa using ohead (otail ho))
  · cases h
theorem e65_ok : EntryOk Try.prog 65 e65 := by
  intro args ms r obs h ho
  unfold e65 at h
  split at h
  · cases h
    have hn := Nat.beq_eq.mp (ohead ho)
    subst hn
    exact s65_1 _ _ (by simpa using ohead (otail ho))
  · cases h
theorem e66_ok : EntryOk Try.prog 66 e66 := by
  intro args ms r obs h ho
  unfold e66 at h
  split at h
  · cases h
    have hn := Nat.beq_eq.mp (ohead ho)
    subst hn
    exact s66_1 _ _ (by simpa using ohead (otail ho))
  · cases h
theorem libf_ok : AllOk Try.prog libf := .cons e58_ok (.cons e60_ok (.cons (roE_ok e64_ok) (.nil _)))
theorem s57_1 : Sx.Spec Try.prog 57 [] [] ⟨V.bool true, [], []⟩ :=
  spec_of_whole (tab_ok libf_ok) mixed Try.func57 [] 1000000 [] (by kernel_rfl) (by kernel_rfl) (by kernel_rfl) (by kernel_rfl) (by kernel_rfl) (by kernel_rfl)
    (ocons rfl (ocons rfl (ocons rfl (ocons rfl onil))))

theorem e57_ok : EntryOk Try.prog 57 e57 := by
  intro args ms r obs h ho
  unfold e57 at h
  split at h
  · cases h; exact s57_1
  · cases h

/-! Turn, Get -/

theorem rev_bt (x : ByteArray) (j : Nat) (h : j < x.size) : (bytesOf x).reverse.take (j + 1) = (bytesOf x).reverse.take j ++ [bt x ((x.size - 1 - j : Nat) : Int)] := by
  have hl := bytesOf_length x
  rw [List.take_add_one, List.getElem?_reverse (by rw [hl]; exact h), hl, bt_eq, Int.toNat_natCast, List.getD_eq_getElem?_getD]
  rw [List.getElem?_eq_getElem (by rw [hl]; omega)]
  rfl
theorem s63 (x : ByteArray) (h : x.size ≤ 1000000000) : Sx.Spec Try.prog 63 [.c (.v (.string x))] [] ⟨V.str (strOf (bytesOf x).reverse), [], []⟩ := by
  have hl := bytesOf_length x
  refine spec_body (tab := tab libn) Try.func63 (by kernel_rfl) (by kernel_rfl) (by kernel_rfl) fun ρ w => ?_
  refine s63_1 x ?_
  have e0 : IntKind.wrap IntKind.i64 ((x.size : Int) - 1) = (x.size : Int) - 1 - (0 : Nat) := by rw [i64w] <;> omega
  rw [e0]
  refine G.loop (fun j => s63st0 x ((x.size : Int) - 1 - (j : Nat)) j ((bytesOf x).reverse.take j)) x.size (fun j hj hg => ?_) ?_
  · refine s63_2 x _ j _ (by omega) (by omega) (by omega) (by omega) (by omega) ?_
    have e1 : IntKind.wrap IntKind.i64 ((x.size : Int) - 1 - (j : Nat) - 1) = (x.size : Int) - 1 - ((j + 1 : Nat) : Int) := by rw [i64w] <;> omega
    have e2 : (x.size : Int) - 1 - (j : Nat) = ((x.size - 1 - j : Nat) : Int) := by omega
    rw [rev_bt x j hj] at hg
    rw [e1]
    rw [e2]
    exact hg
  · have := s63_3 (ρ := ρ) (w := w) x ((x.size : Int) - 1 - (x.size : Nat)) x.size ((bytesOf x).reverse.take x.size) (by omega) (by rw [List.length_take, List.length_reverse, hl]; omega)
    have ht : (bytesOf x).reverse.take x.size = (bytesOf x).reverse := List.take_of_length_le (by rw [List.length_reverse, hl]; exact Nat.le_refl _)
    rw [ht, ht] at this
    show G _ (s63st0 x ((x.size : Int) - 1 - (x.size : Nat)) x.size ((bytesOf x).reverse.take x.size))
    rw [ht]
    exact this
theorem e63_ok : EntryOk Try.prog 63 e63 := by
  intro args ms r obs h ho
  unfold e63 at h
  split at h
  · cases h; exact s63 _ (by simpa using ohead ho)
  · cases h

theorem beV_append (l : List Int) (b : Int) : beV (l ++ [b]) = beV l * 256 + b := by simp [beV]
theorem beV_range : ∀ (n : Nat) (l : List Int), l.length = n → (∀ b ∈ l, 0 ≤ b ∧ b < 256) → 0 ≤ beV l ∧ beV l < 256 ^ n
  | 0, l, h, _ => by
    have : l = [] := List.eq_nil_of_length_eq_zero h
    subst this
    simp [beV]
  | n + 1, l, h, hb => by
    have hne : l ≠ [] := by rintro rfl; simp at h
    obtain ⟨m, b, rfl⟩ : ∃ m b, l = m ++ [b] := ⟨l.dropLast, l.getLast hne, (List.dropLast_concat_getLast hne).symm⟩
    have ih := beV_range n m (by simpa using h) (fun c hc => hb c (by simp [hc]))
    have := hb b (by simp)
    rw [beV_append, Int.pow_succ]
    generalize (256 : Int) ^ n = p at *
    omega
theorem p256 (j : Nat) (h : j ≤ 7) : (256 : Int) ^ j ≤ 72057594037927936 := by
  match j, h with
  | 0, _ => exact (by decide)
  | 1, _ => exact (by decide)
  | 2, _ => exact (by decide)
  | 3, _ => exact (by decide)
  | 4, _ => exact (by decide)
  | 5, _ => exact (by decide)
  | 6, _ => exact (by decide)
  | 7, _ => exact (by decide)
theorem s76 (x : ByteArray) (h : x.size ≤ 8) : Sx.Spec Try.prog 76 [.c (.v (.string x))] [] ⟨V.int .u64 (beV (bytesOf x)), [], []⟩ := by
  refine spec_body (tab := tab libn) Try.func76 (by kernel_rfl) (by kernel_rfl) (by kernel_rfl) fun ρ w => ?_
  refine s76_1 x ?_
  refine G.loop (fun j => s76st0 x (beV ((bytesOf x).take j)) (j : Int)) x.size (fun j hj hg => ?_) ?_
  · have hb := bt_range x (j : Int)
    refine s76_2 x _ (j : Int) (by omega) (by omega) ?_
    have hr := beV_range j ((bytesOf x).take j) (by rw [List.length_take, bytesOf_length]; omega) (fun b hb => bytesOf_range x b (List.mem_of_mem_take hb))
    have hp := p256 j (by omega)
    rw [take_bt x j hj, beV_append] at hg
    rw [i64s j (by omega)]
    simp only [wrap_u64]
    have e : (beV (List.take j (bytesOf x)) * 256 % 18446744073709551616 + bt x (j : Int) % 18446744073709551616) % 18446744073709551616 = beV (List.take j (bytesOf x)) * 256 + bt x (j : Int) := by omega
    rw [e]
    exact hg
  · have := s76_3 (ρ := ρ) (w := w) x (beV (bytesOf x)) (x.size : Int) (by omega)
    show G _ (s76st0 x (beV ((bytesOf x).take x.size)) (x.size : Int))
    rw [take_all]
    exact this
theorem e76_ok : EntryOk Try.prog 76 e76 := by
  intro args ms r obs h ho
  unfold e76 at h
  split at h
  · cases h; exact s76 _ (by simpa using ohead ho)
  · cases h
theorem libg_ok : AllOk Try.prog libg := .cons e57_ok (.cons e62_ok (.cons e63_ok (.cons (roE_ok e64_ok) (.cons (roE_ok e65_ok) (.cons (roE_ok e66_ok) (.nil _))))))
noncomputable def s8k0 : List Item := kAt Try.prog (tab libg) Try.f8 [(11, false)] 0 [W.c (C.sl 0 0 1)] [Blk.mk 0 Mode.ro (K.ints IntKind.u64 [0])]
noncomputable def s8st0 (l : List Int) (t3 : ByteArray) (t4 : ByteArray) (t5 : ByteArray) (t15 : Int) (b1_0 : Nat) (b1_1 : List Int) : Cfg := cfg s8k0 [0, 3, 4, 5, 6, 13, 14, 15] [V.w (W.c (C.sl 0 0 (List.length l))), V.str t3, V.str t4, V.str t5, V.w (W.c (C.own 1)), V.w (W.c (C.sl 0 0 (List.length l))), V.int IntKind.i64 (↑(List.length l) : Int), V.int IntKind.i64 t15] [Blk.mk 0 Mode.ro (K.ints IntKind.u64 l), Blk.mk 25 (Mode.own b1_0) (K.ints IntKind.u32 b1_1)]
theorem s8_1 (l : List Int) (h1 : (↑(List.length l) : Int) > 50) : Sx.Spec Try.prog 8 [W.c (C.sl 0 0 (List.length l))] [Blk.mk 0 Mode.ro (K.ints IntKind.u64 l)] ⟨V.bool true, [], []⟩ :=
  spec_of_whole (tab_ok libg_ok) mixed Try.func8 [(11, true)] 1000000 [(0, none)] (by kernel_rfl) (by kernel_rfl) (by kernel_rfl) (by kernel_rfl) (by kernel_rfl) (by kernel_rfl)
    (ocons (decide_eq_true h1) onil)
theorem s8_2 {ρ : Env} {w : World} {r : Res} (l : List Int) (h1 : ¬(↑(List.length l) : Int) > 50) (hg : G (mkX Try.prog (tab libg) Try.f8 [Blk.mk 0 Mode.ro (K.ints IntKind.u64 l)] ρ w r) (s8st0 (l) (ByteArray.mk #[]) (ByteArray.mk #[]) (ByteArray.mk #[]) (0) (0) ([]))) : G (mkX Try.prog (tab libg) Try.f8 [Blk.mk 0 Mode.ro (K.ints IntKind.u64 l)] ρ w r) (cfg [.code (Try.f8.body.getD .skip)] (List.range 1) ([W.c (C.sl 0 0 (List.length l))].map V.w) [Blk.mk 0 Mode.ro (K.ints IntKind.u64 l)]) :=
  G.seg (X := mkX Try.prog (tab libg) Try.f8 [Blk.mk 0 Mode.ro (K.ints IntKind.u64 l)] ρ w r) ⟨tab_ok libg_ok, mixed⟩ [(11, false)] 1000000 0 [0, 3, 4, 5, 6, 13, 14, 15] [(0, none)] (k := s8k0) (vs := [V.w (W.c (C.sl 0 0 (List.length l))), V.str (ByteArray.mk #[]), V.str (ByteArray.mk #[]), V.str (ByteArray.mk #[]), V.w (W.c (C.v (Value.slice none 0 0))), V.w (W.c (C.sl 0 0 (List.length l))), V.int IntKind.i64 (↑(List.length l) : Int), V.int IntKind.i64 0]) (bs := [Blk.mk 0 Mode.ro (K.ints IntKind.u64 l)]) (by kernel_rfl) (by kernel_rfl)
    (ocons (ndec h1) onil) (G.nilOwn 4 25 (K.ints IntKind.u32 []) rfl rfl rfl (Nat.le_of_ble_eq_true rfl) hg)
theorem s8_3 {ρ : Env} {w : World} {r : Res} (l : List Int) (t3 : ByteArray) (t4 : ByteArray) (t5 : ByteArray) (t15 : Int) (b1_0 : Nat) (b1_1 : List Int) (h1 : t15 < (↑(List.length l) : Int)) (h2 : 0 ≤ t15) (h3 : Int.toNat t15 < List.length l) (h4 : (b1_0 + 1) * 4 ≤ 1099511627776) (h5 : b1_0 + 1 ≤ 1099511627776) (h6 : ByteArray.size t3 + ByteArray.size (strOf (put4 (Int.tmod (List.getD l (Int.toNat t15) 0) 4294967296))) ≤ 9223372036854775807) (h7 : ByteArray.size t4 + 8 ≤ 9223372036854775807) (h8 : ByteArray.size t5 + 8 ≤ 9223372036854775807) (hg : G (mkX Try.prog (tab libg) Try.f8 [Blk.mk 0 Mode.ro (K.ints IntKind.u64 l)] ρ w r) (s8st0 (l) (t3 ++ strOf (put4 (Int.tmod (List.getD l (Int.toNat t15) 0) 4294967296))) (t4 ++ strOf (put8 (List.getD l (Int.toNat t15) 0))) (t5 ++ strOf (List.reverse (bytesOf (strOf (put8 (List.getD l (Int.toNat t15) 0)))))) (IntKind.wrap IntKind.i64 (t15 + 1)) (b1_0 + 1) (b1_1 ++ List.take 1 (List.drop 0 [IntKind.wrap IntKind.u32 (List.getD l (Int.toNat t15) 0)])))) : G (mkX Try.prog (tab libg) Try.f8 [Blk.mk 0 Mode.ro (K.ints IntKind.u64 l)] ρ w r) (s8st0 l t3 t4 t5 t15 b1_0 b1_1) :=
  G.seg (X := mkX Try.prog (tab libg) Try.f8 [Blk.mk 0 Mode.ro (K.ints IntKind.u64 l)] ρ w r) ⟨tab_ok libg_ok, mixed⟩ [(16, true)] 1000000 0 [0, 3, 4, 5, 6, 13, 14, 15] [(0, none), (34, none)] (k := s8k0) (vs := [V.w (W.c (C.sl 0 0 (List.length l))), V.str (t3 ++ strOf (put4 (Int.tmod (List.getD l (Int.toNat t15) 0) 4294967296))), V.str (t4 ++ strOf (put8 (List.getD l (Int.toNat t15) 0))), V.str (t5 ++ strOf (List.reverse (bytesOf (strOf (put8 (List.getD l (Int.toNat t15) 0)))))), V.w (W.c (C.own 1)), V.w (W.c (C.sl 0 0 (List.length l))), V.int IntKind.i64 (↑(List.length l) : Int), V.int IntKind.i64 (IntKind.wrap IntKind.i64 (t15 + 1))]) (bs := [Blk.mk 0 Mode.ro (K.ints IntKind.u64 l), Blk.mk 25 (Mode.own (b1_0 + 1)) (K.ints IntKind.u32 (b1_1 ++ List.take 1 (List.drop 0 [IntKind.wrap IntKind.u32 (List.getD l (Int.toNat t15) 0)])))]) (by kernel_rfl) (by kernel_rfl)
    (ocons (decide_eq_true h1) (ocons (decide_eq_true h2) (ocons (decide_eq_true h1) (ocons (bltT h3) (ocons (bleT h4) (ocons (bleT h5) (ocons rfl (ocons rfl (ocons (bleT h6) (ocons (bleT h7) (ocons rfl (ocons (bleT h8) onil)))))))))))) hg
theorem s8_4 {ρ : Env} {w : World} (l : List Int) (t3 : ByteArray) (t4 : ByteArray) (t5 : ByteArray) (t15 : Int) (b1_0 : Nat) (b1_1 : List Int) (h1 : ¬t15 < (↑(List.length l) : Int)) (h2 : b1_0 = List.length b1_1) (h3 : List.length b1_1 ≤ 100000000) (h4 : strOf (List.flatMap (beL 4) b1_1) = t3) (h5 : List.length l ≤ 100000000) (h6 : strOf (List.flatMap (beL 8) l) = t4) (h7 : strOf (List.flatMap (leL 8) l) = t5) : G (mkX Try.prog (tab libg) Try.f8 [Blk.mk 0 Mode.ro (K.ints IntKind.u64 l)] ρ w ⟨V.bool true, [], []⟩) (s8st0 l t3 t4 t5 t15 b1_0 b1_1) :=
  G.ends (tab_ok libg_ok) mixed [(16, false), (43, true), (49, true), (55, true)] 1000000 [(0, none)] (by kernel_rfl) (by kernel_rfl) (by kernel_rfl) (by kernel_rfl)
    (ocons (ndec h1) (ocons (beqT h2) (ocons (bleT h3) (ocons (eqS_of h4) (ocons (beqT (rfl : List.length l = List.length l)) (ocons (bleT h5) (ocons (eqS_of h6) (ocons (beqT (rfl : List.length l = List.length l)) (ocons (bleT h5) (ocons (eqS_of h7) onil))))))))))
theorem s8_5 {ρ : Env} {w : World} (l : List Int) (t3 : ByteArray) (t4 : ByteArray) (t5 : ByteArray) (t15 : Int) (b1_0 : Nat) (b1_1 : List Int) (h1 : ¬t15 < (↑(List.length l) : Int)) (h2 : b1_0 = List.length b1_1) (h3 : List.length b1_1 ≤ 100000000) (h4 : strOf (List.flatMap (beL 4) b1_1) = t3) (h5 : List.length l ≤ 100000000) (h6 : strOf (List.flatMap (beL 8) l) = t4) (h7 : ¬strOf (List.flatMap (leL 8) l) = t5) : G (mkX Try.prog (tab libg) Try.f8 [Blk.mk 0 Mode.ro (K.ints IntKind.u64 l)] ρ w ⟨V.bool false, [], []⟩) (s8st0 l t3 t4 t5 t15 b1_0 b1_1) :=
  G.ends (tab_ok libg_ok) mixed [(16, false), (43, true), (49, true), (55, false)] 1000000 [(0, none)] (by kernel_rfl) (by kernel_rfl) (by kernel_rfl) (by kernel_rfl)
    (ocons (ndec h1) (ocons (beqT h2) (ocons (bleT h3) (ocons (eqS_of h4) (ocons (beqT (rfl : List.length l = List.length l)) (ocons (bleT h5) (ocons (eqS_of h6) (ocons (beqT (rfl : List.length l = List.length l)) (ocons (bleT h5) (ocons (neS h7) onil))))))))))
theorem s8_6 {ρ : Env} {w : World} (l : List Int) (t3 : ByteArray) (t4 : ByteArray) (t5 : ByteArray) (t15 : Int) (b1_0 : Nat) (b1_1 : List Int) (h1 : ¬t15 < (↑(List.length l) : Int)) (h2 : b1_0 = List.length b1_1) (h3 : List.length b1_1 ≤ 100000000) (h4 : strOf (List.flatMap (beL 4) b1_1) = t3) (h5 : List.length l ≤ 100000000) (h6 : ¬strOf (List.flatMap (beL 8) l) = t4) : G (mkX Try.prog (tab libg) Try.f8 [Blk.mk 0 Mode.ro (K.ints IntKind.u64 l)] ρ w ⟨V.bool false, [], []⟩) (s8st0 l t3 t4 t5 t15 b1_0 b1_1) :=
  G.ends (tab_ok libg_ok) mixed [(16, false), (43, true), (49, false)] 1000000 [(0, none)] (by kernel_rfl) (by kernel_rfl) (by kernel_rfl) (by kernel_rfl)
    (ocons (ndec h1) (ocons (beqT h2) (ocons (bleT h3) (ocons (eqS_of h4) (ocons (beqT (rfl : List.length l = List.length l)) (ocons (bleT h5) (ocons (neS h6) onil)))))))
theorem s8_7 {ρ : Env} {w : World} (l : List Int) (t3 : ByteArray) (t4 : ByteArray) (t5 : ByteArray) (t15 : Int) (b1_0 : Nat) (b1_1 : List Int) (h1 : ¬t15 < (↑(List.length l) : Int)) (h2 : b1_0 = List.length b1_1) (h3 : List.length b1_1 ≤ 100000000) (h4 : ¬strOf (List.flatMap (beL 4) b1_1) = t3) : G (mkX Try.prog (tab libg) Try.f8 [Blk.mk 0 Mode.ro (K.ints IntKind.u64 l)] ρ w ⟨V.bool false, [], []⟩) (s8st0 l t3 t4 t5 t15 b1_0 b1_1) :=
  G.ends (tab_ok libg_ok) mixed [(16, false), (43, false)] 1000000 [(0, none)] (by kernel_rfl) (by kernel_rfl) (by kernel_rfl) (by kernel_rfl)
    (ocons (ndec h1) (ocons (beqT h2) (ocons (bleT h3) (ocons (neS h4) onil))))

theorem beL_range : ∀ f x, ∀ b ∈ beL f x, 0 ≤ b ∧ b < 256
  | 0, _ => by simp [beL]
  | f + 1, x => by
    intro b hb
    simp only [beL, List.mem_append, List.mem_cons, List.not_mem_nil, or_false] at hb
    rcases hb with hb | rfl
    · exact beL_range f _ b hb
    · omega
theorem s8 (l : List Int) (hl : ∀ n ∈ l, 0 ≤ n ∧ n < 18446744073709551616) : Sx.Spec Try.prog 8 [.c (.sl 0 0 l.length)] [⟨0, .ro, .ints .u64 l⟩] ⟨V.bool true, [], []⟩ := by
  by_cases c : (l.length : Int) > 50
  · exact s8_1 l c
  refine spec_body (tab := tab libg) Try.func8 (by kernel_rfl) (by kernel_rfl) (by kernel_rfl) fun ρ w => ?_
  refine s8_2 l c ?_
  have f4 := flat_len 4 (beL 4) (beL_len 4)
  have f8 := flat_len 8 (beL 8) (beL_len 8)
  have g8 := flat_len 8 (leL 8) (leL_len 8)
  refine G.loop (fun j => s8st0 l (strOf (((l.take j).map (· % 4294967296)).flatMap (beL 4))) (strOf ((l.take j).flatMap (beL 8))) (strOf ((l.take j).flatMap (leL 8))) (j : Int) j ((l.take j).map (· % 4294967296))) l.length (fun j hj hg => ?_) ?_
  · have hn := hl _ (mem_getD l j hj)
    have hmod : Int.tmod (l.getD (Int.toNat (j : Int)) 0) 4294967296 = l.getD j 0 % 4294967296 := by rw [Int.toNat_natCast, tmod_pos hn.1]
    have hlt : (l.take j).length = j := by rw [List.length_take]; omega
    refine s8_3 l _ _ _ (j : Int) j _ (by omega) (by omega) (by omega) (by omega) (by omega) ?_ ?_ ?_ ?_
    · rw [strOf_size, f4, strOf_size]
      simp only [put4, List.length_map, List.length_cons, List.length_nil, hlt]
      omega
    · rw [strOf_size, f8, hlt]; omega
    · rw [strOf_size, g8, hlt]; omega
    · rw [hmod, Int.toNat_natCast, put4_eq (by omega) (by omega), put8_eq hn.1 hn.2, i64s j (by omega)]
      rw [bytesOf_strOf (beL_range 8 _), be_rev, ← strOf_append, ← strOf_append, ← strOf_append]
      rw [take_getD l j hj] at hg
      simp only [List.map_append, List.flatMap_append, List.map_cons, List.map_nil, List.flatMap_singleton] at hg
      exact hg
  · have := s8_4 (ρ := ρ) (w := w) l (strOf ((l.map (· % 4294967296)).flatMap (beL 4))) (strOf (l.flatMap (beL 8))) (strOf (l.flatMap (leL 8))) (l.length : Int) l.length (l.map (· % 4294967296)) (by omega) (by simp) (by simp; omega) rfl (by omega) rfl rfl
    show G _ (s8st0 l (strOf (((l.take l.length).map (· % 4294967296)).flatMap (beL 4))) (strOf ((l.take l.length).flatMap (beL 8))) (strOf ((l.take l.length).flatMap (leL 8))) (l.length : Int) l.length ((l.take l.length).map (· % 4294967296)))
    rw [List.take_length]
    exact this

def ks8 : List Kind := [.ints .u64]
theorem open8 : ∀ l, AllIs ks8 l → Sx.Spec Try.prog 8 (allW l 0) (allB l) ⟨V.bool true, [], []⟩ := by
  intro l h
  match l, h with
  | [.ints k l], h =>
    obtain ⟨⟨rfl, _, hl⟩, _⟩ := h
    exact s8 l (fun n hn => by obtain ⟨m, rfl, hm⟩ := nat_of_wf64 (hl n hn); omega)

set_option maxRecDepth 100000 in
theorem lifted8 (os : Os) (started : os.Started) (H : Type) (enc : TypeId × Value → H) :
    ReturnsInHanded {} Try.checked os 8 .any (Rows.octetPutsSpec.pre6 enc Try.prog Try.f8 Rows.octetPutsRow.domain false) (Rows.octetPutsSpec.post enc Try.prog Try.f8 false true false false) := by
  refine returnsInHanded_of_change (C := Try.checked) (by kernel_rfl) started (by kernel_rfl) Try.func8
    (ChangeSpec.witness6 (enc := enc) (C := Try.checked) false ⟨#[], #[.slice none 0 0], []⟩ 8 (by kernel_rfl) (by kernel_rfl) (by kernel_rfl) (by kernel_rfl)) ?_
  intro W base args ds gs before hval0 hW hcnd _
  exact law_step (ks := ks8) (tb := 4) laid (by kernel_rfl) (by kernel_rfl) rfl (by kernel_rfl) Try.underlying4 (fun ds hds => by
    match ds, hds with
    | [_], _ => rfl) open8 hval0 hW
theorem closed8 : joinedFacts Try.prog 8 Try.f8 Rows.octetPutsSpec Rows.octetPutsRow = true :=
  joined rfl rfl rfl rfl (by kernel_rfl) (by kernel_rfl) (by kernel_rfl) (by kernel_rfl) (by kernel_rfl) (by kernel_rfl) (by kernel_rfl) (by kernel_rfl) (by kernel_rfl) (by kernel_rfl) rfl (by kernel_rfl) (by kernel_rfl)
theorem named8 : Try.prog.funcNamed Rows.octetPutsRow.func = some 8 := by kernel_rfl
theorem over8 : Rows.octetPutsRow.holds Try.pinned (OpenSpec.ofChange Rows.octetPutsSpec) :=
  OpenClaim.holds_of_wide 8 Try.f8 rfl rfl rfl rfl rfl rfl rfl ⟨rfl, rfl, rfl, rfl, rfl⟩ rfl rfl rfl rfl rfl named8 Try.func8 closed8
    (of_decide_eq_true (by kernel_rfl)) (by unfold Func.isWrapper; first | (rw [if_pos (by decide +kernel)]; kernel_rfl) | (rw [if_neg (by decide +kernel)]; exact ⟨rfl, rfl⟩))
    (fun os started H enc _ => lifted8 os started H enc)
theorem octetPuts_proved : Rows.OctetPutsSaid :=
  over8
#print axioms octetPuts_proved
end Go.Proofs.Ytmjejlbmcefaoaa
