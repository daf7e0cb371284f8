/- Words as bytes, bytes as words: what octet and its reference compute. -/
import Derived.Test.YtmjejlbmcefaoaaOctA
import Derived.Test.YtmjejlbmcefaoaaBlkC
namespace Go.Proofs.Ytmjejlbmcefaoaa
open Go Sx

def e254 : Entry := fun args ms => match args, ms with
  | [.c (.v (.int .i64 k)), .c (.ptr 0 0)], [⟨3, .rw, .cs [.v (.int .i64 s)]⟩] => some (⟨V.int .i64 (i64 (i64 (s - 1) - k)), [], []⟩, [])
  | _, _ => none
def e255 : Entry := fun args ms => match args, ms with
  | [.c (.v (.int .i64 k))], [] => some (⟨V.int .i64 k, [], []⟩, [])
  | _, _ => none
def libc : List (Nat × Entry) := [(254, e254), (255, e255)]
theorem s254_1 (k : Int) (s : Int) : Sx.Spec Try.prog 254 [W.int IntKind.i64 k, W.c (C.ptr 0 0)] [Blk.mk 3 Mode.rw (K.cs [C.v (Value.int IntKind.i64 s)])] ⟨V.int IntKind.i64 (IntKind.wrap IntKind.i64 (IntKind.wrap IntKind.i64 (s - 1) - k)), [], []⟩ :=
  spec_of_whole (tab_ok libn_ok) mixed Try.func254 [] 1000000 [(0, none)] (by kernel_rfl) (by kernel_rfl) (by kernel_rfl) (by kernel_rfl) (by kernel_rfl) (by kernel_rfl)
    onil
theorem s255_1 (k : Int) : Sx.Spec Try.prog 255 [W.int IntKind.i64 k] [] ⟨V.int IntKind.i64 k, [], []⟩ :=
  spec_of_whole (tab_ok libn_ok) mixed Try.func255 [] 1000000 [] (by kernel_rfl) (by kernel_rfl) (by kernel_rfl) (by kernel_rfl) (by kernel_rfl) (by kernel_rfl)
    onil

theorem e254_ok : EntryOk Try.prog 254 e254 := by
  intro args ms r obs h ho
  unfold e254 at h
  split at h
  · cases h; exact s254_1 _ _
  · cases h
theorem e255_ok : EntryOk Try.prog 255 e255 := by
  intro args ms r obs h ho
  unfold e255 at h
  split at h
  · cases h; exact s255_1 _
  · cases h
theorem libc_ok : AllOk Try.prog libc := .cons e254_ok (.cons e255_ok (.nil _))
theorem s198_1 (s : Int) : Sx.Spec Try.prog 198 [W.int IntKind.i64 s] [] ⟨V.w (W.c (C.fn 254 [(0, 0)])), [], [Blk.mk 3 Mode.rw (K.cs [C.v (Value.int IntKind.i64 s)])]⟩ :=
  spec_of_whole (tab_ok libn_ok) mixed Try.func198 [] 1000000 [(0, none)] (by kernel_rfl) (by kernel_rfl) (by kernel_rfl) (by kernel_rfl) (by kernel_rfl) (by kernel_rfl)
    onil
theorem s200_1 : Sx.Spec Try.prog 200 [] [] ⟨V.w (W.c (C.v (Value.func (Fn.func 255) #[] #[]))), [], []⟩ :=
  spec_of_whole (tab_ok libn_ok) mixed Try.func200 [] 1000000 [] (by kernel_rfl) (by kernel_rfl) (by kernel_rfl) (by kernel_rfl) (by kernel_rfl) (by kernel_rfl)
    onil

def e198 : Entry := fun args ms => match args, ms with
  | [.c (.v (.int .i64 s))], [] => some (⟨.w (.c (.fn 254 [(0, 0)])), [], [⟨3, .rw, .cs [.v (.int .i64 s)]⟩]⟩, [])
  | _, _ => none
theorem e198_ok : EntryOk Try.prog 198 e198 := by
  intro args ms r obs h ho
  unfold e198 at h
  split at h
  · cases h; exact s198_1 _
  · cases h
def e200 : Entry := fun args ms => match args, ms with
  | [], [] => some (⟨.w (.c (.v (.func (.func 255) #[] #[]))), [], []⟩, [])
  | _, _ => none
theorem e200_ok : EntryOk Try.prog 200 e200 := by
  intro args ms r obs h ho
  unfold e200 at h
  split at h
  · cases h; exact s200_1
  · cases h

/-! words as bytes -/
/-- the lowest bytes of a number, the lowest one first. -/
def leL : Nat → Int → List Int
  | 0, _ => []
  | f + 1, x => x % 256 :: leL f (x / 256)
theorem leL_len : ∀ f x, (leL f x).length = f
  | 0, _ => rfl
  | f + 1, x => by simp [leL, leL_len f]
theorem be_rev : ∀ f x, (beL f x).reverse = leL f x
  | 0, _ => rfl
  | f + 1, x => by simp [beL, leL, be_rev f]
def wordOk (m : Int) (l : List Int) : Bool := l.all fun n => decide (0 ≤ n) && decide (n < m)
theorem wordOk_of {m : Int} {l : List Int} (h : wordOk m l = true) : ∀ n ∈ l, 0 ≤ n ∧ n < m := by
  unfold wordOk at h
  simp only [List.all_eq_true, Bool.and_eq_true, decide_eq_true_eq] at h
  exact h
theorem of_wordOk {m : Int} {l : List Int} (h : ∀ n ∈ l, 0 ≤ n ∧ n < m) : wordOk m l = true := by
  unfold wordOk
  simp only [List.all_eq_true, Bool.and_eq_true, decide_eq_true_eq]
  exact h
theorem take_getD (l : List Int) (j : Nat) (h : j < l.length) : l.take (j + 1) = l.take j ++ [l.getD j 0] := by
  rw [List.take_add_one, List.getD_eq_getElem?_getD, List.getElem?_eq_getElem h]; rfl
theorem mem_getD (l : List Int) (j : Nat) (h : j < l.length) : l.getD j 0 ∈ l := by
  rw [List.getD_eq_getElem?_getD, List.getElem?_eq_getElem h]; exact List.getElem_mem h
theorem fdiv8 {n : Int} (d : Int) (hd : 0 ≤ d) : IntKind.wrap IntKind.u8 (Int.fdiv n d) = n / d % 256 := by
  rw [wrap_u8, Int.fdiv_eq_ediv_of_nonneg _ hd]
theorem flat_len (w : Nat) (f : Int → List Int) (hf : ∀ x, (f x).length = w) : ∀ l : List Int, (l.flatMap f).length = w * l.length
  | [] => rfl
  | a :: l => by simp only [List.flatMap_cons, List.length_append, hf, flat_len w f hf l, List.length_cons]; rw [Nat.mul_succ]; omega
theorem be4_of (b : List Int) (n : Int) : b ++ [IntKind.wrap IntKind.u8 (Int.fdiv n 16777216)] ++ [IntKind.wrap IntKind.u8 (Int.fdiv n 65536)] ++ [IntKind.wrap IntKind.u8 (Int.fdiv n 256)] ++ [IntKind.wrap IntKind.u8 (Int.fdiv n 1)] = b ++ beL 4 n := by
  have e1 : n / 16777216 % 256 = n / 256 / 256 / 256 % 256 := by omega
  have e2 : n / 65536 % 256 = n / 256 / 256 % 256 := by omega
  have e3 : n / 1 % 256 = n % 256 := by omega
  simp only [fdiv8 _ (show (0 : Int) ≤ 16777216 by omega), fdiv8 _ (show (0 : Int) ≤ 65536 by omega), fdiv8 _ (show (0 : Int) ≤ 256 by omega), fdiv8 _ (show (0 : Int) ≤ 1 by omega), e1, e2, e3, beL, List.append_assoc, List.nil_append, List.cons_append]
theorem div8_of (n : Int) : n / 72057594037927936 % 256 = n / 256 / 256 / 256 / 256 / 256 / 256 / 256 % 256 ∧ n / 281474976710656 % 256 = n / 256 / 256 / 256 / 256 / 256 / 256 % 256 ∧ n / 1099511627776 % 256 = n / 256 / 256 / 256 / 256 / 256 % 256 ∧
    n / 4294967296 % 256 = n / 256 / 256 / 256 / 256 % 256 ∧ n / 16777216 % 256 = n / 256 / 256 / 256 % 256 ∧ n / 65536 % 256 = n / 256 / 256 % 256 ∧ n / 1 % 256 = n % 256 := by
  have h : ∀ a b : Int, 0 ≤ a → 0 ≤ b → n / (a * b) = n / a / b := fun a b ha hb => (Int.ediv_ediv_of_nonneg ha).symm
  refine ⟨?_, ?_, ?_, ?_, ?_, ?_, ?_⟩ <;> omega
theorem be8_of (b : List Int) (n : Int) : b ++ [IntKind.wrap IntKind.u8 (Int.fdiv n 72057594037927936)] ++ [IntKind.wrap IntKind.u8 (Int.fdiv n 281474976710656)] ++ [IntKind.wrap IntKind.u8 (Int.fdiv n 1099511627776)] ++ [IntKind.wrap IntKind.u8 (Int.fdiv n 4294967296)] ++ [IntKind.wrap IntKind.u8 (Int.fdiv n 16777216)] ++ [IntKind.wrap IntKind.u8 (Int.fdiv n 65536)] ++ [IntKind.wrap IntKind.u8 (Int.fdiv n 256)] ++ [IntKind.wrap IntKind.u8 (Int.fdiv n 1)] = b ++ beL 8 n := by
  obtain ⟨e1, e2, e3, e4, e5, e6, e7⟩ := div8_of n
  simp only [fdiv8 _ (show (0 : Int) ≤ 72057594037927936 by omega), fdiv8 _ (show (0 : Int) ≤ 281474976710656 by omega), fdiv8 _ (show (0 : Int) ≤ 1099511627776 by omega), fdiv8 _ (show (0 : Int) ≤ 4294967296 by omega), fdiv8 _ (show (0 : Int) ≤ 16777216 by omega), fdiv8 _ (show (0 : Int) ≤ 65536 by omega), fdiv8 _ (show (0 : Int) ≤ 256 by omega), fdiv8 _ (show (0 : Int) ≤ 1 by omega), e1, e2, e3, e4, e5, e6, e7, beL, List.append_assoc, List.nil_append, List.cons_append]
theorem le8_of (b : List Int) (n : Int) : b ++ [IntKind.wrap IntKind.u8 (Int.fdiv n 1)] ++ [IntKind.wrap IntKind.u8 (Int.fdiv n 256)] ++ [IntKind.wrap IntKind.u8 (Int.fdiv n 65536)] ++ [IntKind.wrap IntKind.u8 (Int.fdiv n 16777216)] ++ [IntKind.wrap IntKind.u8 (Int.fdiv n 4294967296)] ++ [IntKind.wrap IntKind.u8 (Int.fdiv n 1099511627776)] ++ [IntKind.wrap IntKind.u8 (Int.fdiv n 281474976710656)] ++ [IntKind.wrap IntKind.u8 (Int.fdiv n 72057594037927936)] = b ++ leL 8 n := by
  obtain ⟨e1, e2, e3, e4, e5, e6, e7⟩ := div8_of n
  simp only [fdiv8 _ (show (0 : Int) ≤ 72057594037927936 by omega), fdiv8 _ (show (0 : Int) ≤ 281474976710656 by omega), fdiv8 _ (show (0 : Int) ≤ 1099511627776 by omega), fdiv8 _ (show (0 : Int) ≤ 4294967296 by omega), fdiv8 _ (show (0 : Int) ≤ 16777216 by omega), fdiv8 _ (show (0 : Int) ≤ 65536 by omega), fdiv8 _ (show (0 : Int) ≤ 256 by omega), fdiv8 _ (show (0 : Int) ≤ 1 by omega), e1, e2, e3, e4, e5, e6, e7, leL, List.append_assoc, List.nil_append, List.cons_append]
noncomputable def s197k0 : List Item := kAt Try.prog (tab libc) Try.f197 [] 0 [W.c (C.sl 0 0 1), W.int IntKind.i64 4, W.c (C.fn 254 [(1, 0)])] [Blk.mk 1 Mode.ro (K.ints IntKind.u32 [0]), Blk.mk 3 Mode.rw (K.cs [C.v (Value.int IntKind.i64 4)])]
noncomputable def s197st0 (t : Nat) (l : List Int) (t18h0 : Int) (b2_0h0 : Nat) (b2_1h0 : List Int) : Cfg := cfg s197k0 [1, 2, 7, 16, 17, 18] [V.int IntKind.i64 4, V.w (W.c (C.fn 254 [(1, 0)])), V.w (W.c (C.own 2)), V.w (W.c (C.sl 0 0 (List.length l))), V.int IntKind.i64 (↑(List.length l) : Int), V.int IntKind.i64 t18h0] [Blk.mk t Mode.ro (K.ints IntKind.u32 l), Blk.mk 3 Mode.rw (K.cs [C.v (Value.int IntKind.i64 4)]), Blk.mk 5 (Mode.own b2_0h0) (K.ints IntKind.u8 b2_1h0)]
theorem s197_1 {ρ : Env} {w : World} {r : Res} (t : Nat) (l : List Int) (h1 : 0 ≤ IntKind.wrap IntKind.i64 (4 * (↑(List.length l) : Int))) (h2 : IntKind.wrap IntKind.i64 (4 * (↑(List.length l) : Int)) ≤ 1099511627776) (hg : G (mkX Try.prog (tab libc) Try.f197 [Blk.mk t Mode.ro (K.ints IntKind.u32 l), Blk.mk 3 Mode.rw (K.cs [C.v (Value.int IntKind.i64 4)])] ρ w r) (s197st0 t (l) (0) (0) ([]))) : G (mkX Try.prog (tab libc) Try.f197 [Blk.mk t Mode.ro (K.ints IntKind.u32 l), Blk.mk 3 Mode.rw (K.cs [C.v (Value.int IntKind.i64 4)])] ρ w r) (cfg [.code (Try.f197.body.getD .skip)] (List.range 3) ([W.c (C.sl 0 0 (List.length l)), W.int IntKind.i64 4, W.c (C.fn 254 [(1, 0)])].map V.w) [Blk.mk t Mode.ro (K.ints IntKind.u32 l), Blk.mk 3 Mode.rw (K.cs [C.v (Value.int IntKind.i64 4)])]) :=
  G.seg (X := mkX Try.prog (tab libc) Try.f197 [Blk.mk t Mode.ro (K.ints IntKind.u32 l), Blk.mk 3 Mode.rw (K.cs [C.v (Value.int IntKind.i64 4)])] ρ w r) ⟨tab_ok libc_ok, mixed⟩ [] 1000000 0 [1, 2, 7, 16, 17, 18] [(0, none), (1, none), (22, none)] (k := s197k0) (vs := [V.int IntKind.i64 4, V.w (W.c (C.fn 254 [(1, 0)])), V.w (W.c (C.own 2)), V.w (W.c (C.sl 0 0 (List.length l))), V.int IntKind.i64 (↑(List.length l) : Int), V.int IntKind.i64 0]) (bs := [Blk.mk t Mode.ro (K.ints IntKind.u32 l), Blk.mk 3 Mode.rw (K.cs [C.v (Value.int IntKind.i64 4)]), Blk.mk 5 (Mode.own 0) (K.ints IntKind.u8 [])]) (by kernel_rfl) (by kernel_rfl)
    (ocons rfl (ocons (decide_eq_true h1) (ocons (decide_eq_true h2) onil))) hg
theorem s197_2 {ρ : Env} {w : World} {r : Res} (t : Nat) (l : List Int) (t18h0 : Int) (b2_0h0 : Nat) (b2_1h0 : List Int) (h1 : t18h0 < (↑(List.length l) : Int)) (h2 : 0 ≤ t18h0) (h3 : Int.toNat t18h0 < List.length l) (h4 : (b2_0h0 + 1) * 1 ≤ 1099511627776) (h5 : b2_0h0 + 1 ≤ 1099511627776) (h6 : (b2_0h0 + 1 + 1) * 1 ≤ 1099511627776) (h7 : b2_0h0 + 1 + 1 ≤ 1099511627776) (h8 : (b2_0h0 + 1 + 1 + 1) * 1 ≤ 1099511627776) (h9 : b2_0h0 + 1 + 1 + 1 ≤ 1099511627776) (h10 : (b2_0h0 + 1 + 1 + 1 + 1) * 1 ≤ 1099511627776) (h11 : b2_0h0 + 1 + 1 + 1 + 1 ≤ 1099511627776) (hg : G (mkX Try.prog (tab libc) Try.f197 [Blk.mk t Mode.ro (K.ints IntKind.u32 l), Blk.mk 3 Mode.rw (K.cs [C.v (Value.int IntKind.i64 4)])] ρ w r) (s197st0 t (l) (IntKind.wrap IntKind.i64 (t18h0 + 1)) (b2_0h0 + 1 + 1 + 1 + 1) (b2_1h0 ++ [IntKind.wrap IntKind.u8 (Int.fdiv (List.getD l (Int.toNat t18h0) 0) 16777216)] ++ [IntKind.wrap IntKind.u8 (Int.fdiv (List.getD l (Int.toNat t18h0) 0) 65536)] ++ [IntKind.wrap IntKind.u8 (Int.fdiv (List.getD l (Int.toNat t18h0) 0) 256)] ++ [IntKind.wrap IntKind.u8 (Int.fdiv (List.getD l (Int.toNat t18h0) 0) 1)]))) : G (mkX Try.prog (tab libc) Try.f197 [Blk.mk t Mode.ro (K.ints IntKind.u32 l), Blk.mk 3 Mode.rw (K.cs [C.v (Value.int IntKind.i64 4)])] ρ w r) (s197st0 t l t18h0 b2_0h0 b2_1h0) :=
  G.seg (X := mkX Try.prog (tab libc) Try.f197 [Blk.mk t Mode.ro (K.ints IntKind.u32 l), Blk.mk 3 Mode.rw (K.cs [C.v (Value.int IntKind.i64 4)])] ρ w r) ⟨tab_ok libc_ok, mixed⟩ [(19, true)] 1000000 5 [1, 2, 7, 16, 17, 18] [(0, none), (1, none), (267, none)] (k := s197k0) (vs := [V.int IntKind.i64 4, V.w (W.c (C.fn 254 [(1, 0)])), V.w (W.c (C.own 2)), V.w (W.c (C.sl 0 0 (List.length l))), V.int IntKind.i64 (↑(List.length l) : Int), V.int IntKind.i64 (IntKind.wrap IntKind.i64 (t18h0 + 1))]) (bs := [Blk.mk t Mode.ro (K.ints IntKind.u32 l), Blk.mk 3 Mode.rw (K.cs [C.v (Value.int IntKind.i64 4)]), Blk.mk 5 (Mode.own (b2_0h0 + 1 + 1 + 1 + 1)) (K.ints IntKind.u8 (b2_1h0 ++ [IntKind.wrap IntKind.u8 (Int.fdiv (List.getD l (Int.toNat t18h0) 0) 16777216)] ++ [IntKind.wrap IntKind.u8 (Int.fdiv (List.getD l (Int.toNat t18h0) 0) 65536)] ++ [IntKind.wrap IntKind.u8 (Int.fdiv (List.getD l (Int.toNat t18h0) 0) 256)] ++ [IntKind.wrap IntKind.u8 (Int.fdiv (List.getD l (Int.toNat t18h0) 0) 1)]))]) (by kernel_rfl) (by kernel_rfl)
    (ocons (decide_eq_true h1) (ocons (decide_eq_true h2) (ocons (decide_eq_true h1) (ocons (bltT h3) (ocons rfl (ocons (bleT h4) (ocons (bleT h5) (ocons rfl (ocons rfl (ocons (bleT h6) (ocons (bleT h7) (ocons rfl (ocons rfl (ocons (bleT h8) (ocons (bleT h9) (ocons rfl (ocons rfl (ocons (bleT h10) (ocons (bleT h11) (ocons rfl onil)))))))))))))))))))) hg
theorem s197_3 {ρ : Env} {w : World} (t : Nat) (l : List Int) (t18h0 : Int) (b2_0h0 : Nat) (b2_1h0 : List Int) (h1 : ¬t18h0 < (↑(List.length l) : Int)) (h2 : 0 + b2_0h0 ≤ List.length b2_1h0) : G (mkX Try.prog (tab libc) Try.f197 [Blk.mk t Mode.ro (K.ints IntKind.u32 l), Blk.mk 3 Mode.rw (K.cs [C.v (Value.int IntKind.i64 4)])] ρ w ⟨V.str (strOf (List.take b2_0h0 b2_1h0)), [], []⟩) (s197st0 t l t18h0 b2_0h0 b2_1h0) :=
  G.ends (tab_ok libc_ok) mixed [(19, false)] 1000000 [(0, none), (1, none)] (by kernel_rfl) (by kernel_rfl) (by kernel_rfl) (by kernel_rfl)
    (ocons (ndec h1) (ocons (bleT h2) onil))

theorem s197 (t : Nat) (l : List Int) (h : l.length ≤ 100000000) : Sx.Spec Try.prog 197 [.c (.sl 0 0 l.length), W.int .i64 4, .c (.fn 254 [(1, 0)])] [⟨t, .ro, .ints .u32 l⟩, ⟨3, .rw, .cs [.v (.int .i64 4)]⟩] ⟨V.str (strOf (l.flatMap (beL 4))), [], []⟩ := by
  have hlen := flat_len 4 (beL 4) (beL_len 4)
  have hm : IntKind.wrap .i64 (4 * (l.length : Int)) = 4 * (l.length : Int) := by rw [i64w] <;> omega
  refine spec_body (tab := tab libc) Try.func197 (by kernel_rfl) (by kernel_rfl) (by kernel_rfl) fun ρ w => ?_
  refine s197_1 t l (by rw [hm]; omega) (by rw [hm]; omega) ?_
  refine G.loop (fun j => s197st0 t l (j : Int) (4 * j) ((l.take j).flatMap (beL 4))) l.length (fun j hj hg => ?_) ?_
  · refine s197_2 t l (j : Int) (4 * j) _ (by omega) (by omega) (by omega) (by omega) (by omega) (by omega) (by omega) (by omega) (by omega) (by omega) (by omega) ?_
    rw [i64s j (by omega), be4_of, Int.toNat_natCast]
    rw [take_getD l j hj, List.flatMap_append, List.flatMap_singleton] at hg
    exact hg
  · have := s197_3 (ρ := ρ) (w := w) t l (l.length : Int) (4 * l.length) (l.flatMap (beL 4)) (by omega) (by rw [hlen]; omega)
    rw [List.take_of_length_le (by rw [hlen]; exact Nat.le_refl _)] at this
    show G _ (s197st0 t l (l.length : Int) (4 * l.length) ((l.take l.length).flatMap (beL 4)))
    rw [List.take_length]
    exact this
noncomputable def s199hk0 : List Item := kAt Try.prog (tab libc) Try.f199 [] 0 [W.c (C.sl 0 0 1), W.int IntKind.i64 8, W.c (C.fn 254 [(1, 0)])] [Blk.mk 1 Mode.ro (K.ints IntKind.u64 [0]), Blk.mk 3 Mode.rw (K.cs [C.v (Value.int IntKind.i64 8)])]
noncomputable def s199hst0 (t : Nat) (l : List Int) (t18h0 : Int) (b2_0h0 : Nat) (b2_1h0 : List Int) : Cfg := cfg s199hk0 [1, 2, 7, 16, 17, 18] [V.int IntKind.i64 8, V.w (W.c (C.fn 254 [(1, 0)])), V.w (W.c (C.own 2)), V.w (W.c (C.sl 0 0 (List.length l))), V.int IntKind.i64 (↑(List.length l) : Int), V.int IntKind.i64 t18h0] [Blk.mk t Mode.ro (K.ints IntKind.u64 l), Blk.mk 3 Mode.rw (K.cs [C.v (Value.int IntKind.i64 8)]), Blk.mk 5 (Mode.own b2_0h0) (K.ints IntKind.u8 b2_1h0)]
theorem s199h_1 {ρ : Env} {w : World} {r : Res} (t : Nat) (l : List Int) (h1 : 0 ≤ IntKind.wrap IntKind.i64 (8 * (↑(List.length l) : Int))) (h2 : IntKind.wrap IntKind.i64 (8 * (↑(List.length l) : Int)) ≤ 1099511627776) (hg : G (mkX Try.prog (tab libc) Try.f199 [Blk.mk t Mode.ro (K.ints IntKind.u64 l), Blk.mk 3 Mode.rw (K.cs [C.v (Value.int IntKind.i64 8)])] ρ w r) (s199hst0 t (l) (0) (0) ([]))) : G (mkX Try.prog (tab libc) Try.f199 [Blk.mk t Mode.ro (K.ints IntKind.u64 l), Blk.mk 3 Mode.rw (K.cs [C.v (Value.int IntKind.i64 8)])] ρ w r) (cfg [.code (Try.f199.body.getD .skip)] (List.range 3) ([W.c (C.sl 0 0 (List.length l)), W.int IntKind.i64 8, W.c (C.fn 254 [(1, 0)])].map V.w) [Blk.mk t Mode.ro (K.ints IntKind.u64 l), Blk.mk 3 Mode.rw (K.cs [C.v (Value.int IntKind.i64 8)])]) :=
  G.seg (X := mkX Try.prog (tab libc) Try.f199 [Blk.mk t Mode.ro (K.ints IntKind.u64 l), Blk.mk 3 Mode.rw (K.cs [C.v (Value.int IntKind.i64 8)])] ρ w r) ⟨tab_ok libc_ok, mixed⟩ [] 1000000 0 [1, 2, 7, 16, 17, 18] [(0, none), (1, none), (22, none)] (k := s199hk0) (vs := [V.int IntKind.i64 8, V.w (W.c (C.fn 254 [(1, 0)])), V.w (W.c (C.own 2)), V.w (W.c (C.sl 0 0 (List.length l))), V.int IntKind.i64 (↑(List.length l) : Int), V.int IntKind.i64 0]) (bs := [Blk.mk t Mode.ro (K.ints IntKind.u64 l), Blk.mk 3 Mode.rw (K.cs [C.v (Value.int IntKind.i64 8)]), Blk.mk 5 (Mode.own 0) (K.ints IntKind.u8 [])]) (by kernel_rfl) (by kernel_rfl)
    (ocons rfl (ocons (decide_eq_true h1) (ocons (decide_eq_true h2) onil))) hg
theorem s199h_2 {ρ : Env} {w : World} {r : Res} (t : Nat) (l : List Int) (t18h0 : Int) (b2_0h0 : Nat) (b2_1h0 : List Int) (h1 : t18h0 < (↑(List.length l) : Int)) (h2 : 0 ≤ t18h0) (h3 : Int.toNat t18h0 < List.length l) (h4 : (b2_0h0 + 1) * 1 ≤ 1099511627776) (h5 : b2_0h0 + 1 ≤ 1099511627776) (h6 : (b2_0h0 + 1 + 1) * 1 ≤ 1099511627776) (h7 : b2_0h0 + 1 + 1 ≤ 1099511627776) (h8 : (b2_0h0 + 1 + 1 + 1) * 1 ≤ 1099511627776) (h9 : b2_0h0 + 1 + 1 + 1 ≤ 1099511627776) (h10 : (b2_0h0 + 1 + 1 + 1 + 1) * 1 ≤ 1099511627776) (h11 : b2_0h0 + 1 + 1 + 1 + 1 ≤ 1099511627776) (h12 : (b2_0h0 + 1 + 1 + 1 + 1 + 1) * 1 ≤ 1099511627776) (h13 : b2_0h0 + 1 + 1 + 1 + 1 + 1 ≤ 1099511627776) (h14 : (b2_0h0 + 1 + 1 + 1 + 1 + 1 + 1) * 1 ≤ 1099511627776) (h15 : b2_0h0 + 1 + 1 + 1 + 1 + 1 + 1 ≤ 1099511627776) (h16 : (b2_0h0 + 1 + 1 + 1 + 1 + 1 + 1 + 1) * 1 ≤ 1099511627776) (h17 : b2_0h0 + 1 + 1 + 1 + 1 + 1 + 1 + 1 ≤ 1099511627776) (h18 : (b2_0h0 + 1 + 1 + 1 + 1 + 1 + 1 + 1 + 1) * 1 ≤ 1099511627776) (h19 : b2_0h0 + 1 + 1 + 1 + 1 + 1 + 1 + 1 + 1 ≤ 1099511627776) (hg : G (mkX Try.prog (tab libc) Try.f199 [Blk.mk t Mode.ro (K.ints IntKind.u64 l), Blk.mk 3 Mode.rw (K.cs [C.v (Value.int IntKind.i64 8)])] ρ w r) (s199hst0 t (l) (IntKind.wrap IntKind.i64 (t18h0 + 1)) (b2_0h0 + 1 + 1 + 1 + 1 + 1 + 1 + 1 + 1) (b2_1h0 ++ [IntKind.wrap IntKind.u8 (Int.fdiv (List.getD l (Int.toNat t18h0) 0) 72057594037927936)] ++ [IntKind.wrap IntKind.u8 (Int.fdiv (List.getD l (Int.toNat t18h0) 0) 281474976710656)] ++ [IntKind.wrap IntKind.u8 (Int.fdiv (List.getD l (Int.toNat t18h0) 0) 1099511627776)] ++ [IntKind.wrap IntKind.u8 (Int.fdiv (List.getD l (Int.toNat t18h0) 0) 4294967296)] ++ [IntKind.wrap IntKind.u8 (Int.fdiv (List.getD l (Int.toNat t18h0) 0) 16777216)] ++ [IntKind.wrap IntKind.u8 (Int.fdiv (List.getD l (Int.toNat t18h0) 0) 65536)] ++ [IntKind.wrap IntKind.u8 (Int.fdiv (List.getD l (Int.toNat t18h0) 0) 256)] ++ [IntKind.wrap IntKind.u8 (Int.fdiv (List.getD l (Int.toNat t18h0) 0) 1)]))) : G (mkX Try.prog (tab libc) Try.f199 [Blk.mk t Mode.ro (K.ints IntKind.u64 l), Blk.mk 3 Mode.rw (K.cs [C.v (Value.int IntKind.i64 8)])] ρ w r) (s199hst0 t l t18h0 b2_0h0 b2_1h0) :=
  G.seg (X := mkX Try.prog (tab libc) Try.f199 [Blk.mk t Mode.ro (K.ints IntKind.u64 l), Blk.mk 3 Mode.rw (K.cs [C.v (Value.int IntKind.i64 8)])] ρ w r) ⟨tab_ok libc_ok, mixed⟩ [(19, true)] 1000000 9 [1, 2, 7, 16, 17, 18] [(0, none), (1, none), (523, none)] (k := s199hk0) (vs := [V.int IntKind.i64 8, V.w (W.c (C.fn 254 [(1, 0)])), V.w (W.c (C.own 2)), V.w (W.c (C.sl 0 0 (List.length l))), V.int IntKind.i64 (↑(List.length l) : Int), V.int IntKind.i64 (IntKind.wrap IntKind.i64 (t18h0 + 1))]) (bs := [Blk.mk t Mode.ro (K.ints IntKind.u64 l), Blk.mk 3 Mode.rw (K.cs [C.v (Value.int IntKind.i64 8)]), Blk.mk 5 (Mode.own (b2_0h0 + 1 + 1 + 1 + 1 + 1 + 1 + 1 + 1)) (K.ints IntKind.u8 (b2_1h0 ++ [IntKind.wrap IntKind.u8 (Int.fdiv (List.getD l (Int.toNat t18h0) 0) 72057594037927936)] ++ [IntKind.wrap IntKind.u8 (Int.fdiv (List.getD l (Int.toNat t18h0) 0) 281474976710656)] ++ [IntKind.wrap IntKind.u8 (Int.fdiv (List.getD l (Int.toNat t18h0) 0) 1099511627776)] ++ [IntKind.wrap IntKind.u8 (Int.fdiv (List.getD l (Int.toNat t18h0) 0) 4294967296)] ++ [IntKind.wrap IntKind.u8 (Int.fdiv (List.getD l (Int.toNat t18h0) 0) 16777216)] ++ [IntKind.wrap IntKind.u8 (Int.fdiv (List.getD l (Int.toNat t18h0) 0) 65536)] ++ [IntKind.wrap IntKind.u8 (Int.fdiv (List.getD l (Int.toNat t18h0) 0) 256)] ++ [IntKind.wrap IntKind.u8 (Int.fdiv (List.getD l (Int.toNat t18h0) 0) 1)]))]) (by kernel_rfl) (by kernel_rfl)
    (ocons (decide_eq_true h1) (ocons (decide_eq_true h2) (ocons (decide_eq_true h1) (ocons (bltT h3) (ocons rfl (ocons (bleT h4) (ocons (bleT h5) (ocons rfl (ocons rfl (ocons (bleT h6) (ocons (bleT h7) (ocons rfl (ocons rfl (ocons (bleT h8) (ocons (bleT h9) (ocons rfl (ocons rfl (ocons (bleT h10) (ocons (bleT h11) (ocons rfl (ocons rfl (ocons (bleT h12) (ocons (bleT h13) (ocons rfl (ocons rfl (ocons (bleT h14) (ocons (bleT h15) (ocons rfl (ocons rfl (ocons (bleT h16) (ocons (bleT h17) (ocons rfl (ocons rfl (ocons (bleT h18) (ocons (bleT h19) (ocons rfl onil)))))))))))))))))))))))))))))))))))) hg
theorem s199h_3 {ρ : Env} {w : World} (t : Nat) (l : List Int) (t18h0 : Int) (b2_0h0 : Nat) (b2_1h0 : List Int) (h1 : ¬t18h0 < (↑(List.length l) : Int)) (h2 : 0 + b2_0h0 ≤ List.length b2_1h0) : G (mkX Try.prog (tab libc) Try.f199 [Blk.mk t Mode.ro (K.ints IntKind.u64 l), Blk.mk 3 Mode.rw (K.cs [C.v (Value.int IntKind.i64 8)])] ρ w ⟨V.str (strOf (List.take b2_0h0 b2_1h0)), [], []⟩) (s199hst0 t l t18h0 b2_0h0 b2_1h0) :=
  G.ends (tab_ok libc_ok) mixed [(19, false)] 1000000 [(0, none), (1, none)] (by kernel_rfl) (by kernel_rfl) (by kernel_rfl) (by kernel_rfl)
    (ocons (ndec h1) (ocons (bleT h2) onil))

theorem s199h (t : Nat) (l : List Int) (h : l.length ≤ 100000000) : Sx.Spec Try.prog 199 [.c (.sl 0 0 l.length), W.int .i64 8, .c (.fn 254 [(1, 0)])] [⟨t, .ro, .ints .u64 l⟩, ⟨3, .rw, .cs [.v (.int .i64 8)]⟩] ⟨V.str (strOf (l.flatMap (beL 8))), [], []⟩ := by
  have hlen := flat_len 8 (beL 8) (beL_len 8)
  have hm : IntKind.wrap .i64 (8 * (l.length : Int)) = 8 * (l.length : Int) := by rw [i64w] <;> omega
  refine spec_body (tab := tab libc) Try.func199 (by kernel_rfl) (by kernel_rfl) (by kernel_rfl) fun ρ w => ?_
  refine s199h_1 t l (by rw [hm]; omega) (by rw [hm]; omega) ?_
  refine G.loop (fun j => s199hst0 t l (j : Int) (8 * j) ((l.take j).flatMap (beL 8))) l.length (fun j hj hg => ?_) ?_
  · refine s199h_2 t l (j : Int) (8 * j) _ (by omega) (by omega) (by omega) (by omega) (by omega) (by omega) (by omega) (by omega) (by omega) (by omega) (by omega) (by omega) (by omega) (by omega) (by omega) (by omega) (by omega) (by omega) (by omega) ?_
    rw [i64s j (by omega), be8_of, Int.toNat_natCast]
    rw [take_getD l j hj, List.flatMap_append, List.flatMap_singleton] at hg
    exact hg
  · have := s199h_3 (ρ := ρ) (w := w) t l (l.length : Int) (8 * l.length) (l.flatMap (beL 8)) (by omega) (by rw [hlen]; omega)
    rw [List.take_of_length_le (by rw [hlen]; exact Nat.le_refl _)] at this
    show G _ (s199hst0 t l (l.length : Int) (8 * l.length) ((l.take l.length).flatMap (beL 8)))
    rw [List.take_length]
    exact this
noncomputable def s199lk0 : List Item := kAt Try.prog (tab libc) Try.f199 [] 0 [W.c (C.sl 0 0 1), W.int IntKind.i64 8, W.c (C.v (Value.func (Fn.func 255) #[] #[]))] [Blk.mk 1 Mode.ro (K.ints IntKind.u64 [0])]
noncomputable def s199lst0 (t : Nat) (l : List Int) (t18h0 : Int) (b1_0h0 : Nat) (b1_1h0 : List Int) : Cfg := cfg s199lk0 [1, 2, 7, 16, 17, 18] [V.int IntKind.i64 8, V.w (W.c (C.v (Value.func (Fn.func 255) #[] #[]))), V.w (W.c (C.own 1)), V.w (W.c (C.sl 0 0 (List.length l))), V.int IntKind.i64 (↑(List.length l) : Int), V.int IntKind.i64 t18h0] [Blk.mk t Mode.ro (K.ints IntKind.u64 l), Blk.mk 5 (Mode.own b1_0h0) (K.ints IntKind.u8 b1_1h0)]
theorem s199l_1 {ρ : Env} {w : World} {r : Res} (t : Nat) (l : List Int) (h1 : 0 ≤ IntKind.wrap IntKind.i64 (8 * (↑(List.length l) : Int))) (h2 : IntKind.wrap IntKind.i64 (8 * (↑(List.length l) : Int)) ≤ 1099511627776) (hg : G (mkX Try.prog (tab libc) Try.f199 [Blk.mk t Mode.ro (K.ints IntKind.u64 l)] ρ w r) (s199lst0 t (l) (0) (0) ([]))) : G (mkX Try.prog (tab libc) Try.f199 [Blk.mk t Mode.ro (K.ints IntKind.u64 l)] ρ w r) (cfg [.code (Try.f199.body.getD .skip)] (List.range 3) ([W.c (C.sl 0 0 (List.length l)), W.int IntKind.i64 8, W.c (C.v (Value.func (Fn.func 255) #[] #[]))].map V.w) [Blk.mk t Mode.ro (K.ints IntKind.u64 l)]) :=
  G.seg (X := mkX Try.prog (tab libc) Try.f199 [Blk.mk t Mode.ro (K.ints IntKind.u64 l)] ρ w r) ⟨tab_ok libc_ok, mixed⟩ [] 1000000 0 [1, 2, 7, 16, 17, 18] [(0, none), (21, none)] (k := s199lk0) (vs := [V.int IntKind.i64 8, V.w (W.c (C.v (Value.func (Fn.func 255) #[] #[]))), V.w (W.c (C.own 1)), V.w (W.c (C.sl 0 0 (List.length l))), V.int IntKind.i64 (↑(List.length l) : Int), V.int IntKind.i64 0]) (bs := [Blk.mk t Mode.ro (K.ints IntKind.u64 l), Blk.mk 5 (Mode.own 0) (K.ints IntKind.u8 [])]) (by kernel_rfl) (by kernel_rfl)
    (ocons rfl (ocons (decide_eq_true h1) (ocons (decide_eq_true h2) onil))) hg
theorem s199l_2 {ρ : Env} {w : World} {r : Res} (t : Nat) (l : List Int) (t18h0 : Int) (b1_0h0 : Nat) (b1_1h0 : List Int) (h1 : t18h0 < (↑(List.length l) : Int)) (h2 : 0 ≤ t18h0) (h3 : Int.toNat t18h0 < List.length l) (h4 : (b1_0h0 + 1) * 1 ≤ 1099511627776) (h5 : b1_0h0 + 1 ≤ 1099511627776) (h6 : (b1_0h0 + 1 + 1) * 1 ≤ 1099511627776) (h7 : b1_0h0 + 1 + 1 ≤ 1099511627776) (h8 : (b1_0h0 + 1 + 1 + 1) * 1 ≤ 1099511627776) (h9 : b1_0h0 + 1 + 1 + 1 ≤ 1099511627776) (h10 : (b1_0h0 + 1 + 1 + 1 + 1) * 1 ≤ 1099511627776) (h11 : b1_0h0 + 1 + 1 + 1 + 1 ≤ 1099511627776) (h12 : (b1_0h0 + 1 + 1 + 1 + 1 + 1) * 1 ≤ 1099511627776) (h13 : b1_0h0 + 1 + 1 + 1 + 1 + 1 ≤ 1099511627776) (h14 : (b1_0h0 + 1 + 1 + 1 + 1 + 1 + 1) * 1 ≤ 1099511627776) (h15 : b1_0h0 + 1 + 1 + 1 + 1 + 1 + 1 ≤ 1099511627776) (h16 : (b1_0h0 + 1 + 1 + 1 + 1 + 1 + 1 + 1) * 1 ≤ 1099511627776) (h17 : b1_0h0 + 1 + 1 + 1 + 1 + 1 + 1 + 1 ≤ 1099511627776) (h18 : (b1_0h0 + 1 + 1 + 1 + 1 + 1 + 1 + 1 + 1) * 1 ≤ 1099511627776) (h19 : b1_0h0 + 1 + 1 + 1 + 1 + 1 + 1 + 1 + 1 ≤ 1099511627776) (hg : G (mkX Try.prog (tab libc) Try.f199 [Blk.mk t Mode.ro (K.ints IntKind.u64 l)] ρ w r) (s199lst0 t (l) (IntKind.wrap IntKind.i64 (t18h0 + 1)) (b1_0h0 + 1 + 1 + 1 + 1 + 1 + 1 + 1 + 1) (b1_1h0 ++ [IntKind.wrap IntKind.u8 (Int.fdiv (List.getD l (Int.toNat t18h0) 0) 1)] ++ [IntKind.wrap IntKind.u8 (Int.fdiv (List.getD l (Int.toNat t18h0) 0) 256)] ++ [IntKind.wrap IntKind.u8 (Int.fdiv (List.getD l (Int.toNat t18h0) 0) 65536)] ++ [IntKind.wrap IntKind.u8 (Int.fdiv (List.getD l (Int.toNat t18h0) 0) 16777216)] ++ [IntKind.wrap IntKind.u8 (Int.fdiv (List.getD l (Int.toNat t18h0) 0) 4294967296)] ++ [IntKind.wrap IntKind.u8 (Int.fdiv (List.getD l (Int.toNat t18h0) 0) 1099511627776)] ++ [IntKind.wrap IntKind.u8 (Int.fdiv (List.getD l (Int.toNat t18h0) 0) 281474976710656)] ++ [IntKind.wrap IntKind.u8 (Int.fdiv (List.getD l (Int.toNat t18h0) 0) 72057594037927936)]))) : G (mkX Try.prog (tab libc) Try.f199 [Blk.mk t Mode.ro (K.ints IntKind.u64 l)] ρ w r) (s199lst0 t l t18h0 b1_0h0 b1_1h0) :=
  G.seg (X := mkX Try.prog (tab libc) Try.f199 [Blk.mk t Mode.ro (K.ints IntKind.u64 l)] ρ w r) ⟨tab_ok libc_ok, mixed⟩ [(19, true)] 1000000 9 [1, 2, 7, 16, 17, 18] [(0, none), (522, none)] (k := s199lk0) (vs := [V.int IntKind.i64 8, V.w (W.c (C.v (Value.func (Fn.func 255) #[] #[]))), V.w (W.c (C.own 1)), V.w (W.c (C.sl 0 0 (List.length l))), V.int IntKind.i64 (↑(List.length l) : Int), V.int IntKind.i64 (IntKind.wrap IntKind.i64 (t18h0 + 1))]) (bs := [Blk.mk t Mode.ro (K.ints IntKind.u64 l), Blk.mk 5 (Mode.own (b1_0h0 + 1 + 1 + 1 + 1 + 1 + 1 + 1 + 1)) (K.ints IntKind.u8 (b1_1h0 ++ [IntKind.wrap IntKind.u8 (Int.fdiv (List.getD l (Int.toNat t18h0) 0) 1)] ++ [IntKind.wrap IntKind.u8 (Int.fdiv (List.getD l (Int.toNat t18h0) 0) 256)] ++ [IntKind.wrap IntKind.u8 (Int.fdiv (List.getD l (Int.toNat t18h0) 0) 65536)] ++ [IntKind.wrap IntKind.u8 (Int.fdiv (List.getD l (Int.toNat t18h0) 0) 16777216)] ++ [IntKind.wrap IntKind.u8 (Int.fdiv (List.getD l (Int.toNat t18h0) 0) 4294967296)] ++ [IntKind.wrap IntKind.u8 (Int.fdiv (List.getD l (Int.toNat t18h0) 0) 1099511627776)] ++ [IntKind.wrap IntKind.u8 (Int.fdiv (List.getD l (Int.toNat t18h0) 0) 281474976710656)] ++ [IntKind.wrap IntKind.u8 (Int.fdiv (List.getD l (Int.toNat t18h0) 0) 72057594037927936)]))]) (by kernel_rfl) (by kernel_rfl)
    (ocons (decide_eq_true h1) (ocons (decide_eq_true h2) (ocons (decide_eq_true h1) (ocons (bltT h3) (ocons rfl (ocons (bleT h4) (ocons (bleT h5) (ocons rfl (ocons rfl (ocons (bleT h6) (ocons (bleT h7) (ocons rfl (ocons rfl (ocons (bleT h8) (ocons (bleT h9) (ocons rfl (ocons rfl (ocons (bleT h10) (ocons (bleT h11) (ocons rfl (ocons rfl (ocons (bleT h12) (ocons (bleT h13) (ocons rfl (ocons rfl (ocons (bleT h14) (ocons (bleT h15) (ocons rfl (ocons rfl (ocons (bleT h16) (ocons (bleT h17) (ocons rfl (ocons rfl (ocons (bleT h18) (ocons (bleT h19) (ocons rfl onil)))))))))))))))))))))))))))))))))))) hg
theorem s199l_3 {ρ : Env} {w : World} (t : Nat) (l : List Int) (t18h0 : Int) (b1_0h0 : Nat) (b1_1h0 : List Int) (h1 : ¬t18h0 < (↑(List.length l) : Int)) (h2 : 0 + b1_0h0 ≤ List.length b1_1h0) : G (mkX Try.prog (tab libc) Try.f199 [Blk.mk t Mode.ro (K.ints IntKind.u64 l)] ρ w ⟨V.str (strOf (List.take b1_0h0 b1_1h0)), [], []⟩) (s199lst0 t l t18h0 b1_0h0 b1_1h0) :=
  G.ends (tab_ok libc_ok) mixed [(19, false)] 1000000 [(0, none)] (by kernel_rfl) (by kernel_rfl) (by kernel_rfl) (by kernel_rfl)
    (ocons (ndec h1) (ocons (bleT h2) onil))

theorem s199l (t : Nat) (l : List Int) (h : l.length ≤ 100000000) : Sx.Spec Try.prog 199 [.c (.sl 0 0 l.length), W.int .i64 8, .c (.v (.func (.func 255) #[] #[]))] [⟨t, .ro, .ints .u64 l⟩] ⟨V.str (strOf (l.flatMap (leL 8))), [], []⟩ := by
  have hlen := flat_len 8 (leL 8) (leL_len 8)
  have hm : IntKind.wrap .i64 (8 * (l.length : Int)) = 8 * (l.length : Int) := by rw [i64w] <;> omega
  refine spec_body (tab := tab libc) Try.func199 (by kernel_rfl) (by kernel_rfl) (by kernel_rfl) fun ρ w => ?_
  refine s199l_1 t l (by rw [hm]; omega) (by rw [hm]; omega) ?_
  refine G.loop (fun j => s199lst0 t l (j : Int) (8 * j) ((l.take j).flatMap (leL 8))) l.length (fun j hj hg => ?_) ?_
  · refine s199l_2 t l (j : Int) (8 * j) _ (by omega) (by omega) (by omega) (by omega) (by omega) (by omega) (by omega) (by omega) (by omega) (by omega) (by omega) (by omega) (by omega) (by omega) (by omega) (by omega) (by omega) (by omega) (by omega) ?_
    rw [i64s j (by omega), le8_of, Int.toNat_natCast]
    rw [take_getD l j hj, List.flatMap_append, List.flatMap_singleton] at hg
    exact hg
  · have := s199l_3 (ρ := ρ) (w := w) t l (l.length : Int) (8 * l.length) (l.flatMap (leL 8)) (by omega) (by rw [hlen]; omega)
    rw [List.take_of_length_le (by rw [hlen]; exact Nat.le_refl _)] at this
    show G _ (s199lst0 t l (l.length : Int) (8 * l.length) ((l.take l.length).flatMap (leL 8)))
    rw [List.take_length]
    exact this

def e197 : Entry := fun args ms => match args, ms with
  | [.c (.sl 0 0 n), .c (.v (.int .i64 4)), .c (.fn 254 [(1, 0)])], [⟨t, .ro, .ints .u32 l⟩, ⟨3, .rw, .cs [.v (.int .i64 4)]⟩] => some (⟨V.str (strOf (l.flatMap (beL 4))), [], []⟩, [Nat.beq n l.length, Nat.ble l.length 100000000])
  | _, _ => none
theorem e197_ok : EntryOk Try.prog 197 e197 := by
  intro args ms r obs h ho
  unfold e197 at h
  split at h
  · cases h
    have hn := Nat.beq_eq.mp (ohead ho)
    subst hn
    exact s197 _ _ (by simpa using ohead (otail ho))
  · cases h
def e199h : Entry := fun args ms => match args, ms with
  | [.c (.sl 0 0 n), .c (.v (.int .i64 8)), .c (.fn 254 [(1, 0)])], [⟨t, .ro, .ints .u64 l⟩, ⟨3, .rw, .cs [.v (.int .i64 8)]⟩] => some (⟨V.str (strOf (l.flatMap (beL 8))), [], []⟩, [Nat.beq n l.length, Nat.ble l.length 100000000])
  | _, _ => none
def e199l : Entry := fun args ms => match args, ms with
  | [.c (.sl 0 0 n), .c (.v (.int .i64 8)), .c (.v (.func (.func 255) a b))], [⟨t, .ro, .ints .u64 l⟩] => some (⟨V.str (strOf (l.flatMap (leL 8))), [], []⟩, [Nat.beq n l.length, Nat.ble l.length 100000000, Nat.beq a.size 0, Nat.beq b.size 0])
  | _, _ => none
def orE (F G : Entry) : Entry := fun args ms => match F args ms with
  | some r => some r
  | none => G args ms
theorem orE_ok {P : Program} {f : FuncId} {F G : Entry} (hF : EntryOk P f F) (hG : EntryOk P f G) : EntryOk P f (orE F G) := by
  intro args ms r obs h ho
  unfold orE at h
  split at h
  · rename_i q hq
    cases h
    exact hF args ms r obs hq ho
  · exact hG args ms r obs h ho
theorem e199h_ok : EntryOk Try.prog 199 e199h := by
  intro args ms r obs h ho
  unfold e199h at h
  split at h
  · cases h
    have hn := Nat.beq_eq.mp (ohead ho)
    subst hn
    exact s199h _ _ (by simpa using ohead (otail ho))
  · cases h
theorem e199l_ok : EntryOk Try.prog 199 e199l := by
  intro args ms r obs h ho
  unfold e199l at h
  split at h
  · cases h
    have hn := Nat.beq_eq.mp (ohead ho)
    have ha := Array.eq_empty_of_size_eq_zero (Nat.beq_eq.mp (ohead (otail (otail ho))))
    have hb := Array.eq_empty_of_size_eq_zero (Nat.beq_eq.mp (ohead (otail (otail (otail ho)))))
    subst hn
    subst ha
    subst hb
    exact s199l _ _ (by simpa using ohead (otail ho))
  · cases h
def e199 : Entry := orE e199h e199l
theorem e199_ok : EntryOk Try.prog 199 e199 := orE_ok e199h_ok e199l_ok

def libd : List (Nat × Entry) := [(197, e197), (198, e198), (199, e199), (200, e200)]
theorem libd_ok : AllOk Try.prog libd := .cons e197_ok (.cons e198_ok (.cons e199_ok (.cons e200_ok (.nil _))))
noncomputable def s63k0 : List Item := kAt Try.prog (tab libn) Try.f63 [] 0 [W.c (C.v (Value.string ByteArray.empty))] []
noncomputable def s63st0 (x : ByteArray) (t4 : Int) (b0_0 : Nat) (b0_1 : List Int) : Cfg := cfg s63k0 [0, 3, 4] [V.str x, V.w (W.c (C.own 0)), V.int IntKind.i64 t4] [Blk.mk 5 (Mode.own b0_0) (K.ints IntKind.u8 b0_1)]
theorem s63_1 {ρ : Env} {w : World} {r : Res} (x : ByteArray) (hg : G (mkX Try.prog (tab libn) Try.f63 [] ρ w r) (s63st0 (x) (IntKind.wrap IntKind.i64 ((↑(ByteArray.size x) : Int) - 1)) (0) ([]))) : G (mkX Try.prog (tab libn) Try.f63 [] ρ w r) (cfg [.code (Try.f63.body.getD .skip)] (List.range 1) ([W.c (C.v (Value.string x))].map V.w) []) :=
  G.seg (X := mkX Try.prog (tab libn) Try.f63 [] ρ w r) ⟨tab_ok libn_ok, mixed⟩ [] 1000000 0 [0, 3, 4] [] (k := s63k0) (vs := [V.str x, V.w (W.c (C.v (Value.slice none 0 0))), V.int IntKind.i64 (IntKind.wrap IntKind.i64 ((↑(ByteArray.size x) : Int) - 1))]) (bs := []) (by kernel_rfl) (by kernel_rfl)
    onil (G.nilOwn 1 5 (K.ints IntKind.u8 []) rfl rfl rfl (Nat.le_of_ble_eq_true rfl) hg)
theorem s63_2 {ρ : Env} {w : World} {r : Res} (x : ByteArray) (t4 : Int) (b0_0 : Nat) (b0_1 : List Int) (h1 : t4 ≥ 0) (h2 : 0 ≤ t4) (h3 : t4 < (↑(ByteArray.size x) : Int)) (h4 : (b0_0 + 1) * 1 ≤ 1099511627776) (h5 : b0_0 + 1 ≤ 1099511627776) (hg : G (mkX Try.prog (tab libn) Try.f63 [] ρ w r) (s63st0 (x) (IntKind.wrap IntKind.i64 (t4 - 1)) (b0_0 + 1) (b0_1 ++ [bt x t4]))) : G (mkX Try.prog (tab libn) Try.f63 [] ρ w r) (s63st0 x t4 b0_0 b0_1) :=
  G.seg (X := mkX Try.prog (tab libn) Try.f63 [] ρ w r) ⟨tab_ok libn_ok, mixed⟩ [(9, true)] 1000000 0 [0, 3, 4] [(29, none)] (k := s63k0) (vs := [V.str x, V.w (W.c (C.own 0)), V.int IntKind.i64 (IntKind.wrap IntKind.i64 (t4 - 1))]) (bs := [Blk.mk 5 (Mode.own (b0_0 + 1)) (K.ints IntKind.u8 (b0_1 ++ [bt x t4]))]) (by kernel_rfl) (by kernel_rfl)
    (ocons (decide_eq_true h1) (ocons (decide_eq_true h2) (ocons (decide_eq_true h3) (ocons (bleT h4) (ocons (bleT h5) (ocons rfl onil)))))) hg
theorem s63_3 {ρ : Env} {w : World} (x : ByteArray) (t4 : Int) (b0_0 : Nat) (b0_1 : List Int) (h1 : ¬t4 ≥ 0) (h2 : 0 + b0_0 ≤ List.length b0_1) : G (mkX Try.prog (tab libn) Try.f63 [] ρ w ⟨V.str (strOf (List.take b0_0 b0_1)), [], []⟩) (s63st0 x t4 b0_0 b0_1) :=
  G.ends (tab_ok libn_ok) mixed [(9, false)] 1000000 [] (by kernel_rfl) (by kernel_rfl) (by kernel_rfl) (by kernel_rfl)
    (ocons (ndec h1) (ocons (bleT h2) onil))
noncomputable def s76k0 : List Item := kAt Try.prog (tab libn) Try.f76 [] 0 [W.c (C.v (Value.string ByteArray.empty))] []
noncomputable def s76st0 (x : ByteArray) (t3 : Int) (t4 : Int) : Cfg := cfg s76k0 [0, 3, 4] [V.str x, V.int IntKind.u64 t3, V.int IntKind.i64 t4] []
theorem s76_1 {ρ : Env} {w : World} {r : Res} (x : ByteArray) (hg : G (mkX Try.prog (tab libn) Try.f76 [] ρ w r) (s76st0 (x) (0) (0))) : G (mkX Try.prog (tab libn) Try.f76 [] ρ w r) (cfg [.code (Try.f76.body.getD .skip)] (List.range 1) ([W.c (C.v (Value.string x))].map V.w) []) :=
  G.seg (X := mkX Try.prog (tab libn) Try.f76 [] ρ w r) ⟨tab_ok libn_ok, mixed⟩ [] 1000000 0 [0, 3, 4] [] (k := s76k0) (vs := [V.str x, V.int IntKind.u64 0, V.int IntKind.i64 0]) (bs := []) (by kernel_rfl) (by kernel_rfl)
    onil hg
theorem s76_2 {ρ : Env} {w : World} {r : Res} (x : ByteArray) (t3 : Int) (t4 : Int) (h1 : t4 < (↑(ByteArray.size x) : Int)) (h2 : 0 ≤ t4) (hg : G (mkX Try.prog (tab libn) Try.f76 [] ρ w r) (s76st0 (x) (IntKind.wrap IntKind.u64 (IntKind.wrap IntKind.u64 (t3 * 256) + IntKind.wrap IntKind.u64 (bt x t4))) (IntKind.wrap IntKind.i64 (t4 + 1)))) : G (mkX Try.prog (tab libn) Try.f76 [] ρ w r) (s76st0 x t3 t4) :=
  G.seg (X := mkX Try.prog (tab libn) Try.f76 [] ρ w r) ⟨tab_ok libn_ok, mixed⟩ [(8, true)] 1000000 0 [0, 3, 4] [] (k := s76k0) (vs := [V.str x, V.int IntKind.u64 (IntKind.wrap IntKind.u64 (IntKind.wrap IntKind.u64 (t3 * 256) + IntKind.wrap IntKind.u64 (bt x t4))), V.int IntKind.i64 (IntKind.wrap IntKind.i64 (t4 + 1))]) (bs := []) (by kernel_rfl) (by kernel_rfl)
    (ocons (decide_eq_true h1) (ocons (decide_eq_true h2) (ocons (decide_eq_true h1) onil))) hg
theorem s76_3 {ρ : Env} {w : World} (x : ByteArray) (t3 : Int) (t4 : Int) (h1 : ¬t4 < (↑(ByteArray.size x) : Int)) : G (mkX Try.prog (tab libn) Try.f76 [] ρ w ⟨V.int IntKind.u64 t3, [], []⟩) (s76st0 x t3 t4) :=
  G.ends (tab_ok libn_ok) mixed [(8, false)] 1000000 [] (by kernel_rfl) (by kernel_rfl) (by kernel_rfl) (by kernel_rfl)
    (ocons (ndec h1) onil)
end Go.Proofs.Ytmjejlbmcefaoaa
