/- The law WideBytes: bytes and bits of any number. -/
import Derived.Test.YtmjejlbmcefaoaaWnJ
import Derived.Test.YtmjejlbmcefaoaaHead
namespace Go.Proofs.Ytmjejlbmcefaoaa
open Go Sx Go.ChangeShapes Go.WideShapes Go.ChangeAt Go.RowKit
theorem s18a_1 (a : Nat) (s : ByteArray) (i : Int) (h1 : ¬(↑(ByteArray.size s) : Int) = 32) (h2 : ofE s = 1) (h3 : nn (ofN s) = 0) : Sx.Spec Try.prog 18 [W.agg [C.u a, C.u (a / 18446744073709551616), C.u (a / 340282366920938463463374607431768211456), C.u (a / 6277101735386680763835789423207666416102355444464034512896)], W.c (C.v (Value.string s)), W.int IntKind.i64 i] [] ⟨V.bool true, [], []⟩ :=
  spec_of_whole (tab_ok libJ_ok) mixed Try.func18 [(24, true), (27, true), (31, true)] 1000000 [] (by kernel_rfl) (by kernel_rfl) (by kernel_rfl) (by kernel_rfl) (by kernel_rfl) (by kernel_rfl)
    (ocons rfl (ocons rfl (ocons (bneI h1) (ocons (eqI h2) (ocons (beqT h3) onil)))))
noncomputable def s18bk0 : List Item := kAt Try.prog (tab libJ) Try.f18 [(24, false)] 0 [W.agg [C.u 1, C.u 0, C.u 0, C.u 0], W.c (C.v (Value.string ByteArray.empty)), W.int IntKind.i64 1] []
noncomputable def s18bst0 (a : Nat) (s : ByteArray) (i : Int) (t13 : Int) (t14 : Int) : Cfg := cfg s18bk0 [1, 2, 3, 7, 8, 9, 10, 11, 12, 13, 14] [V.str s, V.int IntKind.i64 i, V.w (W.c (C.ptr 0 0)), V.w (W.c (C.ptr 1 0)), V.w (W.c (C.ptr 2 0)), V.int IntKind.i64 (ofE s), V.w (W.c (C.ptr 3 0)), V.int IntKind.i64 (ofE (bytesN (nn a))), V.w (W.c (C.own 4)), V.int IntKind.i64 t13, V.int IntKind.i64 t14] [Blk.mk 79 Mode.rw (K.cs [C.u a, C.u (a / 18446744073709551616), C.u (a / 340282366920938463463374607431768211456), C.u (a / 6277101735386680763835789423207666416102355444464034512896)]), Blk.mk 80 Mode.rw (K.cs [C.u a, C.u (a / 18446744073709551616), C.u (a / 340282366920938463463374607431768211456), C.u (a / 6277101735386680763835789423207666416102355444464034512896)]), Blk.mk 80 Mode.rw (K.cs [C.u (ofN s), C.u (ofN s / 18446744073709551616), C.u (ofN s / 340282366920938463463374607431768211456), C.u (ofN s / 6277101735386680763835789423207666416102355444464034512896)]), Blk.mk 80 Mode.rw (K.cs [C.u (ofN (bytesN (nn a))), C.u (ofN (bytesN (nn a)) / 18446744073709551616), C.u (ofN (bytesN (nn a)) / 340282366920938463463374607431768211456), C.u (ofN (bytesN (nn a)) / 6277101735386680763835789423207666416102355444464034512896)]), Blk.mk 22 (Mode.own 16) (K.ints IntKind.u64 (lim 16 (nn a)))]
theorem s18b_1 {ρ : Env} {w : World} {r : Res} (a : Nat) (s : ByteArray) (i : Int) (h1 : (↑(ByteArray.size s) : Int) = 32) (hg : G (mkX Try.prog (tab libJ) Try.f18 [] ρ w r) (s18bst0 (a) (s) (i) (0) (0))) : G (mkX Try.prog (tab libJ) Try.f18 [] ρ w r) (cfg [.code (Try.f18.body.getD .skip)] (List.range 3) ([W.agg [C.u a, C.u (a / 18446744073709551616), C.u (a / 340282366920938463463374607431768211456), C.u (a / 6277101735386680763835789423207666416102355444464034512896)], W.c (C.v (Value.string s)), W.int IntKind.i64 i].map V.w) []) :=
  G.seg (X := mkX Try.prog (tab libJ) Try.f18 [] ρ w r) ⟨tab_ok libJ_ok, mixed⟩ [(24, false)] 1000000 0 [1, 2, 3, 7, 8, 9, 10, 11, 12, 13, 14] [(0, none), (12, none), (40, none), (88, none), (104, none)] (k := s18bk0) (vs := [V.str s, V.int IntKind.i64 i, V.w (W.c (C.ptr 0 0)), V.w (W.c (C.ptr 1 0)), V.w (W.c (C.ptr 2 0)), V.int IntKind.i64 (ofE s), V.w (W.c (C.ptr 3 0)), V.int IntKind.i64 (ofE (bytesN (nn a))), V.w (W.c (C.own 4)), V.int IntKind.i64 0, V.int IntKind.i64 0]) (bs := [Blk.mk 79 Mode.rw (K.cs [C.u a, C.u (a / 18446744073709551616), C.u (a / 340282366920938463463374607431768211456), C.u (a / 6277101735386680763835789423207666416102355444464034512896)]), Blk.mk 80 Mode.rw (K.cs [C.u a, C.u (a / 18446744073709551616), C.u (a / 340282366920938463463374607431768211456), C.u (a / 6277101735386680763835789423207666416102355444464034512896)]), Blk.mk 80 Mode.rw (K.cs [C.u (ofN s), C.u (ofN s / 18446744073709551616), C.u (ofN s / 340282366920938463463374607431768211456), C.u (ofN s / 6277101735386680763835789423207666416102355444464034512896)]), Blk.mk 80 Mode.rw (K.cs [C.u (ofN (bytesN (nn a))), C.u (ofN (bytesN (nn a)) / 18446744073709551616), C.u (ofN (bytesN (nn a)) / 340282366920938463463374607431768211456), C.u (ofN (bytesN (nn a)) / 6277101735386680763835789423207666416102355444464034512896)]), Blk.mk 22 (Mode.own 16) (K.ints IntKind.u64 (lim 16 (nn a)))]) (by kernel_rfl) (by kernel_rfl)
    (ocons rfl (ocons rfl (ocons (nbneI h1) (ocons rfl onil)))) hg
theorem s18b_2 {ρ : Env} {w : World} {r : Res} (a : Nat) (s : ByteArray) (i : Int) (t13 : Int) (t14 : Int) (h1 : t14 < 256) (h2 : List.length (lim 16 (nn a)) = 16) (h3 : limOk (lim 16 (nn a)) = true) (h4 : 0 ≤ t14) (h5 : t14 ≤ 16000000000) (h6 : (↑(bitL (lim 16 (nn a)) t14) : Int) = 1) (hg : G (mkX Try.prog (tab libJ) Try.f18 [] ρ w r) (s18bst0 (a) (s) (i) (IntKind.wrap IntKind.i64 (t14 + 1)) (IntKind.wrap IntKind.i64 (t14 + 1)))) : G (mkX Try.prog (tab libJ) Try.f18 [] ρ w r) (s18bst0 a s i t13 t14) :=
  G.seg (X := mkX Try.prog (tab libJ) Try.f18 [] ρ w r) ⟨tab_ok libJ_ok, mixed⟩ [(43, true), (49, true)] 1000000 0 [1, 2, 3, 7, 8, 9, 10, 11, 12, 13, 14] [(0, none), (1, none), (2, none), (3, none), (4, none)] (k := s18bk0) (vs := [V.str s, V.int IntKind.i64 i, V.w (W.c (C.ptr 0 0)), V.w (W.c (C.ptr 1 0)), V.w (W.c (C.ptr 2 0)), V.int IntKind.i64 (ofE s), V.w (W.c (C.ptr 3 0)), V.int IntKind.i64 (ofE (bytesN (nn a))), V.w (W.c (C.own 4)), V.int IntKind.i64 (IntKind.wrap IntKind.i64 (t14 + 1)), V.int IntKind.i64 (IntKind.wrap IntKind.i64 (t14 + 1))]) (bs := [Blk.mk 79 Mode.rw (K.cs [C.u a, C.u (a / 18446744073709551616), C.u (a / 340282366920938463463374607431768211456), C.u (a / 6277101735386680763835789423207666416102355444464034512896)]), Blk.mk 80 Mode.rw (K.cs [C.u a, C.u (a / 18446744073709551616), C.u (a / 340282366920938463463374607431768211456), C.u (a / 6277101735386680763835789423207666416102355444464034512896)]), Blk.mk 80 Mode.rw (K.cs [C.u (ofN s), C.u (ofN s / 18446744073709551616), C.u (ofN s / 340282366920938463463374607431768211456), C.u (ofN s / 6277101735386680763835789423207666416102355444464034512896)]), Blk.mk 80 Mode.rw (K.cs [C.u (ofN (bytesN (nn a))), C.u (ofN (bytesN (nn a)) / 18446744073709551616), C.u (ofN (bytesN (nn a)) / 340282366920938463463374607431768211456), C.u (ofN (bytesN (nn a)) / 6277101735386680763835789423207666416102355444464034512896)]), Blk.mk 22 (Mode.own 16) (K.ints IntKind.u64 (lim 16 (nn a)))]) (by kernel_rfl) (by kernel_rfl)
    (ocons (decide_eq_true h1) (ocons (beqT h2) (ocons h3 (ocons (decide_eq_true h4) (ocons (decide_eq_true h5) (ocons (eqI h6) onil)))))) hg
theorem s18b_3 {ρ : Env} {w : World} {r : Res} (a : Nat) (s : ByteArray) (i : Int) (t13 : Int) (t14 : Int) (h1 : t14 < 256) (h2 : List.length (lim 16 (nn a)) = 16) (h3 : limOk (lim 16 (nn a)) = true) (h4 : 0 ≤ t14) (h5 : t14 ≤ 16000000000) (h6 : ¬(↑(bitL (lim 16 (nn a)) t14) : Int) = 1) (hg : G (mkX Try.prog (tab libJ) Try.f18 [] ρ w r) (s18bst0 (a) (s) (i) (t13) (IntKind.wrap IntKind.i64 (t14 + 1)))) : G (mkX Try.prog (tab libJ) Try.f18 [] ρ w r) (s18bst0 a s i t13 t14) :=
  G.seg (X := mkX Try.prog (tab libJ) Try.f18 [] ρ w r) ⟨tab_ok libJ_ok, mixed⟩ [(43, true), (49, false)] 1000000 0 [1, 2, 3, 7, 8, 9, 10, 11, 12, 13, 14] [(0, none), (1, none), (2, none), (3, none), (4, none)] (k := s18bk0) (vs := [V.str s, V.int IntKind.i64 i, V.w (W.c (C.ptr 0 0)), V.w (W.c (C.ptr 1 0)), V.w (W.c (C.ptr 2 0)), V.int IntKind.i64 (ofE s), V.w (W.c (C.ptr 3 0)), V.int IntKind.i64 (ofE (bytesN (nn a))), V.w (W.c (C.own 4)), V.int IntKind.i64 t13, V.int IntKind.i64 (IntKind.wrap IntKind.i64 (t14 + 1))]) (bs := [Blk.mk 79 Mode.rw (K.cs [C.u a, C.u (a / 18446744073709551616), C.u (a / 340282366920938463463374607431768211456), C.u (a / 6277101735386680763835789423207666416102355444464034512896)]), Blk.mk 80 Mode.rw (K.cs [C.u a, C.u (a / 18446744073709551616), C.u (a / 340282366920938463463374607431768211456), C.u (a / 6277101735386680763835789423207666416102355444464034512896)]), Blk.mk 80 Mode.rw (K.cs [C.u (ofN s), C.u (ofN s / 18446744073709551616), C.u (ofN s / 340282366920938463463374607431768211456), C.u (ofN s / 6277101735386680763835789423207666416102355444464034512896)]), Blk.mk 80 Mode.rw (K.cs [C.u (ofN (bytesN (nn a))), C.u (ofN (bytesN (nn a)) / 18446744073709551616), C.u (ofN (bytesN (nn a)) / 340282366920938463463374607431768211456), C.u (ofN (bytesN (nn a)) / 6277101735386680763835789423207666416102355444464034512896)]), Blk.mk 22 (Mode.own 16) (K.ints IntKind.u64 (lim 16 (nn a)))]) (by kernel_rfl) (by kernel_rfl)
    (ocons (decide_eq_true h1) (ocons (beqT h2) (ocons h3 (ocons (decide_eq_true h4) (ocons (decide_eq_true h5) (ocons (neI h6) onil)))))) hg
theorem s18b_4 {ρ : Env} {w : World} (a : Nat) (s : ByteArray) (i : Int) (t13 : Int) (t14 : Int) (h1 : ¬t14 < 256) (h2 : i ≥ 0) (h3 : i < 256) (h4 : List.length (lim 16 (nn a)) = 16) (h5 : limOk (lim 16 (nn a)) = true) (h6 : 0 ≤ i) (h7 : i ≤ 16000000000) (h8 : ofE s = 0) (h9 : ofE (bytesN (nn a)) = 0) (h10 : eqNs [nn (ofN (bytesN (nn a)))] [nn a] = true) (h11 : bytesN (nn (ofN s)) = s) (h12 : lenI (↑(nn a) : Int) = t13) (h13 : (bif decide (0 ≤ (↑(bitL (lim 16 (nn a)) i) : Int)) then Nat.beq (bitI (nn a) i % 18446744073709551616) (Int.toNat (↑(bitL (lim 16 (nn a)) i) : Int)) else false) = true) (h14 : (Nat.beq (nn a) 0 == (t13 == 0)) = true) (h15 : eqNs [nn (a % 18446744073709551616)] [num4 (a % 18446744073709551616) 0 0 0] = true) : G (mkX Try.prog (tab libJ) Try.f18 [] ρ w ⟨V.bool true, [], []⟩) (s18bst0 a s i t13 t14) :=
  G.ends (tab_ok libJ_ok) mixed [(43, false), (54, true), (57, true), (63, true), (67, true), (72, true), (78, true), (85, true), (91, true), (98, true), (105, true), (114, true)] 1000000 [] (by kernel_rfl) (by kernel_rfl) (by kernel_rfl) (by kernel_rfl)
    (ocons (ndec h1) (ocons (decide_eq_true h2) (ocons (decide_eq_true h3) (ocons (beqT h4) (ocons h5 (ocons (decide_eq_true h6) (ocons (decide_eq_true h7) (ocons (eqI h8) (ocons (eqI h9) (ocons h10 (ocons (eqS_of h11) (ocons (eqS_of (rfl : bytesN (nn a) = bytesN (nn a))) (ocons (eqI h12) (ocons rfl (ocons h13 (ocons h14 (ocons rfl (ocons rfl (ocons rfl (ocons rfl (ocons h15 onil)))))))))))))))))))))
theorem s18b_14 {ρ : Env} {w : World} (a : Nat) (s : ByteArray) (i : Int) (t13 : Int) (t14 : Int) (h1 : ¬t14 < 256) (h2 : i ≥ 0) (h3 : ¬i < 256) (h4 : ofE s = 0) (h5 : ofE (bytesN (nn a)) = 0) (h6 : eqNs [nn (ofN (bytesN (nn a)))] [nn a] = true) (h7 : bytesN (nn (ofN s)) = s) (h8 : lenI (↑(nn a) : Int) = t13) (h9 : (bif true then Nat.beq (bitI (nn a) i % 18446744073709551616) 0 else false) = true) (h10 : (Nat.beq (nn a) 0 == (t13 == 0)) = true) (h11 : eqNs [nn (a % 18446744073709551616)] [num4 (a % 18446744073709551616) 0 0 0] = true) : G (mkX Try.prog (tab libJ) Try.f18 [] ρ w ⟨V.bool true, [], []⟩) (s18bst0 a s i t13 t14) :=
  G.ends (tab_ok libJ_ok) mixed [(43, false), (54, true), (57, false), (63, true), (67, true), (72, true), (78, true), (85, true), (91, true), (98, true), (105, true), (114, true)] 1000000 [] (by kernel_rfl) (by kernel_rfl) (by kernel_rfl) (by kernel_rfl)
    (ocons (ndec h1) (ocons (decide_eq_true h2) (ocons (ndec h3) (ocons (eqI h4) (ocons (eqI h5) (ocons h6 (ocons (eqS_of h7) (ocons (eqS_of (rfl : bytesN (nn a) = bytesN (nn a))) (ocons (eqI h8) (ocons rfl (ocons h9 (ocons h10 (ocons rfl (ocons rfl (ocons rfl (ocons rfl (ocons h11 onil)))))))))))))))))
theorem s18b_24 {ρ : Env} {w : World} (a : Nat) (s : ByteArray) (i : Int) (t13 : Int) (t14 : Int) (h1 : ¬t14 < 256) (h2 : ¬i ≥ 0) (h3 : ofE s = 0) (h4 : ofE (bytesN (nn a)) = 0) (h5 : eqNs [nn (ofN (bytesN (nn a)))] [nn a] = true) (h6 : bytesN (nn (ofN s)) = s) (h7 : lenI (↑(nn a) : Int) = t13) (h8 : (bif true then Nat.beq (bitI (nn a) i % 18446744073709551616) 0 else false) = true) (h9 : (Nat.beq (nn a) 0 == (t13 == 0)) = true) (h10 : eqNs [nn (a % 18446744073709551616)] [num4 (a % 18446744073709551616) 0 0 0] = true) : G (mkX Try.prog (tab libJ) Try.f18 [] ρ w ⟨V.bool true, [], []⟩) (s18bst0 a s i t13 t14) :=
  G.ends (tab_ok libJ_ok) mixed [(43, false), (54, false), (63, true), (67, true), (72, true), (78, true), (85, true), (91, true), (98, true), (105, true), (114, true)] 1000000 [] (by kernel_rfl) (by kernel_rfl) (by kernel_rfl) (by kernel_rfl)
    (ocons (ndec h1) (ocons (ndec h2) (ocons (eqI h3) (ocons (eqI h4) (ocons h5 (ocons (eqS_of h6) (ocons (eqS_of (rfl : bytesN (nn a) = bytesN (nn a))) (ocons (eqI h7) (ocons rfl (ocons h8 (ocons h9 (ocons rfl (ocons rfl (ocons rfl (ocons rfl (ocons h10 onil))))))))))))))))

theorem eq1 {a b : Nat} (h : a = b) : eqNs [a] [b] = true := by
  subst h
  exact Nat.beq_refl a
theorem val16 {a : Nat} (h : a < P256) : valL (lim 16 a) = a := by
  rw [valL_lim]
  exact Nat.mod_eq_of_lt h
theorem lenI_bit {r j : Nat} (h : r < 2 ^ j) : lenI ((2 ^ j + r : Nat) : Int) = ((j + 1 : Nat) : Int) := by
  have hp := Nat.pow_pos (n := j) (show 0 < 2 by decide)
  unfold lenI
  rw [decide_eq_false (by omega)]
  simp only [cond_false, Int.toNat_natCast]
  rw [(Nat.log2_eq_iff (n := 2 ^ j + r) (k := j) (by omega)).2 ⟨by omega, by rw [Nat.pow_succ]; omega⟩]
theorem s18 {a : Nat} (ha : a < P256) (s : ByteArray) (i : Int) : Sx.Spec Try.prog 18 [.agg (numC a), .c (.v (.string s)), W.int .i64 i] [] ⟨V.bool true, [], []⟩ := by
  have na := nn_id ha
  have va := val16 ha
  by_cases hs : s.size = 32
  · refine spec_body (tab := tab libJ) Try.func18 (by kernel_rfl) (by kernel_rfl) (by kernel_rfl) fun ρ w => ?_
    refine s18b_1 a s i (by omega) ?_
    have hz : lenI ((a % 2 ^ 0 : Nat) : Int) = 0 := by rw [Nat.pow_zero, Nat.mod_one]; rfl
    have hgo := G.loop (X := mkX Try.prog (tab libJ) Try.f18 [] ρ w ⟨V.bool true, [], []⟩) (fun j => s18bst0 a s i (lenI ((a % 2 ^ j : Nat) : Int)) (j : Nat)) 256 (fun j hj hg => ?_) ?_
    · rw [hz] at hgo
      exact hgo
    · have hb : bitL (lim 16 (nn a)) (j : Nat) = a / 2 ^ j % 2 := by
        unfold bitL
        rw [na, va, Int.toNat_natCast]
      have hm : a % 2 ^ (j + 1) = a % 2 ^ j + 2 ^ j * (a / 2 ^ j % 2) := by rw [Nat.pow_succ, Nat.mod_mul]
      have hlt := Nat.mod_lt a (Nat.pow_pos (n := j) (show 0 < 2 by decide))
      by_cases h1 : a / 2 ^ j % 2 = 1
      · refine s18b_2 a s i _ _ (by omega) (lim_length _ _) (limOk_lim _ _) (by omega) (by omega) (by rw [hb, h1]; rfl) ?_
        rw [i64s j (by omega)]
        rw [hm, h1, Nat.mul_one, Nat.add_comm, lenI_bit hlt] at hg
        exact hg
      · have h0 : a / 2 ^ j % 2 = 0 := by omega
        refine s18b_3 a s i _ _ (by omega) (lim_length _ _) (limOk_lim _ _) (by omega) (by omega) (by rw [hb, h0]; decide) ?_
        rw [i64s j (by omega)]
        rw [hm, h0, Nat.mul_zero, Nat.add_zero] at hg
        exact hg
    · have hmod : a % 2 ^ 256 = a := Nat.mod_eq_of_lt ha
      rw [hmod]
      have c1 : ofE s = 0 := ofE_32 hs
      have c2 : ofE (bytesN (nn a)) = 0 := ofE_bytesN _
      have c3 : eqNs [nn (ofN (bytesN (nn a)))] [nn a] = true := eq1 (by rw [na, ofN_bytesN ha, na])
      have c4 : bytesN (nn (ofN s)) = s := by rw [nn_id (ofN_lt s), bytesN_ofN hs]
      have c5 : lenI (((nn a : Nat)) : Int) = lenI ((a : Nat) : Int) := by rw [na]
      have c7 : (Nat.beq (nn a) 0 == (lenI ((a : Nat) : Int) == 0)) = true := by
        rw [na]
        by_cases h0 : a = 0
        · subst h0; rfl
        · rw [beq_f h0]
          have : (lenI ((a : Nat) : Int) == 0) = false := by
            unfold lenI
            rw [decide_eq_false (by omega), beq_eq_false_iff_ne]
            simp only [cond_false]
            omega
          rw [this]
          rfl
      have c8 : eqNs [nn (a % 18446744073709551616)] [num4 (a % 18446744073709551616) 0 0 0] = true := eq1 (by
        rw [nn_eq]
        unfold num4
        omega)
      by_cases h0 : i ≥ 0
      · by_cases h1 : i < 256
        · obtain ⟨n, rfl⟩ := nat_of h0
          refine s18b_4 a s n _ _ (by decide) h0 h1 (lim_length _ _) (limOk_lim _ _) h0 (by omega) c1 c2 c3 c4 c5 ?_ c7 c8
          have hb : bitL (lim 16 (nn a)) (n : Nat) = a / 2 ^ n % 2 := by
            unfold bitL
            rw [na, va, Int.toNat_natCast]
          have hlt := Nat.mod_lt (a / 2 ^ n) (show 0 < 2 by decide)
          rw [hb, na, bitI_low (by omega), decide_eq_true (by omega), Int.toNat_natCast, Nat.mod_eq_of_lt (a := a / 2 ^ n % 2) (b := 18446744073709551616) (by omega)]
          exact Nat.beq_refl _
        · refine s18b_14 a s i _ _ (by decide) h0 h1 c1 c2 c3 c4 c5 ?_ c7 c8
          unfold bitI
          rw [decide_eq_false (p := i < 256) h1, Bool.and_false]
          rfl
      · refine s18b_24 a s i _ _ (by decide) h0 c1 c2 c3 c4 c5 ?_ c7 c8
        unfold bitI
        rw [decide_eq_false (p := 0 ≤ i) (by omega), Bool.false_and]
        rfl
  · refine s18a_1 a s i (by omega) (ofE_not hs) ?_
    rw [ofN_not hs]
    rfl

def ks18 : List Kind := [.arr 4 .u64, .str, .int .i64]
theorem open18 : ∀ l, AllIs ks18 l → Sx.Spec Try.prog 18 (allW l 0) (allB l) ⟨V.bool true, [], []⟩ := by
  intro l h
  match l, h with
  | [.arr _ a, .str s, .int _ i], h =>
    obtain ⟨⟨rfl, ha, hwa⟩, hs, ⟨rfl, hi⟩, _⟩ := h
    obtain ⟨x, hx, ix⟩ := arr_num ha hwa
    exact Spec.imps (.cons ix (Imps.refl _)) (s18 hx s i)
set_option maxRecDepth 100000 in
theorem lifted18 (os : Os) (started : os.Started) (H : Type) (enc : TypeId × Value → H) :
    ReturnsInHanded {} Try.checked os 18 .any (Rows.wideBytesSpec.pre6 enc Try.prog Try.f18 Rows.wideBytesRow.domain false) (Rows.wideBytesSpec.post enc Try.prog Try.f18 false true false false) := by
  refine returnsInHanded_of_change (C := Try.checked) (by kernel_rfl) started (by kernel_rfl) Try.func18
    (ChangeSpec.witness6 (enc := enc) (C := Try.checked) false ⟨#[], #[.agg #[.int .u64 0, .int .u64 0, .int .u64 0, .int .u64 0], .string ⟨#[]⟩, .int .i64 0], []⟩ 8 (by kernel_rfl) (by kernel_rfl) (by kernel_rfl) (by kernel_rfl)) ?_
  intro W base args ds gs before hval0 hW hcnd _
  exact law_step (ks := ks18) (tb := 4) laid (by kernel_rfl) (by kernel_rfl) rfl (by kernel_rfl) Try.underlying4 (fun ds hds => by
    match ds, hds with
    | [_, _, _], _ => rfl) open18 hval0 hW
theorem closed18 : joinedFacts Try.prog 18 Try.f18 Rows.wideBytesSpec Rows.wideBytesRow = true :=
  joined rfl rfl rfl rfl (by kernel_rfl) (by kernel_rfl) (by kernel_rfl) (by kernel_rfl) (by kernel_rfl) (by kernel_rfl) (by kernel_rfl) (by kernel_rfl) (by kernel_rfl) (by kernel_rfl) rfl (by kernel_rfl) (by kernel_rfl)
theorem named18 : Try.prog.funcNamed Rows.wideBytesRow.func = some 18 := by kernel_rfl
theorem over18 : Rows.wideBytesRow.holds Try.pinned (OpenSpec.ofChange Rows.wideBytesSpec) :=
  OpenClaim.holds_of_wide 18 Try.f18 rfl rfl rfl rfl rfl rfl rfl ⟨rfl, rfl, rfl, rfl, rfl⟩ rfl rfl rfl rfl rfl named18 Try.func18 closed18
    (of_decide_eq_true (by kernel_rfl)) (by unfold Func.isWrapper; first | (rw [if_pos (by decide +kernel)]; kernel_rfl) | (rw [if_neg (by decide +kernel)]; exact ⟨rfl, rfl⟩))
    (fun os started H enc _ => lifted18 os started H enc)
theorem wideBytes_proved : Rows.WideBytesSaid :=
  over18
#print axioms wideBytes_proved
end Go.Proofs.Ytmjejlbmcefaoaa
