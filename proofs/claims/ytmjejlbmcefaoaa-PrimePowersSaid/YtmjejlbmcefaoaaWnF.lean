/- wide.Mul, Bytes, Of: products; bytes of numbers, and back. -/
import Derived.Test.YtmjejlbmcefaoaaWnE
namespace Go.Proofs.Ytmjejlbmcefaoaa
open Go Sx

def libf0 : List (Nat × Entry) := [(218, e218)]
theorem libf0_ok : AllOk Try.prog libf0 := .cons e218_ok (.nil _)
noncomputable def s89k0 : List Item := kAt Try.prog (tab libf0) Try.f89 [] 0 [W.ints IntKind.u64 [0], W.ints IntKind.u64 [0]] []
noncomputable def s89st0 (l : List Int) (m : List Int) (t13h0 : Int) (b4_0h0 : List Int) : Cfg := cfg s89k0 [2, 3, 4, 5, 6, 13] [V.w (W.c (C.ptr 0 0)), V.w (W.c (C.ptr 1 0)), V.w (W.c (C.ptr 2 0)), V.w (W.c (C.ptr 3 0)), V.w (W.c (C.ptr 4 0)), V.int IntKind.i64 t13h0] [Blk.mk 80 Mode.rw (K.ints IntKind.u64 l), Blk.mk 80 Mode.rw (K.ints IntKind.u64 m), Blk.mk 80 Mode.rw (K.ints IntKind.u64 [0, 0, 0, 0]), Blk.mk 80 Mode.rw (K.ints IntKind.u64 [0, 0, 0, 0]), Blk.mk 211 Mode.rw (K.ints IntKind.u64 b4_0h0)]
noncomputable def s89k1 : List Item := kAt Try.prog (tab libf0) Try.f89 [(14, true)] 1 [W.ints IntKind.u64 [0], W.ints IntKind.u64 [0]] []
noncomputable def s89st1 (l : List Int) (m : List Int) (t8h1 : Int) (t16h1 : Int) (b4_0h1 : List Int) (t13h0 : Int) : Cfg := cfg s89k1 [2, 3, 4, 5, 6, 7, 8, 13, 16] [V.w (W.c (C.ptr 0 0)), V.w (W.c (C.ptr 1 0)), V.w (W.c (C.ptr 2 0)), V.w (W.c (C.ptr 3 0)), V.w (W.c (C.ptr 4 0)), V.int IntKind.i64 t13h0, V.int IntKind.u64 t8h1, V.int IntKind.i64 t13h0, V.int IntKind.i64 t16h1] [Blk.mk 80 Mode.rw (K.ints IntKind.u64 l), Blk.mk 80 Mode.rw (K.ints IntKind.u64 m), Blk.mk 80 Mode.rw (K.ints IntKind.u64 [0, 0, 0, 0]), Blk.mk 80 Mode.rw (K.ints IntKind.u64 [0, 0, 0, 0]), Blk.mk 211 Mode.rw (K.ints IntKind.u64 b4_0h1)]
theorem s89_1 {ρ : Env} {w : World} {r : Res} (l : List Int) (m : List Int) (hg : G (mkX Try.prog (tab libf0) Try.f89 [] ρ w r) (s89st0 (l) (m) (0) ([0, 0, 0, 0, 0, 0, 0, 0]))) : G (mkX Try.prog (tab libf0) Try.f89 [] ρ w r) (cfg [.code (Try.f89.body.getD .skip)] (List.range 2) ([W.ints IntKind.u64 l, W.ints IntKind.u64 m].map V.w) []) :=
  G.seg (X := mkX Try.prog (tab libf0) Try.f89 [] ρ w r) ⟨tab_ok libf0_ok, mixed⟩ [] 1000000 0 [2, 3, 4, 5, 6, 13] [(0, none), (4, none), (8, some IntKind.u64), (12, some IntKind.u64), (16, some IntKind.u64)] (k := s89k0) (vs := [V.w (W.c (C.ptr 0 0)), V.w (W.c (C.ptr 1 0)), V.w (W.c (C.ptr 2 0)), V.w (W.c (C.ptr 3 0)), V.w (W.c (C.ptr 4 0)), V.int IntKind.i64 0]) (bs := [Blk.mk 80 Mode.rw (K.ints IntKind.u64 l), Blk.mk 80 Mode.rw (K.ints IntKind.u64 m), Blk.mk 80 Mode.rw (K.ints IntKind.u64 [0, 0, 0, 0]), Blk.mk 80 Mode.rw (K.ints IntKind.u64 [0, 0, 0, 0]), Blk.mk 211 Mode.rw (K.ints IntKind.u64 [0, 0, 0, 0, 0, 0, 0, 0])]) (by kernel_rfl) (by kernel_rfl)
    onil hg
theorem s89_2 {ρ : Env} {w : World} {r : Res} (l : List Int) (m : List Int) (t13h0 : Int) (b4_0h0 : List Int) (h1 : t13h0 < 4) (hg : G (mkX Try.prog (tab libf0) Try.f89 [] ρ w r) (s89st1 (l) (m) (0) (0) (b4_0h0) (t13h0))) : G (mkX Try.prog (tab libf0) Try.f89 [] ρ w r) (s89st0 l m t13h0 b4_0h0) :=
  G.seg (X := mkX Try.prog (tab libf0) Try.f89 [] ρ w r) ⟨tab_ok libf0_ok, mixed⟩ [(14, true)] 1000000 0 [2, 3, 4, 5, 6, 7, 8, 13, 16] [(0, none), (1, none), (2, none), (3, none), (4, none)] (k := s89k1) (vs := [V.w (W.c (C.ptr 0 0)), V.w (W.c (C.ptr 1 0)), V.w (W.c (C.ptr 2 0)), V.w (W.c (C.ptr 3 0)), V.w (W.c (C.ptr 4 0)), V.int IntKind.i64 t13h0, V.int IntKind.u64 0, V.int IntKind.i64 t13h0, V.int IntKind.i64 0]) (bs := [Blk.mk 80 Mode.rw (K.ints IntKind.u64 l), Blk.mk 80 Mode.rw (K.ints IntKind.u64 m), Blk.mk 80 Mode.rw (K.ints IntKind.u64 [0, 0, 0, 0]), Blk.mk 80 Mode.rw (K.ints IntKind.u64 [0, 0, 0, 0]), Blk.mk 211 Mode.rw (K.ints IntKind.u64 b4_0h0)]) (by kernel_rfl) (by kernel_rfl)
    (ocons (decide_eq_true h1) onil) hg
theorem s89_3 {ρ : Env} {w : World} (l : List Int) (m : List Int) (t13h0 : Int) (b4_0h0 : List Int) (h1 : ¬t13h0 < 4) (h2 : 0 < List.length b4_0h0) (h3 : 1 < List.length b4_0h0) (h4 : 2 < List.length b4_0h0) (h5 : 3 < List.length b4_0h0) (h6 : 4 < List.length b4_0h0) (h7 : 5 < List.length b4_0h0) (h8 : 6 < List.length b4_0h0) (h9 : 7 < List.length b4_0h0) (h10 : 3 < List.length (List.set (List.set (List.set [0, 0, 0, 0] 0 (List.getD b4_0h0 0 0)) 1 (List.getD b4_0h0 1 0)) 2 (List.getD b4_0h0 2 0))) (h11 : 3 < List.length (List.set (List.set (List.set [0, 0, 0, 0] 0 (List.getD b4_0h0 4 0)) 1 (List.getD b4_0h0 5 0)) 2 (List.getD b4_0h0 6 0))) (h12 : 0 < List.length (List.set (List.set (List.set (List.set [0, 0, 0, 0] 0 (List.getD b4_0h0 0 0)) 1 (List.getD b4_0h0 1 0)) 2 (List.getD b4_0h0 2 0)) 3 (List.getD b4_0h0 3 0))) (h13 : 1 < List.length (List.set (List.set (List.set (List.set [0, 0, 0, 0] 0 (List.getD b4_0h0 0 0)) 1 (List.getD b4_0h0 1 0)) 2 (List.getD b4_0h0 2 0)) 3 (List.getD b4_0h0 3 0))) (h14 : 2 < List.length (List.set (List.set (List.set (List.set [0, 0, 0, 0] 0 (List.getD b4_0h0 0 0)) 1 (List.getD b4_0h0 1 0)) 2 (List.getD b4_0h0 2 0)) 3 (List.getD b4_0h0 3 0))) (h15 : 3 < List.length (List.set (List.set (List.set (List.set [0, 0, 0, 0] 0 (List.getD b4_0h0 0 0)) 1 (List.getD b4_0h0 1 0)) 2 (List.getD b4_0h0 2 0)) 3 (List.getD b4_0h0 3 0))) (h16 : 0 < List.length (List.set (List.set (List.set (List.set [0, 0, 0, 0] 0 (List.getD b4_0h0 4 0)) 1 (List.getD b4_0h0 5 0)) 2 (List.getD b4_0h0 6 0)) 3 (List.getD b4_0h0 7 0))) (h17 : 1 < List.length (List.set (List.set (List.set (List.set [0, 0, 0, 0] 0 (List.getD b4_0h0 4 0)) 1 (List.getD b4_0h0 5 0)) 2 (List.getD b4_0h0 6 0)) 3 (List.getD b4_0h0 7 0))) (h18 : 2 < List.length (List.set (List.set (List.set (List.set [0, 0, 0, 0] 0 (List.getD b4_0h0 4 0)) 1 (List.getD b4_0h0 5 0)) 2 (List.getD b4_0h0 6 0)) 3 (List.getD b4_0h0 7 0))) (h19 : 3 < List.length (List.set (List.set (List.set (List.set [0, 0, 0, 0] 0 (List.getD b4_0h0 4 0)) 1 (List.getD b4_0h0 5 0)) 2 (List.getD b4_0h0 6 0)) 3 (List.getD b4_0h0 7 0))) : G (mkX Try.prog (tab libf0) Try.f89 [] ρ w ⟨V.tup [W.agg [C.v (Value.int IntKind.u64 (List.getD (List.set (List.set (List.set (List.set [0, 0, 0, 0] 0 (List.getD b4_0h0 0 0)) 1 (List.getD b4_0h0 1 0)) 2 (List.getD b4_0h0 2 0)) 3 (List.getD b4_0h0 3 0)) 0 0)), C.v (Value.int IntKind.u64 (List.getD (List.set (List.set (List.set (List.set [0, 0, 0, 0] 0 (List.getD b4_0h0 0 0)) 1 (List.getD b4_0h0 1 0)) 2 (List.getD b4_0h0 2 0)) 3 (List.getD b4_0h0 3 0)) 1 0)), C.v (Value.int IntKind.u64 (List.getD (List.set (List.set (List.set (List.set [0, 0, 0, 0] 0 (List.getD b4_0h0 0 0)) 1 (List.getD b4_0h0 1 0)) 2 (List.getD b4_0h0 2 0)) 3 (List.getD b4_0h0 3 0)) 2 0)), C.v (Value.int IntKind.u64 (List.getD (List.set (List.set (List.set (List.set [0, 0, 0, 0] 0 (List.getD b4_0h0 0 0)) 1 (List.getD b4_0h0 1 0)) 2 (List.getD b4_0h0 2 0)) 3 (List.getD b4_0h0 3 0)) 3 0))], W.agg [C.v (Value.int IntKind.u64 (List.getD (List.set (List.set (List.set (List.set [0, 0, 0, 0] 0 (List.getD b4_0h0 4 0)) 1 (List.getD b4_0h0 5 0)) 2 (List.getD b4_0h0 6 0)) 3 (List.getD b4_0h0 7 0)) 0 0)), C.v (Value.int IntKind.u64 (List.getD (List.set (List.set (List.set (List.set [0, 0, 0, 0] 0 (List.getD b4_0h0 4 0)) 1 (List.getD b4_0h0 5 0)) 2 (List.getD b4_0h0 6 0)) 3 (List.getD b4_0h0 7 0)) 1 0)), C.v (Value.int IntKind.u64 (List.getD (List.set (List.set (List.set (List.set [0, 0, 0, 0] 0 (List.getD b4_0h0 4 0)) 1 (List.getD b4_0h0 5 0)) 2 (List.getD b4_0h0 6 0)) 3 (List.getD b4_0h0 7 0)) 2 0)), C.v (Value.int IntKind.u64 (List.getD (List.set (List.set (List.set (List.set [0, 0, 0, 0] 0 (List.getD b4_0h0 4 0)) 1 (List.getD b4_0h0 5 0)) 2 (List.getD b4_0h0 6 0)) 3 (List.getD b4_0h0 7 0)) 3 0))]], [], []⟩) (s89st0 l m t13h0 b4_0h0) :=
  G.ends (tab_ok libf0_ok) mixed [(14, false)] 1000000 [] (by kernel_rfl) (by kernel_rfl) (by kernel_rfl) (by kernel_rfl)
    (ocons (ndec h1) (ocons rfl (ocons rfl (ocons rfl (ocons rfl (ocons rfl (ocons (bltT h2) (ocons (bltT h3) (ocons (bltT h4) (ocons (bltT h5) (ocons rfl (ocons rfl (ocons rfl (ocons rfl (ocons rfl (ocons (bltT h6) (ocons (bltT h7) (ocons (bltT h8) (ocons (bltT h9) (ocons rfl (ocons rfl (ocons rfl (ocons rfl (ocons (bltT h10) (ocons rfl (ocons rfl (ocons rfl (ocons rfl (ocons (bltT h11) (ocons (bltT h12) (ocons (bltT h13) (ocons (bltT h14) (ocons (bltT h15) (ocons (bltT h16) (ocons (bltT h17) (ocons (bltT h18) (ocons (bltT h19) onil)))))))))))))))))))))))))))))))))))))
theorem s89_4 {ρ : Env} {w : World} {r : Res} (l : List Int) (m : List Int) (t8h1 : Int) (t16h1 : Int) (b4_0h1 : List Int) (t13h0 : Int) (h1 : t16h1 < 4) (h2 : 0 ≤ t13h0) (h3 : t13h0 < 4) (h4 : Int.toNat t13h0 < List.length l) (h5 : 0 ≤ t16h1) (h6 : Int.toNat t16h1 < List.length m) (h7 : w64 (List.getD l (Int.toNat t13h0) 0) = true) (h8 : w64 (List.getD m (Int.toNat t16h1) 0) = true) (h9 : 0 ≤ IntKind.wrap IntKind.i64 (t13h0 + t16h1)) (h10 : IntKind.wrap IntKind.i64 (t13h0 + t16h1) < 8) (h11 : Int.toNat (IntKind.wrap IntKind.i64 (t13h0 + t16h1)) < List.length b4_0h1) (h12 : Int.toNat (IntKind.wrap IntKind.i64 (t13h0 + t16h1)) + 0 < List.length b4_0h1) (hg : G (mkX Try.prog (tab libf0) Try.f89 [] ρ w r) (s89st1 (l) (m) (IntKind.wrap IntKind.u64 (IntKind.wrap IntKind.u64 (List.getD l (Int.toNat t13h0) 0 * List.getD m (Int.toNat t16h1) 0 / 18446744073709551616 + addC (List.getD l (Int.toNat t13h0) 0 * List.getD m (Int.toNat t16h1) 0 % 18446744073709551616) (List.getD b4_0h1 (Int.toNat (IntKind.wrap IntKind.i64 (t13h0 + t16h1))) 0) 0) + addC (addS (List.getD l (Int.toNat t13h0) 0 * List.getD m (Int.toNat t16h1) 0 % 18446744073709551616) (List.getD b4_0h1 (Int.toNat (IntKind.wrap IntKind.i64 (t13h0 + t16h1))) 0) 0) t8h1 0)) (IntKind.wrap IntKind.i64 (t16h1 + 1)) (List.set b4_0h1 (Int.toNat (IntKind.wrap IntKind.i64 (t13h0 + t16h1)) + 0) (addS (addS (List.getD l (Int.toNat t13h0) 0 * List.getD m (Int.toNat t16h1) 0 % 18446744073709551616) (List.getD b4_0h1 (Int.toNat (IntKind.wrap IntKind.i64 (t13h0 + t16h1))) 0) 0) t8h1 0)) (t13h0))) : G (mkX Try.prog (tab libf0) Try.f89 [] ρ w r) (s89st1 l m t8h1 t16h1 b4_0h1 t13h0) :=
  G.seg (X := mkX Try.prog (tab libf0) Try.f89 [] ρ w r) ⟨tab_ok libf0_ok, mixed⟩ [(17, true)] 1000000 0 [2, 3, 4, 5, 6, 7, 8, 13, 16] [(0, none), (1, none), (2, none), (3, none), (4, none)] (k := s89k1) (vs := [V.w (W.c (C.ptr 0 0)), V.w (W.c (C.ptr 1 0)), V.w (W.c (C.ptr 2 0)), V.w (W.c (C.ptr 3 0)), V.w (W.c (C.ptr 4 0)), V.int IntKind.i64 t13h0, V.int IntKind.u64 (IntKind.wrap IntKind.u64 (IntKind.wrap IntKind.u64 (List.getD l (Int.toNat t13h0) 0 * List.getD m (Int.toNat t16h1) 0 / 18446744073709551616 + addC (List.getD l (Int.toNat t13h0) 0 * List.getD m (Int.toNat t16h1) 0 % 18446744073709551616) (List.getD b4_0h1 (Int.toNat (IntKind.wrap IntKind.i64 (t13h0 + t16h1))) 0) 0) + addC (addS (List.getD l (Int.toNat t13h0) 0 * List.getD m (Int.toNat t16h1) 0 % 18446744073709551616) (List.getD b4_0h1 (Int.toNat (IntKind.wrap IntKind.i64 (t13h0 + t16h1))) 0) 0) t8h1 0)), V.int IntKind.i64 t13h0, V.int IntKind.i64 (IntKind.wrap IntKind.i64 (t16h1 + 1))]) (bs := [Blk.mk 80 Mode.rw (K.ints IntKind.u64 l), Blk.mk 80 Mode.rw (K.ints IntKind.u64 m), Blk.mk 80 Mode.rw (K.ints IntKind.u64 [0, 0, 0, 0]), Blk.mk 80 Mode.rw (K.ints IntKind.u64 [0, 0, 0, 0]), Blk.mk 211 Mode.rw (K.ints IntKind.u64 (List.set b4_0h1 (Int.toNat (IntKind.wrap IntKind.i64 (t13h0 + t16h1)) + 0) (addS (addS (List.getD l (Int.toNat t13h0) 0 * List.getD m (Int.toNat t16h1) 0 % 18446744073709551616) (List.getD b4_0h1 (Int.toNat (IntKind.wrap IntKind.i64 (t13h0 + t16h1))) 0) 0) t8h1 0)))]) (by kernel_rfl) (by kernel_rfl)
    (ocons (decide_eq_true h1) (ocons (decide_eq_true h2) (ocons (decide_eq_true h3) (ocons (bltT h4) (ocons (decide_eq_true h5) (ocons (decide_eq_true h1) (ocons (bltT h6) (ocons h7 (ocons h8 (ocons (decide_eq_true h9) (ocons (decide_eq_true h10) (ocons (bltT h11) (ocons rfl (ocons rfl (ocons (decide_eq_true h9) (ocons (decide_eq_true h10) (ocons rfl (ocons (bltT h12) onil)))))))))))))))))) hg
theorem s89_5 {ρ : Env} {w : World} {r : Res} (l : List Int) (m : List Int) (t8h1 : Int) (t16h1 : Int) (b4_0h1 : List Int) (t13h0 : Int) (h1 : ¬t16h1 < 4) (h2 : 0 ≤ IntKind.wrap IntKind.i64 (t13h0 + 4)) (h3 : IntKind.wrap IntKind.i64 (t13h0 + 4) < 8) (h4 : Int.toNat (IntKind.wrap IntKind.i64 (t13h0 + 4)) + 0 < List.length b4_0h1) (hg : G (mkX Try.prog (tab libf0) Try.f89 [] ρ w r) (s89st0 (l) (m) (IntKind.wrap IntKind.i64 (t13h0 + 1)) (List.set b4_0h1 (Int.toNat (IntKind.wrap IntKind.i64 (t13h0 + 4)) + 0) t8h1))) : G (mkX Try.prog (tab libf0) Try.f89 [] ρ w r) (s89st1 l m t8h1 t16h1 b4_0h1 t13h0) :=
  G.seg (X := mkX Try.prog (tab libf0) Try.f89 [] ρ w r) ⟨tab_ok libf0_ok, mixed⟩ [(17, false)] 1000000 0 [2, 3, 4, 5, 6, 13] [(0, none), (1, none), (2, none), (3, none), (4, none)] (k := s89k0) (vs := [V.w (W.c (C.ptr 0 0)), V.w (W.c (C.ptr 1 0)), V.w (W.c (C.ptr 2 0)), V.w (W.c (C.ptr 3 0)), V.w (W.c (C.ptr 4 0)), V.int IntKind.i64 (IntKind.wrap IntKind.i64 (t13h0 + 1))]) (bs := [Blk.mk 80 Mode.rw (K.ints IntKind.u64 l), Blk.mk 80 Mode.rw (K.ints IntKind.u64 m), Blk.mk 80 Mode.rw (K.ints IntKind.u64 [0, 0, 0, 0]), Blk.mk 80 Mode.rw (K.ints IntKind.u64 [0, 0, 0, 0]), Blk.mk 211 Mode.rw (K.ints IntKind.u64 (List.set b4_0h1 (Int.toNat (IntKind.wrap IntKind.i64 (t13h0 + 4)) + 0) t8h1))]) (by kernel_rfl) (by kernel_rfl)
    (ocons (ndec h1) (ocons (decide_eq_true h2) (ocons (decide_eq_true h3) (ocons rfl (ocons (bltT h4) onil))))) hg

noncomputable def s97k0 : List Item := kAt Try.prog (tab libn) Try.f97 [] 0 [W.ints IntKind.u64 [0]] []
noncomputable def s97st0 (l : List Int) (t8 : Int) (b1_1 : List Int) : Cfg := cfg s97k0 [1, 3, 7, 8] [V.w (W.c (C.ptr 0 0)), V.w (W.c (C.own 1)), V.int IntKind.i64 32, V.int IntKind.i64 t8] [Blk.mk 80 Mode.rw (K.ints IntKind.u64 l), Blk.mk 5 (Mode.own 32) (K.ints IntKind.u8 b1_1)]
theorem s97_1 {ρ : Env} {w : World} {r : Res} (l : List Int) (hg : G (mkX Try.prog (tab libn) Try.f97 [] ρ w r) (s97st0 (l) (0) (List.replicate 32 0))) : G (mkX Try.prog (tab libn) Try.f97 [] ρ w r) (cfg [.code (Try.f97.body.getD .skip)] (List.range 1) ([W.ints IntKind.u64 l].map V.w) []) :=
  G.seg (X := mkX Try.prog (tab libn) Try.f97 [] ρ w r) ⟨tab_ok libn_ok, mixed⟩ [] 1000000 0 [1, 3, 7, 8] [(0, none), (8, none)] (k := s97k0) (vs := [V.w (W.c (C.ptr 0 0)), V.w (W.c (C.own 1)), V.int IntKind.i64 32, V.int IntKind.i64 0]) (bs := [Blk.mk 80 Mode.rw (K.ints IntKind.u64 l), Blk.mk 5 (Mode.own 32) (K.ints IntKind.u8 (List.replicate 32 0))]) (by kernel_rfl) (by kernel_rfl)
    (ocons rfl (ocons rfl (ocons rfl onil))) hg
theorem s97_2 {ρ : Env} {w : World} {r : Res} (l : List Int) (t8 : Int) (b1_1 : List Int) (h1 : t8 < 32) (h2 : 0 ≤ IntKind.wrap IntKind.i64 (Int.tdiv t8 8)) (h3 : IntKind.wrap IntKind.i64 (Int.tdiv t8 8) < 4) (h4 : Int.toNat (IntKind.wrap IntKind.i64 (Int.tdiv t8 8)) < List.length l) (h5 : 0 ≤ IntKind.wrap IntKind.i64 (8 * Int.tmod t8 8)) (h6 : 0 ≤ t8) (h7 : Int.toNat t8 + 0 < List.length b1_1) (hg : G (mkX Try.prog (tab libn) Try.f97 [] ρ w r) (s97st0 (l) (IntKind.wrap IntKind.i64 (t8 + 1)) (List.set b1_1 (Int.toNat t8 + 0) (IntKind.wrap IntKind.u8 (Int.fdiv (List.getD l (Int.toNat (IntKind.wrap IntKind.i64 (Int.tdiv t8 8))) 0) (2 ^ min (Int.toNat (IntKind.wrap IntKind.i64 (8 * Int.tmod t8 8))) 64)))))) : G (mkX Try.prog (tab libn) Try.f97 [] ρ w r) (s97st0 l t8 b1_1) :=
  G.seg (X := mkX Try.prog (tab libn) Try.f97 [] ρ w r) ⟨tab_ok libn_ok, mixed⟩ [(9, true)] 1000000 0 [1, 3, 7, 8] [(0, none), (1, none)] (k := s97k0) (vs := [V.w (W.c (C.ptr 0 0)), V.w (W.c (C.own 1)), V.int IntKind.i64 32, V.int IntKind.i64 (IntKind.wrap IntKind.i64 (t8 + 1))]) (bs := [Blk.mk 80 Mode.rw (K.ints IntKind.u64 l), Blk.mk 5 (Mode.own 32) (K.ints IntKind.u8 (List.set b1_1 (Int.toNat t8 + 0) (IntKind.wrap IntKind.u8 (Int.fdiv (List.getD l (Int.toNat (IntKind.wrap IntKind.i64 (Int.tdiv t8 8))) 0) (2 ^ min (Int.toNat (IntKind.wrap IntKind.i64 (8 * Int.tmod t8 8))) 64)))))]) (by kernel_rfl) (by kernel_rfl)
    (ocons (decide_eq_true h1) (ocons rfl (ocons (decide_eq_true h2) (ocons (decide_eq_true h3) (ocons (bltT h4) (ocons rfl (ocons (decide_eq_true h5) (ocons (decide_eq_true h6) (ocons (decide_eq_true h1) (ocons rfl (ocons (bltT h7) onil))))))))))) hg
theorem s97_3 {ρ : Env} {w : World} (l : List Int) (t8 : Int) (b1_1 : List Int) (h1 : ¬t8 < 32) (h2 : 32 ≤ List.length b1_1) : G (mkX Try.prog (tab libn) Try.f97 [] ρ w ⟨V.str (strOf (List.take 32 (List.drop 0 b1_1))), [], []⟩) (s97st0 l t8 b1_1) :=
  G.ends (tab_ok libn_ok) mixed [(9, false)] 1000000 [] (by kernel_rfl) (by kernel_rfl) (by kernel_rfl) (by kernel_rfl)
    (ocons (ndec h1) (ocons (bleT h2) onil))

noncomputable def s96k0 : List Item := kAt Try.prog (tab libn) Try.f96 [(8, false)] 0 [W.c (C.v (Value.string ByteArray.empty))] []
noncomputable def s96st0 (s : ByteArray) (t10 : Int) (b1_0 : List Int) : Cfg := cfg s96k0 [0, 2, 4, 10] [V.str s, V.w (W.c (C.ptr 0 0)), V.w (W.c (C.ptr 1 0)), V.int IntKind.i64 t10] [Blk.mk 80 Mode.rw (K.ints IntKind.u64 [0, 0, 0, 0]), Blk.mk 80 Mode.rw (K.ints IntKind.u64 b1_0)]
theorem s96_1 (s : ByteArray) (h1 : ¬(↑(ByteArray.size s) : Int) = 32) : Sx.Spec Try.prog 96 [W.c (C.v (Value.string s))] [] ⟨V.tup [W.agg [C.u 0, C.u 0, C.u 0, C.u 0], W.int IntKind.i64 1], [], []⟩ :=
  spec_of_whole (tab_ok libn_ok) mixed Try.func96 [(8, true)] 1000000 [] (by kernel_rfl) (by kernel_rfl) (by kernel_rfl) (by kernel_rfl) (by kernel_rfl) (by kernel_rfl)
    (ocons (bneI h1) (ocons rfl onil))
theorem s96_2 {ρ : Env} {w : World} {r : Res} (s : ByteArray) (h1 : (↑(ByteArray.size s) : Int) = 32) (hg : G (mkX Try.prog (tab libn) Try.f96 [] ρ w r) (s96st0 (s) (0) ([0, 0, 0, 0]))) : G (mkX Try.prog (tab libn) Try.f96 [] ρ w r) (cfg [.code (Try.f96.body.getD .skip)] (List.range 1) ([W.c (C.v (Value.string s))].map V.w) []) :=
  G.seg (X := mkX Try.prog (tab libn) Try.f96 [] ρ w r) ⟨tab_ok libn_ok, mixed⟩ [(8, false)] 1000000 0 [0, 2, 4, 10] [(0, some IntKind.u64), (8, some IntKind.u64)] (k := s96k0) (vs := [V.str s, V.w (W.c (C.ptr 0 0)), V.w (W.c (C.ptr 1 0)), V.int IntKind.i64 0]) (bs := [Blk.mk 80 Mode.rw (K.ints IntKind.u64 [0, 0, 0, 0]), Blk.mk 80 Mode.rw (K.ints IntKind.u64 [0, 0, 0, 0])]) (by kernel_rfl) (by kernel_rfl)
    (ocons (nbneI h1) onil) hg
theorem s96_3 {ρ : Env} {w : World} {r : Res} (s : ByteArray) (t10 : Int) (b1_0 : List Int) (h1 : t10 < 32) (h2 : 0 ≤ IntKind.wrap IntKind.i64 (Int.tdiv t10 8)) (h3 : IntKind.wrap IntKind.i64 (Int.tdiv t10 8) < 4) (h4 : Int.toNat (IntKind.wrap IntKind.i64 (Int.tdiv t10 8)) < List.length b1_0) (h5 : 0 ≤ t10) (h6 : t10 < (↑(ByteArray.size s) : Int)) (h7 : 0 ≤ IntKind.wrap IntKind.i64 (8 * Int.tmod t10 8)) (h8 : Int.toNat (IntKind.wrap IntKind.i64 (Int.tdiv t10 8)) + 0 < List.length b1_0) (hg : G (mkX Try.prog (tab libn) Try.f96 [] ρ w r) (s96st0 (s) (IntKind.wrap IntKind.i64 (t10 + 1)) (List.set b1_0 (Int.toNat (IntKind.wrap IntKind.i64 (Int.tdiv t10 8)) + 0) (orI IntKind.u64 (List.getD b1_0 (Int.toNat (IntKind.wrap IntKind.i64 (Int.tdiv t10 8))) 0) (shl IntKind.u64 (IntKind.wrap IntKind.u64 (bt s t10)) (IntKind.wrap IntKind.i64 (8 * Int.tmod t10 8))))))) : G (mkX Try.prog (tab libn) Try.f96 [] ρ w r) (s96st0 s t10 b1_0) :=
  G.seg (X := mkX Try.prog (tab libn) Try.f96 [] ρ w r) ⟨tab_ok libn_ok, mixed⟩ [(11, true)] 1000000 0 [0, 2, 4, 10] [(0, none), (1, none)] (k := s96k0) (vs := [V.str s, V.w (W.c (C.ptr 0 0)), V.w (W.c (C.ptr 1 0)), V.int IntKind.i64 (IntKind.wrap IntKind.i64 (t10 + 1))]) (bs := [Blk.mk 80 Mode.rw (K.ints IntKind.u64 [0, 0, 0, 0]), Blk.mk 80 Mode.rw (K.ints IntKind.u64 (List.set b1_0 (Int.toNat (IntKind.wrap IntKind.i64 (Int.tdiv t10 8)) + 0) (orI IntKind.u64 (List.getD b1_0 (Int.toNat (IntKind.wrap IntKind.i64 (Int.tdiv t10 8))) 0) (shl IntKind.u64 (IntKind.wrap IntKind.u64 (bt s t10)) (IntKind.wrap IntKind.i64 (8 * Int.tmod t10 8))))))]) (by kernel_rfl) (by kernel_rfl)
    (ocons (decide_eq_true h1) (ocons rfl (ocons (decide_eq_true h2) (ocons (decide_eq_true h3) (ocons (bltT h4) (ocons (decide_eq_true h5) (ocons (decide_eq_true h6) (ocons rfl (ocons (decide_eq_true h7) (ocons (decide_eq_true h2) (ocons (decide_eq_true h3) (ocons rfl (ocons (bltT h8) onil))))))))))))) hg
theorem s96_4 {ρ : Env} {w : World} (s : ByteArray) (t10 : Int) (b1_0 : List Int) (h1 : ¬t10 < 32) (h2 : 0 < List.length b1_0) (h3 : 1 < List.length b1_0) (h4 : 2 < List.length b1_0) (h5 : 3 < List.length b1_0) (h6 : 3 < List.length (List.set (List.set (List.set [0, 0, 0, 0] 0 (List.getD b1_0 0 0)) 1 (List.getD b1_0 1 0)) 2 (List.getD b1_0 2 0))) (h7 : 0 < List.length (List.set (List.set (List.set (List.set [0, 0, 0, 0] 0 (List.getD b1_0 0 0)) 1 (List.getD b1_0 1 0)) 2 (List.getD b1_0 2 0)) 3 (List.getD b1_0 3 0))) (h8 : 1 < List.length (List.set (List.set (List.set (List.set [0, 0, 0, 0] 0 (List.getD b1_0 0 0)) 1 (List.getD b1_0 1 0)) 2 (List.getD b1_0 2 0)) 3 (List.getD b1_0 3 0))) (h9 : 2 < List.length (List.set (List.set (List.set (List.set [0, 0, 0, 0] 0 (List.getD b1_0 0 0)) 1 (List.getD b1_0 1 0)) 2 (List.getD b1_0 2 0)) 3 (List.getD b1_0 3 0))) (h10 : 3 < List.length (List.set (List.set (List.set (List.set [0, 0, 0, 0] 0 (List.getD b1_0 0 0)) 1 (List.getD b1_0 1 0)) 2 (List.getD b1_0 2 0)) 3 (List.getD b1_0 3 0))) : G (mkX Try.prog (tab libn) Try.f96 [] ρ w ⟨V.tup [W.agg [C.v (Value.int IntKind.u64 (List.getD (List.set (List.set (List.set (List.set [0, 0, 0, 0] 0 (List.getD b1_0 0 0)) 1 (List.getD b1_0 1 0)) 2 (List.getD b1_0 2 0)) 3 (List.getD b1_0 3 0)) 0 0)), C.v (Value.int IntKind.u64 (List.getD (List.set (List.set (List.set (List.set [0, 0, 0, 0] 0 (List.getD b1_0 0 0)) 1 (List.getD b1_0 1 0)) 2 (List.getD b1_0 2 0)) 3 (List.getD b1_0 3 0)) 1 0)), C.v (Value.int IntKind.u64 (List.getD (List.set (List.set (List.set (List.set [0, 0, 0, 0] 0 (List.getD b1_0 0 0)) 1 (List.getD b1_0 1 0)) 2 (List.getD b1_0 2 0)) 3 (List.getD b1_0 3 0)) 2 0)), C.v (Value.int IntKind.u64 (List.getD (List.set (List.set (List.set (List.set [0, 0, 0, 0] 0 (List.getD b1_0 0 0)) 1 (List.getD b1_0 1 0)) 2 (List.getD b1_0 2 0)) 3 (List.getD b1_0 3 0)) 3 0))], W.int IntKind.i64 0], [], []⟩) (s96st0 s t10 b1_0) :=
  G.ends (tab_ok libn_ok) mixed [(11, false)] 1000000 [] (by kernel_rfl) (by kernel_rfl) (by kernel_rfl) (by kernel_rfl)
    (ocons (ndec h1) (ocons (bltT h2) (ocons (bltT h3) (ocons (bltT h4) (ocons (bltT h5) (ocons rfl (ocons rfl (ocons rfl (ocons rfl (ocons (bltT h6) (ocons (bltT h7) (ocons (bltT h8) (ocons (bltT h9) (ocons (bltT h10) onil))))))))))))))


/-- the number of words in a row. -/
def wv : List Int → Int
  | [] => 0
  | a :: l => a + 18446744073709551616 * wv l
theorem wv_set : ∀ (l : List Int) (j : Nat) (x : Int), j < l.length → wv (l.set j x) = wv l + (x - l.getD j 0) * 18446744073709551616 ^ j
  | [], j, x, h => by simp at h
  | a :: l, 0, x, h => by simp [wv]; omega
  | a :: l, j + 1, x, h => by
    have ih := wv_set l j x (by simpa using h)
    simp only [List.set_cons_succ, wv, ih, List.getD_cons_succ, Int.pow_succ]
    grind
theorem getD_set (l : List Int) (j i : Nat) (x : Int) (hj : j < l.length) : (l.set j x).getD i 0 = if i = j then x else l.getD i 0 := by
  by_cases h : i = j
  · subst h; simp [List.getD, hj]
  · simp [List.getD, Ne.symm h, h]
def lowW (n k : Nat) : Int := ((n % 18446744073709551616 ^ k : Nat) : Int)
theorem lowW_succ (n k : Nat) : lowW n (k + 1) = lowW n k + wd n k * 18446744073709551616 ^ k := by
  unfold lowW wd
  have : n % 18446744073709551616 ^ (k + 1) = n % 18446744073709551616 ^ k + 18446744073709551616 ^ k * (n / 18446744073709551616 ^ k % 18446744073709551616) := by rw [Nat.pow_succ]; exact Nat.mod_mul
  rw [this]
  simp only [Int.natCast_add, Int.natCast_mul, Int.natCast_pow]
  grind
theorem wrow_get (n i : Nat) (h : i < 4) : (wrow n).getD i 0 = wd n i := by
  match i, h with
  | 0, _ => rfl
  | 1, _ => rfl
  | 2, _ => rfl
  | 3, _ => rfl
structure MInv (a b i k : Nat) (row : List Int) (o : Int) : Prop where
  len : row.length = 8
  rng : ∀ j, 0 ≤ row.getD j 0 ∧ row.getD j 0 < 18446744073709551616
  zer : ∀ j, i + 4 ≤ j → row.getD j 0 = 0
  o0 : 0 ≤ o
  o1 : o < 18446744073709551616
  val : wv row + o * 18446744073709551616 ^ (i + k) = lowW a i * b + wd a i * 18446744073709551616 ^ i * lowW b k
theorem MInv.turn {a b i k : Nat} {row : List Int} {o w' o' : Int} (h : MInv a b i k row o) (hi : i < 4) (hk : k < 4) (hw : 0 ≤ w' ∧ w' < 18446744073709551616) (ho : 0 ≤ o' ∧ o' < 18446744073709551616) (e : w' + 18446744073709551616 * o' = wd a i * wd b k + row.getD (i + k) 0 + o) :
    MInv a b i (k + 1) (row.set (i + k) w') o' where
  len := by simp [h.len]
  rng := fun j => by
    rw [getD_set _ _ _ _ (by rw [h.len]; omega)]
    split
    · exact hw
    · exact h.rng j
  zer := fun j hj => by
    rw [getD_set _ _ _ _ (by rw [h.len]; omega), if_neg (by omega)]
    exact h.zer j hj
  o0 := ho.1
  o1 := ho.2
  val := by
    have hv := h.val
    rw [wv_set _ _ _ (by rw [h.len]; omega), lowW_succ, ← Nat.add_assoc, Int.pow_succ]
    rw [Int.pow_add] at hv ⊢
    generalize (18446744073709551616 : Int) ^ i = p at *
    generalize (18446744073709551616 : Int) ^ k = q at *
    generalize wv row = v at *
    generalize row.getD (i + k) 0 = x at *
    generalize lowW a i * (b : Int) = A at *
    generalize wd a i = ai at *
    generalize wd b k = bk at *
    generalize lowW b k = B at *
    grind
theorem mul_lt {x y w o : Int} (hx : 0 ≤ x ∧ x < 18446744073709551616) (hy : 0 ≤ y ∧ y < 18446744073709551616) (hw : 0 ≤ w ∧ w < 18446744073709551616) (ho : 0 ≤ o ∧ o < 18446744073709551616) : 0 ≤ x * y ∧ x * y + w + o < 18446744073709551616 * 18446744073709551616 := by
  have h0 := Int.mul_nonneg hx.1 hy.1
  have h1 := Int.mul_le_mul (show x ≤ 18446744073709551616 - 1 by omega) (show y ≤ 18446744073709551616 - 1 by omega) hy.1 (by omega)
  omega
theorem mul_parts {x y w o : Int} (hx : 0 ≤ x ∧ x < 18446744073709551616) (hy : 0 ≤ y ∧ y < 18446744073709551616) (hw : 0 ≤ w ∧ w < 18446744073709551616) (ho : 0 ≤ o ∧ o < 18446744073709551616) :
    addS (addS (x * y % 18446744073709551616) w 0) o 0 = (x * y + w + o) % 18446744073709551616 ∧
    IntKind.wrap .u64 (IntKind.wrap .u64 (x * y / 18446744073709551616 + addC (x * y % 18446744073709551616) w 0) + addC (addS (x * y % 18446744073709551616) w 0) o 0) = (x * y + w + o) / 18446744073709551616 := by
  obtain ⟨h0, h1⟩ := mul_lt hx hy hw ho
  generalize x * y = p at *
  rw [addS_eq (x := p % 18446744073709551616) (by omega) hw.1 (by omega), addC_eq (x := p % 18446744073709551616) (by omega) hw.1 (by omega)]
  rw [addS_eq (by omega) ho.1 (by omega), addC_eq (by omega) ho.1 (by omega), wU, wU]
  omega
theorem s89n {a b : Nat} (ha : a < P256) (hb : b < P256) : Sx.Spec Try.prog 89 [.agg (numC a), .agg (numC b)] [] (r89 [a, b]) := by
  refine Spec.imps (imps2r a b) ?_
  refine spec_body (tab := tab libf0) Try.func89 (by kernel_rfl) (by kernel_rfl) (by kernel_rfl) fun ρ w => ?_
  have hl : ∀ n, (wrow n).length = 4 := fun n => rfl
  have inner : ∀ (i : Nat), i < 4 → (∀ row, MInv a b i 4 row 0 ∨ True → True) → (∀ row o, MInv a b i 4 row o → G (mkX Try.prog (tab libf0) Try.f89 [] ρ w (r89 [a, b])) (s89st1 (wrow a) (wrow b) o 4 row i)) →
      ∀ (n k : Nat) (row : List Int) (o : Int), k + n = 4 → MInv a b i k row o → G (mkX Try.prog (tab libf0) Try.f89 [] ρ w (r89 [a, b])) (s89st1 (wrow a) (wrow b) o (k : Nat) row (i : Nat)) := by
    intro i hi _ fin n
    induction n with
    | zero =>
      intro k row o hk hI
      have : k = 4 := by omega
      subst this
      exact fin row o hI
    | succ n ih =>
      intro k row o hk hI
      have e1 : IntKind.wrap .i64 ((i : Int) + (k : Int)) = ((i + k : Nat) : Int) := by rw [i64w] <;> omega
      have e2 : IntKind.wrap .i64 ((k : Int) + 1) = ((k + 1 : Nat) : Int) := i64s k (by omega)
      have ga : List.getD (wrow a) (Int.toNat (i : Int)) 0 = wd a i := wrow_get a i hi
      have gb : List.getD (wrow b) (Int.toNat (k : Int)) 0 = wd b k := wrow_get b k (by omega)
      obtain ⟨p1, p2⟩ := mul_parts (wd_range a i) (wd_range b k) (hI.rng (i + k)) ⟨hI.o0, hI.o1⟩
      obtain ⟨q1, q2⟩ := mul_lt (wd_range a i) (wd_range b k) (hI.rng (i + k)) ⟨hI.o0, hI.o1⟩
      refine s89_4 (wrow a) (wrow b) o (k : Nat) row (i : Nat) (by omega) (by omega) (by omega) (by rw [hl]; omega) (by omega) (by rw [hl]; omega) (by rw [ga]; exact w64_wd _ _) (by rw [gb]; exact w64_wd _ _) (by rw [e1]; omega) (by rw [e1]; omega) (by rw [e1, hI.len]; omega) (by rw [e1, hI.len]; omega) ?_
      rw [e1, e2, ga, gb, Int.toNat_natCast, Nat.add_zero, p1, p2]
      have r1 := hI.rng (i + k)
      refine ih (k + 1) _ _ (by omega) (hI.turn hi (by omega) ⟨by omega, by omega⟩ ⟨?_, ?_⟩ ?_)
      · have := hI.o0; omega
      · have := hI.o0; omega
      · omega
  refine s89_1 _ _ ?_
  have outer : ∀ (n i : Nat) (row : List Int), i + n = 4 → row.length = 8 → (∀ j, 0 ≤ row.getD j 0 ∧ row.getD j 0 < 18446744073709551616) → (∀ j, i + 4 ≤ j → row.getD j 0 = 0) → wv row = lowW a i * b →
      G (mkX Try.prog (tab libf0) Try.f89 [] ρ w (r89 [a, b])) (s89st0 (wrow a) (wrow b) (i : Nat) row) := by
    intro n
    induction n with
    | zero =>
      intro i row hi hlen hrng _ hval
      have : i = 4 := by omega
      subst this
      match row, hlen with
      | [w0, w1, w2, w3, w4, w5, w6, w7], _ =>
        have g0 := hrng 0; have g1 := hrng 1; have g2 := hrng 2; have g3 := hrng 3; have g4 := hrng 4; have g5 := hrng 5; have g6 := hrng 6; have g7 := hrng 7
        simp only [List.getD_cons_zero, List.getD_cons_succ] at g0 g1 g2 g3 g4 g5 g6 g7
        have hA : lowW a 4 = (a : Int) := by
          unfold lowW
          rw [Nat.mod_eq_of_lt (b := 18446744073709551616 ^ 4) (Nat.lt_of_lt_of_le ha (by decide))]
        rw [hA] at hval
        simp only [wv, Int.mul_zero, Int.add_zero] at hval
        have hN : ((a * b : Nat) : Int) = (a : Int) * b := Int.natCast_mul a b
        rw [← hN] at hval
        unfold P256 at ha hb
        refine G.resv (fun ρ y => rv_tup2 (fun y h => ?_) (fun y h => ?_)) (s89_3 (wrow a) (wrow b) 4 [w0, w1, w2, w3, w4, w5, w6, w7] (by decide) (by simp) (by simp) (by simp) (by simp) (by simp) (by simp) (by simp) (by simp) (by simp) (by simp) (by simp) (by simp) (by simp) (by simp) (by simp) (by simp) (by simp) (by simp))
        · refine rw_numI.1 (show RW ρ (.agg [.v (.int .u64 (wd (a * b) 0)), .v (.int .u64 (wd (a * b) 1)), .v (.int .u64 (wd (a * b) 2)), .v (.int .u64 (wd (a * b) 3))]) y from ?_)
          have f0 : wd (a * b) 0 = w0 := by rw [wd0]; omega
          have f1 : wd (a * b) 1 = w1 := by rw [wd1]; omega
          have f2 : wd (a * b) 2 = w2 := by rw [wd2]; omega
          have f3 : wd (a * b) 3 = w3 := by rw [wd3]; omega
          rw [f0, f1, f2, f3]
          exact h
        · refine rw_numI.1 (show RW ρ (.agg [.v (.int .u64 (wd (a * b / 115792089237316195423570985008687907853269984665640564039457584007913129639936) 0)), .v (.int .u64 (wd (a * b / 115792089237316195423570985008687907853269984665640564039457584007913129639936) 1)), .v (.int .u64 (wd (a * b / 115792089237316195423570985008687907853269984665640564039457584007913129639936) 2)), .v (.int .u64 (wd (a * b / 115792089237316195423570985008687907853269984665640564039457584007913129639936) 3))]) y from ?_)
          have f0 : wd (a * b / 115792089237316195423570985008687907853269984665640564039457584007913129639936) 0 = w4 := by rw [wd0]; omega
          have f1 : wd (a * b / 115792089237316195423570985008687907853269984665640564039457584007913129639936) 1 = w5 := by rw [wd1]; omega
          have f2 : wd (a * b / 115792089237316195423570985008687907853269984665640564039457584007913129639936) 2 = w6 := by rw [wd2]; omega
          have f3 : wd (a * b / 115792089237316195423570985008687907853269984665640564039457584007913129639936) 3 = w7 := by rw [wd3]; omega
          rw [f0, f1, f2, f3]
          exact h
    | succ n ih =>
      intro i row hi hlen hrng hzer hval
      refine s89_2 _ _ (i : Nat) row (by omega) ?_
      refine inner i (by omega) (fun _ _ => trivial) (fun row o hI => ?_) 4 0 row 0 (by omega) ⟨hlen, hrng, hzer, by omega, by omega, ?_⟩
      · have e1 : IntKind.wrap .i64 ((i : Int) + 4) = ((i + 4 : Nat) : Int) := by rw [i64w] <;> omega
        have e2 : IntKind.wrap .i64 ((i : Int) + 1) = ((i + 1 : Nat) : Int) := i64s i (by omega)
        refine s89_5 _ _ o 4 row (i : Nat) (by omega) (by rw [e1]; omega) (by rw [e1]; omega) (by rw [e1, hI.len]; omega) ?_
        rw [e1, e2, Int.toNat_natCast, Nat.add_zero]
        refine ih (i + 1) _ (by omega) (by simp [hI.len]) (fun j => ?_) (fun j hj => ?_) ?_
        · rw [getD_set _ _ _ _ (by rw [hI.len]; omega)]
          split
          · exact ⟨hI.o0, hI.o1⟩
          · exact hI.rng j
        · rw [getD_set _ _ _ _ (by rw [hI.len]; omega), if_neg (by omega)]
          exact hI.zer j (by omega)
        · have hv := hI.val
          have hz := hI.zer (i + 4) (by omega)
          have hB : lowW b 4 = (b : Int) := by
            unfold lowW
            rw [Nat.mod_eq_of_lt (b := 18446744073709551616 ^ 4) (Nat.lt_of_lt_of_le hb (by decide))]
          rw [wv_set _ _ _ (by rw [hI.len]; omega), hz, Int.sub_zero, hv, hB, lowW_succ]
          grind
      · have : lowW b 0 = 0 := by
          unfold lowW
          rw [Nat.pow_zero, Nat.mod_one]
          rfl
        rw [this, Int.mul_zero, Int.zero_mul, Int.add_zero, Int.add_zero]
        exact hval
  exact outer 4 0 [0, 0, 0, 0, 0, 0, 0, 0] rfl rfl (fun j => by
    match j with
    | 0 | 1 | 2 | 3 | 4 | 5 | 6 | 7 => exact ⟨by decide, by decide⟩
    | j + 8 => simp [List.getD]) (fun j hj => by
    match j, hj with
    | 4, _ | 5, _ | 6, _ | 7, _ => rfl
    | j + 8, _ => simp [List.getD]) (by
    show (0 : Int) = _
    unfold lowW
    rw [Nat.pow_zero, Nat.mod_one]
    simp)
theorem e89n_ok : EntryOk Try.prog 89 (numsE [1, 1] r89) := numsE_ok fun ns h hl => by
  obtain ⟨a, b, rfl⟩ := ns2 h
  exact s89n (hl a (by simp)) (hl b (by simp))

/-- so many bytes of a number, the lowest one first. -/
def leB (k n : Nat) : List Int := (List.range k).map fun i => ((n / 256 ^ i % 256 : Nat) : Int)
theorem leB_length (k n : Nat) : (leB k n).length = k := by simp [leB]
theorem leB_succ (k n : Nat) : leB (k + 1) n = leB k n ++ [((n / 256 ^ k % 256 : Nat) : Int)] := by simp [leB, List.range_succ]
theorem set_fill (l : List Int) (n : Nat) (x : Int) : (l ++ List.replicate (n + 1) 0).set l.length x = (l ++ [x]) ++ List.replicate n 0 := by
  rw [List.set_append_right _ _ (Nat.le_refl _), Nat.sub_self, List.replicate_succ, List.set_cons_zero, List.append_assoc]
  rfl
theorem word_part (a q r s : Nat) (h : r + s ≤ 64) : a / 18446744073709551616 ^ q % 18446744073709551616 / 2 ^ r % 2 ^ s = a / 2 ^ (64 * q + r) % 2 ^ s := by
  have e : (18446744073709551616 : Nat) = 2 ^ r * (2 ^ s * 2 ^ (64 - r - s)) := by
    rw [← Nat.pow_add, ← Nat.pow_add, show r + (s + (64 - r - s)) = 64 by omega]
  have ep : (18446744073709551616 : Nat) ^ q = 2 ^ (64 * q) := by rw [Nat.pow_mul]
  rw [ep]
  generalize hb : a / 2 ^ (64 * q) = b
  rw [e, Nat.mod_mul_right_div_self, Nat.mod_mul_right_mod, Nat.pow_add, ← Nat.div_div_eq_div_mul, hb]
theorem byte_word (a j : Nat) (hj : j < 32) : IntKind.wrap .u8 (Int.fdiv (List.getD (wrow a) (Int.toNat (IntKind.wrap .i64 (Int.tdiv (j : Nat) 8))) 0) (2 ^ min (Int.toNat (IntKind.wrap .i64 (8 * Int.tmod (j : Nat) 8))) 64)) = ((a / 256 ^ j % 256 : Nat) : Int) := by
  have e1 : IntKind.wrap .i64 (Int.tdiv (j : Int) 8) = ((j / 8 : Nat) : Int) := by
    rw [Int.tdiv_eq_ediv_of_nonneg (by omega), i64w] <;> omega
  have e2 : IntKind.wrap .i64 (8 * Int.tmod (j : Int) 8) = ((8 * (j % 8) : Nat) : Int) := by
    rw [Int.tmod_eq_emod_of_nonneg (by omega), i64w] <;> omega
  rw [e1, e2, Int.toNat_natCast, Int.toNat_natCast, wrow_get a _ (by omega), show min (8 * (j % 8)) 64 = 8 * (j % 8) by omega]
  have ef : (wd a (j / 8)).fdiv (2 ^ (8 * (j % 8))) = ((a / 18446744073709551616 ^ (j / 8) % 18446744073709551616 / 2 ^ (8 * (j % 8)) : Nat) : Int) := by
    unfold wd
    rw [Int.fdiv_eq_ediv_of_nonneg _ (by exact_mod_cast Nat.zero_le _)]
    simp
  rw [ef, wrap_u8]
  have := word_part a (j / 8) (8 * (j % 8)) 8 (by omega)
  rw [show (64 * (j / 8) + 8 * (j % 8)) = 8 * j by omega, show (2 : Nat) ^ (8 * j) = 256 ^ j from by rw [Nat.pow_mul], show (2 : Nat) ^ 8 = 256 from rfl] at this
  rw [← this]
  omega
def bytesN (n : Nat) : ByteArray := strOf (leB 32 n)
def r97 : List Nat → Res := fun ns => match ns with | [a] => ⟨V.str (bytesN a), [], []⟩ | _ => ⟨.tup [], [], []⟩
theorem s97n (a : Nat) : Sx.Spec Try.prog 97 [.agg (numC a)] [] (r97 [a]) := by
  refine Spec.imps (bs := [.ints .u64 (wrow a)]) (.cons (fun _ _ => rw_row) .nil) ?_
  refine spec_body (tab := tab libn) Try.func97 (by kernel_rfl) (by kernel_rfl) (by kernel_rfl) fun ρ w => ?_
  have hl : (wrow a).length = 4 := rfl
  refine s97_1 _ ?_
  refine G.loop (fun j => s97st0 (wrow a) (j : Nat) (leB j a ++ List.replicate (32 - j) 0)) 32 (fun j hj hg => ?_) ?_
  · have e1 : IntKind.wrap .i64 (Int.tdiv (j : Int) 8) = ((j / 8 : Nat) : Int) := by
      rw [Int.tdiv_eq_ediv_of_nonneg (by omega), i64w] <;> omega
    have e2 : IntKind.wrap .i64 (8 * Int.tmod (j : Int) 8) = ((8 * (j % 8) : Nat) : Int) := by
      rw [Int.tmod_eq_emod_of_nonneg (by omega), i64w] <;> omega
    refine s97_2 _ _ _ (by omega) (by rw [e1]; omega) (by rw [e1]; omega) (by rw [e1, hl]; omega) (by rw [e2]; omega) (by omega) (by simp [leB_length]; omega) ?_
    rw [byte_word a j hj, i64s j (by omega), Int.toNat_natCast]
    simp only [Nat.add_zero]
    have hs := set_fill (leB j a) (31 - j) ((a / 256 ^ j % 256 : Nat) : Int)
    rw [leB_length, show 31 - j + 1 = 32 - j by omega] at hs
    rw [hs, ← leB_succ]
    simp only [show 32 - (j + 1) = 31 - j by omega] at hg
    exact hg
  · refine G.resv (r := ⟨V.str (strOf (List.take 32 (List.drop 0 (leB 32 a ++ List.replicate (32 - 32) 0)))), [], []⟩) (fun ρ y h => ?_) (s97_3 _ _ _ (by decide) (by simp [leB_length]))
    have : List.take 32 (List.drop 0 (leB 32 a ++ List.replicate (32 - 32) 0)) = leB 32 a := by
      rw [List.drop_zero, Nat.sub_self, List.replicate_zero, List.append_nil, List.take_of_length_le (by rw [leB_length]; exact Nat.le_refl _)]
    rw [this] at h
    exact h
theorem e97n_ok : EntryOk Try.prog 97 (numsE [1] r97) := numsE_ok fun ns h hl => by
  obtain ⟨a, rfl⟩ := ns1 h
  exact s97n a
/-- the number of a text's bytes. -/
def leN (s : ByteArray) : Nat := (leV (bytesOf s)).toNat
def ofN (s : ByteArray) : Nat := bif Nat.beq s.size 32 then leN s else 0
def ofE (s : ByteArray) : Int := bif Nat.beq s.size 32 then 0 else 1
def e96n : Entry := fun args ms => match args, ms with
  | [.c (.v (.string s))], [] => some (⟨.tup [.agg (numC (ofN s)), .c (.v (.int .i64 (ofE s)))], [], []⟩, [])
  | _, _ => none
theorem of_turn {V c p q : Nat} (hq : q < 4) (hV : V < 18446744073709551616 ^ q * p) (hc : c + p ≤ 18446744073709551616) : (wrow V).set q ((V / 18446744073709551616 ^ q + c : Nat) : Int) = wrow (V + c * 18446744073709551616 ^ q) := by
  have key : ∀ i, i < 4 → (if i = q then ((V / 18446744073709551616 ^ q + c : Nat) : Int) else wd V i) = wd (V + c * 18446744073709551616 ^ q) i := by
    intro i hi
    match q, hq with
    | 0, _ =>
      rw [Nat.pow_zero, Nat.one_mul] at hV
      rw [Nat.pow_zero, Nat.div_one, Nat.mul_one]
      match i, hi with
      | 0, _ => rw [if_pos rfl, wd0]; omega
      | 1, _ => rw [if_neg (by omega), wd1, wd1]; omega
      | 2, _ => rw [if_neg (by omega), wd2, wd2]; omega
      | 3, _ => rw [if_neg (by omega), wd3, wd3]; omega
    | 1, _ =>
      rw [Nat.pow_one] at *
      match i, hi with
      | 0, _ => rw [if_neg (by omega), wd0, wd0]; omega
      | 1, _ => rw [if_pos rfl, wd1]; omega
      | 2, _ => rw [if_neg (by omega), wd2, wd2]; omega
      | 3, _ => rw [if_neg (by omega), wd3, wd3]; omega
    | 2, _ =>
      rw [show (18446744073709551616 : Nat) ^ 2 = 340282366920938463463374607431768211456 from rfl] at *
      match i, hi with
      | 0, _ => rw [if_neg (by omega), wd0, wd0]; omega
      | 1, _ => rw [if_neg (by omega), wd1, wd1]; omega
      | 2, _ => rw [if_pos rfl, wd2]; omega
      | 3, _ => rw [if_neg (by omega), wd3, wd3]; omega
    | 3, _ =>
      rw [show (18446744073709551616 : Nat) ^ 3 = 6277101735386680763835789423207666416102355444464034512896 from rfl] at *
      match i, hi with
      | 0, _ => rw [if_neg (by omega), wd0, wd0]; omega
      | 1, _ => rw [if_neg (by omega), wd1, wd1]; omega
      | 2, _ => rw [if_neg (by omega), wd2, wd2]; omega
      | 3, _ => rw [if_pos rfl, wd3]; omega
  apply List.ext_getElem?
  intro i
  rcases Nat.lt_or_ge i 4 with hi | hi
  · have h1 : ((wrow V).set q ((V / 18446744073709551616 ^ q + c : Nat) : Int)).getD i 0 = (wrow (V + c * 18446744073709551616 ^ q)).getD i 0 := by
      rw [getD_set _ _ _ _ hq, wrow_get _ _ hi, wrow_get _ _ hi]
      exact key i hi
    have l1 : i < ((wrow V).set q ((V / 18446744073709551616 ^ q + c : Nat) : Int)).length := by rw [List.length_set]; exact hi
    have l2 : i < (wrow (V + c * 18446744073709551616 ^ q)).length := hi
    rw [List.getElem?_eq_getElem l1, List.getElem?_eq_getElem l2]
    rw [List.getD_eq_getElem?_getD, List.getD_eq_getElem?_getD, List.getElem?_eq_getElem l1, List.getElem?_eq_getElem l2] at h1
    exact congrArg some h1
  · rw [List.getElem?_eq_none (by rw [List.length_set]; exact hi), List.getElem?_eq_none (by exact hi)]
/-- the number of the first bytes. -/
def leP (s : ByteArray) (j : Nat) : Nat := (leV ((bytesOf s).take j)).toNat
theorem leP_lt (s : ByteArray) (j : Nat) (h : j ≤ s.size) : leP s j < 256 ^ j ∧ ((leP s j : Nat) : Int) = leV ((bytesOf s).take j) := by
  have hr := leV_range ((bytesOf s).take j) (fun b hb => bytesOf_range s b (List.mem_of_mem_take hb))
  rw [List.length_take, bytesOf_length, Nat.min_eq_left h] at hr
  unfold leP
  refine ⟨?_, Int.toNat_of_nonneg hr.1⟩
  have := hr.2
  rw [show ((256 : Int) ^ j) = ((256 ^ j : Nat) : Int) by simp] at this
  omega
theorem leP_succ (s : ByteArray) (j : Nat) (h : j < s.size) : leP s (j + 1) = leP s j + (bt s (j : Nat)).toNat * 256 ^ j := by
  have h1 := (leP_lt s j (by omega)).2
  have h2 := (leP_lt s (j + 1) (by omega)).2
  have h3 := drop_bt s 0 j (by omega)
  rw [List.drop_zero, Nat.zero_add] at h3
  rw [h3, leV_append, ← h1, List.length_take, bytesOf_length, Nat.min_eq_left (by omega)] at h2
  obtain ⟨b, hb⟩ := nat_of (bt_range s (j : Nat)).1
  rw [hb] at h2 ⊢
  rw [Int.toNat_natCast]
  rw [show ((256 : Int) ^ j) = ((256 ^ j : Nat) : Int) by simp, ← Int.natCast_mul, ← Int.natCast_add] at h2
  exact Int.ofNat.inj h2
theorem s96n (s : ByteArray) : Sx.Spec Try.prog 96 [.c (.v (.string s))] [] ⟨.tup [.agg (numC (ofN s)), .c (.v (.int .i64 (ofE s)))], [], []⟩ := by
  by_cases hs : s.size = 32
  · have hb : Nat.beq s.size 32 = true := by rw [hs]; rfl
    unfold ofN ofE
    rw [hb]
    refine spec_body (tab := tab libn) Try.func96 (by kernel_rfl) (by kernel_rfl) (by kernel_rfl) fun ρ w => ?_
    refine s96_2 s (by omega) ?_
    have hz : wrow (leP s 0) = [0, 0, 0, 0] := by
      unfold leP
      rw [List.take_zero, show (leV []).toNat = 0 from rfl]
      decide
    rw [← hz]
    refine G.loop (fun j => s96st0 s (j : Nat) (wrow (leP s j))) 32 (fun j hj hg => ?_) ?_
    · have e1 : IntKind.wrap .i64 (Int.tdiv (j : Int) 8) = ((j / 8 : Nat) : Int) := by
        rw [Int.tdiv_eq_ediv_of_nonneg (by omega), i64w] <;> omega
      have e2 : IntKind.wrap .i64 (8 * Int.tmod (j : Int) 8) = ((8 * (j % 8) : Nat) : Int) := by
        rw [Int.tmod_eq_emod_of_nonneg (by omega), i64w] <;> omega
      have hl : (wrow (leP s j)).length = 4 := rfl
      refine s96_3 s _ _ (by omega) (by rw [e1]; omega) (by rw [e1]; omega) (by rw [e1, hl]; omega) (by omega) (by omega) (by rw [e2]; omega) (by rw [e1, hl]; omega) ?_
      obtain ⟨b, hbb⟩ := nat_of (bt_range s (j : Nat)).1
      have hbr := (bt_range s (j : Nat)).2
      rw [hbb] at hbr
      have hbr' : b < 256 := by omega
      have hV := (leP_lt s j (by omega)).1
      have hw : IntKind.wrap .u64 (b : Int) = (b : Int) := w64_id (by omega) (by omega)
      rw [e1, e2, hbb, hw, i64s j (by omega), Int.toNat_natCast, Nat.add_zero, wrow_get _ _ (by omega)]
      have ep : (256 : Nat) ^ j = 256 ^ (j % 8) * 18446744073709551616 ^ (j / 8) := by
        rw [show (18446744073709551616 : Nat) = 256 ^ 8 from by decide, ← Nat.pow_mul, ← Nat.pow_add, show j % 8 + 8 * (j / 8) = j by omega]
      rw [ep] at hV
      have hp : 256 * 256 ^ (j % 8) ≤ 18446744073709551616 := by
        rw [← Nat.pow_succ', show (18446744073709551616 : Nat) = 256 ^ 8 from by decide]
        exact Nat.pow_le_pow_right (by decide) (by omega)
      have hbp : b * 256 ^ (j % 8) + 256 ^ (j % 8) ≤ 18446744073709551616 := by
        have : (b + 1) * 256 ^ (j % 8) ≤ 256 * 256 ^ (j % 8) := Nat.mul_le_mul_right _ hbr'
        rw [Nat.add_mul, Nat.one_mul] at this
        omega
      have hd : leP s j / 18446744073709551616 ^ (j / 8) < 256 ^ (j % 8) := Nat.div_lt_of_lt_mul (by rw [Nat.mul_comm]; exact hV)
      have ew : wd (leP s j) (j / 8) = ((leP s j / 18446744073709551616 ^ (j / 8) : Nat) : Int) := by
        unfold wd
        rw [Nat.mod_eq_of_lt (by omega)]
      rw [ew, or_low un64 _ _ _ hd (by rw [bits64, show (2 : Nat) ^ 64 = 18446744073709551616 from rfl]; omega)]
      have ht := of_turn (V := leP s j) (c := b * 256 ^ (j % 8)) (p := 256 ^ (j % 8)) (q := j / 8) (by omega) (by rw [Nat.mul_comm]; exact hV) hbp
      simp only [Nat.add_zero]
      rw [ht, Nat.mul_assoc, ← ep]
      have hsucc := leP_succ s j (by omega)
      rw [hbb, Int.toNat_natCast] at hsucc
      rw [← hsucc]
      exact hg
    · have hall : leP s 32 = leN s := by
        unfold leP leN
        rw [List.take_of_length_le (by rw [bytesOf_length]; omega)]
      rw [hall]
      refine G.resv (fun ρ y => rv_tup2 (fun y h => ?_) (fun y h => h)) (s96_4 s 32 (wrow (leN s)) (by decide) (by simp [wrow]) (by simp [wrow]) (by simp [wrow]) (by simp [wrow]) (by simp) (by simp) (by simp) (by simp) (by simp))
      exact rw_numI.1 h
  · have hb : Nat.beq s.size 32 = false := beq_f hs
    unfold ofN ofE
    rw [hb]
    exact spec_res (s96_1 s (by omega)) (by kernel_rfl)
theorem e96n_ok : EntryOk Try.prog 96 e96n := by
  intro args ms r obs h ho
  unfold e96n at h
  split at h
  · cases h
    exact s96n _
  · cases h
end Go.Proofs.Ytmjejlbmcefaoaa
