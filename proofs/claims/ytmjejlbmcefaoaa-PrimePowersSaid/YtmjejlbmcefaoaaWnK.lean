/- The reference of wide: Rem. -/
import Derived.Test.YtmjejlbmcefaoaaWnJ
namespace Go.Proofs.Ytmjejlbmcefaoaa
open Go Sx
def libk0 : List (Nat × Entry) := [(85, roE [.ints .u64, .ints .u64] e85), (88, roE [.ints .u64, .ints .u64] e88), (98, roE [.ints .u64, .val] e98), (221, roE [.ints .u64, .ints .u64] e221)]
theorem libk0_ok : AllOk Try.prog libk0 := .cons (roE_ok e85_ok) (.cons (roE_ok e88_ok) (.cons (roE_ok e98_ok) (.cons (roE_ok e221_ok) (.nil _))))
noncomputable def s95k0 : List Item := kAt Try.prog (tab libk0) Try.f95 [(43, true)] 0 [W.c (C.sl 0 0 1), W.c (C.sl 1 0 1)] [Blk.mk 1 Mode.ro (K.ints IntKind.u64 [0]), Blk.mk 1 Mode.ro (K.ints IntKind.u64 [0])]
noncomputable def s95st0 (t : Nat) (u : Nat) (l : List Int) (m : List Int) (t6 : Int) (b2_0 : Nat) (b2_1 : List Int) : Cfg := cfg s95k0 [0, 1, 5, 6] [V.w (W.c (C.sl 0 0 (List.length l))), V.w (W.c (C.sl 1 0 (List.length m))), V.w (W.c (C.own 2)), V.int IntKind.i64 t6] [Blk.mk t Mode.ro (K.ints IntKind.u64 l), Blk.mk u Mode.ro (K.ints IntKind.u64 m), Blk.mk 22 (Mode.own b2_0) (K.ints IntKind.u64 b2_1)]
theorem s95_1 {ρ : Env} {w : World} {r : Res} (t : Nat) (u : Nat) (l : List Int) (m : List Int) (hg : G (mkX Try.prog (tab libk0) Try.f95 [Blk.mk t Mode.ro (K.ints IntKind.u64 l), Blk.mk u Mode.ro (K.ints IntKind.u64 m)] ρ w r) (s95st0 t u (l) (m) (IntKind.wrap IntKind.i64 (IntKind.wrap IntKind.i64 (16 * (↑(List.length l) : Int)) - 1)) (0) ([]))) : G (mkX Try.prog (tab libk0) Try.f95 [Blk.mk t Mode.ro (K.ints IntKind.u64 l), Blk.mk u Mode.ro (K.ints IntKind.u64 m)] ρ w r) (cfg [.code (Try.f95.body.getD .skip)] (List.range 2) ([W.c (C.sl 0 0 (List.length l)), W.c (C.sl 1 0 (List.length m))].map V.w) [Blk.mk t Mode.ro (K.ints IntKind.u64 l), Blk.mk u Mode.ro (K.ints IntKind.u64 m)]) :=
  G.seg (X := mkX Try.prog (tab libk0) Try.f95 [Blk.mk t Mode.ro (K.ints IntKind.u64 l), Blk.mk u Mode.ro (K.ints IntKind.u64 m)] ρ w r) ⟨tab_ok libk0_ok, mixed⟩ [(43, true)] 1000000 0 [0, 1, 5, 6] [(0, none), (1, none)] (k := s95k0) (vs := [V.w (W.c (C.sl 0 0 (List.length l))), V.w (W.c (C.sl 1 0 (List.length m))), V.w (W.c (C.v (Value.slice none 0 0))), V.int IntKind.i64 (IntKind.wrap IntKind.i64 (IntKind.wrap IntKind.i64 (16 * (↑(List.length l) : Int)) - 1))]) (bs := [Blk.mk t Mode.ro (K.ints IntKind.u64 l), Blk.mk u Mode.ro (K.ints IntKind.u64 m)]) (by kernel_rfl) (by kernel_rfl)
    onil (G.nilOwn 2 22 (K.ints IntKind.u64 []) rfl rfl rfl (Nat.le_of_ble_eq_true rfl) hg)
theorem s95_2 {ρ : Env} {w : World} {r : Res} (t : Nat) (u : Nat) (l : List Int) (m : List Int) (t6 : Int) (b2_0 : Nat) (b2_1 : List Int) (h1 : t6 ≥ 0) (h2 : List.length b2_1 = b2_0) (h3 : limOk b2_1 = true) (h4 : List.length b2_1 ≤ 1000000000) (h5 : 0 < (↑(maxN b2_0 b2_0 + 1) : Int)) (h6 : 0 < List.length (lim (maxN b2_0 b2_0 + 1) (valL b2_1 + valL b2_1))) (h7 : limOk l = true) (h8 : 0 ≤ t6) (h9 : t6 ≤ 16000000000) (h10 : List.length (List.set (lim (maxN b2_0 b2_0 + 1) (valL b2_1 + valL b2_1)) 0 (IntKind.wrap IntKind.u64 (List.getD (lim (maxN b2_0 b2_0 + 1) (valL b2_1 + valL b2_1)) 0 0 + (↑(bitL l t6) : Int)))) = maxN b2_0 b2_0 + 1) (h11 : limOk (List.set (lim (maxN b2_0 b2_0 + 1) (valL b2_1 + valL b2_1)) 0 (IntKind.wrap IntKind.u64 (List.getD (lim (maxN b2_0 b2_0 + 1) (valL b2_1 + valL b2_1)) 0 0 + (↑(bitL l t6) : Int)))) = true) (h12 : limOk m = true) (h13 : List.length (List.set (lim (maxN b2_0 b2_0 + 1) (valL b2_1 + valL b2_1)) 0 (IntKind.wrap IntKind.u64 (List.getD (lim (maxN b2_0 b2_0 + 1) (valL b2_1 + valL b2_1)) 0 0 + (↑(bitL l t6) : Int)))) ≤ 1000000000) (h14 : List.length m ≤ 1000000000) (h15 : (!Nat.blt (valL (List.set (lim (maxN b2_0 b2_0 + 1) (valL b2_1 + valL b2_1)) 0 (IntKind.wrap IntKind.u64 (List.getD (lim (maxN b2_0 b2_0 + 1) (valL b2_1 + valL b2_1)) 0 0 + (↑(bitL l t6) : Int))))) (valL m)) = true) (h16 : (↑(maxN b2_0 b2_0 + 1) : Int) > (↑(List.length m) : Int)) (h17 : (↑(List.length m) : Int) ≤ (↑(maxN b2_0 b2_0 + 1) : Int)) (hg : G (mkX Try.prog (tab libk0) Try.f95 [Blk.mk t Mode.ro (K.ints IntKind.u64 l), Blk.mk u Mode.ro (K.ints IntKind.u64 m)] ρ w r) (s95st0 t u (l) (m) (IntKind.wrap IntKind.i64 (t6 - 1)) (Int.toNat (↑(List.length m) : Int)) (List.take (Int.toNat (↑(List.length m) : Int)) (lim (maxN b2_0 b2_0 + 1) (subN (maxN b2_0 b2_0 + 1) (valL (List.set (lim (maxN b2_0 b2_0 + 1) (valL b2_1 + valL b2_1)) 0 (IntKind.wrap IntKind.u64 (List.getD (lim (maxN b2_0 b2_0 + 1) (valL b2_1 + valL b2_1)) 0 0 + (↑(bitL l t6) : Int))))) (valL m)))))) : G (mkX Try.prog (tab libk0) Try.f95 [Blk.mk t Mode.ro (K.ints IntKind.u64 l), Blk.mk u Mode.ro (K.ints IntKind.u64 m)] ρ w r) (s95st0 t u l m t6 b2_0 b2_1) :=
  G.seg (X := mkX Try.prog (tab libk0) Try.f95 [Blk.mk t Mode.ro (K.ints IntKind.u64 l), Blk.mk u Mode.ro (K.ints IntKind.u64 m)] ρ w r) ⟨tab_ok libk0_ok, mixed⟩ [(43, true), (13, true), (31, true), (39, true)] 1000000 0 [0, 1, 5, 6] [(0, none), (1, none), (131, none)] (k := s95k0) (vs := [V.w (W.c (C.sl 0 0 (List.length l))), V.w (W.c (C.sl 1 0 (List.length m))), V.w (W.c (C.own 2)), V.int IntKind.i64 (IntKind.wrap IntKind.i64 (t6 - 1))]) (bs := [Blk.mk t Mode.ro (K.ints IntKind.u64 l), Blk.mk u Mode.ro (K.ints IntKind.u64 m), Blk.mk 22 (Mode.own (Int.toNat (↑(List.length m) : Int))) (K.ints IntKind.u64 (List.take (Int.toNat (↑(List.length m) : Int)) (lim (maxN b2_0 b2_0 + 1) (subN (maxN b2_0 b2_0 + 1) (valL (List.set (lim (maxN b2_0 b2_0 + 1) (valL b2_1 + valL b2_1)) 0 (IntKind.wrap IntKind.u64 (List.getD (lim (maxN b2_0 b2_0 + 1) (valL b2_1 + valL b2_1)) 0 0 + (↑(bitL l t6) : Int))))) (valL m)))))]) (by kernel_rfl) (by kernel_rfl)
    (ocons (decide_eq_true h1) (ocons (beqT h2) (ocons (beqT h2) (ocons h3 (ocons h3 (ocons (bleT h4) (ocons (bleT h4) (ocons rfl (ocons (decide_eq_true h5) (ocons (bltT h6) (ocons (beqT (rfl : List.length l = List.length l)) (ocons h7 (ocons (decide_eq_true h8) (ocons (decide_eq_true h9) (ocons rfl (ocons (decide_eq_true h5) (ocons rfl (ocons (bltT h6) (ocons (beqT h10) (ocons (beqT (rfl : List.length m = List.length m)) (ocons h11 (ocons h12 (ocons (bleT h13) (ocons (bleT h14) (ocons h15 (ocons (beqT h10) (ocons (beqT (rfl : List.length m = List.length m)) (ocons h11 (ocons h12 (ocons (bleT h13) (ocons (bleT h14) (ocons (decide_eq_true h16) (ocons rfl (ocons (decide_eq_true h17) onil)))))))))))))))))))))))))))))))))) hg
theorem s95_3 {ρ : Env} {w : World} {r : Res} (t : Nat) (u : Nat) (l : List Int) (m : List Int) (t6 : Int) (b2_0 : Nat) (b2_1 : List Int) (h1 : t6 ≥ 0) (h2 : List.length b2_1 = b2_0) (h3 : limOk b2_1 = true) (h4 : List.length b2_1 ≤ 1000000000) (h5 : 0 < (↑(maxN b2_0 b2_0 + 1) : Int)) (h6 : 0 < List.length (lim (maxN b2_0 b2_0 + 1) (valL b2_1 + valL b2_1))) (h7 : limOk l = true) (h8 : 0 ≤ t6) (h9 : t6 ≤ 16000000000) (h10 : List.length (List.set (lim (maxN b2_0 b2_0 + 1) (valL b2_1 + valL b2_1)) 0 (IntKind.wrap IntKind.u64 (List.getD (lim (maxN b2_0 b2_0 + 1) (valL b2_1 + valL b2_1)) 0 0 + (↑(bitL l t6) : Int)))) = maxN b2_0 b2_0 + 1) (h11 : limOk (List.set (lim (maxN b2_0 b2_0 + 1) (valL b2_1 + valL b2_1)) 0 (IntKind.wrap IntKind.u64 (List.getD (lim (maxN b2_0 b2_0 + 1) (valL b2_1 + valL b2_1)) 0 0 + (↑(bitL l t6) : Int)))) = true) (h12 : limOk m = true) (h13 : List.length (List.set (lim (maxN b2_0 b2_0 + 1) (valL b2_1 + valL b2_1)) 0 (IntKind.wrap IntKind.u64 (List.getD (lim (maxN b2_0 b2_0 + 1) (valL b2_1 + valL b2_1)) 0 0 + (↑(bitL l t6) : Int)))) ≤ 1000000000) (h14 : List.length m ≤ 1000000000) (h15 : (!Nat.blt (valL (List.set (lim (maxN b2_0 b2_0 + 1) (valL b2_1 + valL b2_1)) 0 (IntKind.wrap IntKind.u64 (List.getD (lim (maxN b2_0 b2_0 + 1) (valL b2_1 + valL b2_1)) 0 0 + (↑(bitL l t6) : Int))))) (valL m)) = true) (h16 : ¬(↑(maxN b2_0 b2_0 + 1) : Int) > (↑(List.length m) : Int)) (hg : G (mkX Try.prog (tab libk0) Try.f95 [Blk.mk t Mode.ro (K.ints IntKind.u64 l), Blk.mk u Mode.ro (K.ints IntKind.u64 m)] ρ w r) (s95st0 t u (l) (m) (IntKind.wrap IntKind.i64 (t6 - 1)) (maxN b2_0 b2_0 + 1) (lim (maxN b2_0 b2_0 + 1) (subN (maxN b2_0 b2_0 + 1) (valL (List.set (lim (maxN b2_0 b2_0 + 1) (valL b2_1 + valL b2_1)) 0 (IntKind.wrap IntKind.u64 (List.getD (lim (maxN b2_0 b2_0 + 1) (valL b2_1 + valL b2_1)) 0 0 + (↑(bitL l t6) : Int))))) (valL m))))) : G (mkX Try.prog (tab libk0) Try.f95 [Blk.mk t Mode.ro (K.ints IntKind.u64 l), Blk.mk u Mode.ro (K.ints IntKind.u64 m)] ρ w r) (s95st0 t u l m t6 b2_0 b2_1) :=
  G.seg (X := mkX Try.prog (tab libk0) Try.f95 [Blk.mk t Mode.ro (K.ints IntKind.u64 l), Blk.mk u Mode.ro (K.ints IntKind.u64 m)] ρ w r) ⟨tab_ok libk0_ok, mixed⟩ [(43, true), (13, true), (31, true), (39, false)] 1000000 0 [0, 1, 5, 6] [(0, none), (1, none), (91, none)] (k := s95k0) (vs := [V.w (W.c (C.sl 0 0 (List.length l))), V.w (W.c (C.sl 1 0 (List.length m))), V.w (W.c (C.own 2)), V.int IntKind.i64 (IntKind.wrap IntKind.i64 (t6 - 1))]) (bs := [Blk.mk t Mode.ro (K.ints IntKind.u64 l), Blk.mk u Mode.ro (K.ints IntKind.u64 m), Blk.mk 22 (Mode.own (maxN b2_0 b2_0 + 1)) (K.ints IntKind.u64 (lim (maxN b2_0 b2_0 + 1) (subN (maxN b2_0 b2_0 + 1) (valL (List.set (lim (maxN b2_0 b2_0 + 1) (valL b2_1 + valL b2_1)) 0 (IntKind.wrap IntKind.u64 (List.getD (lim (maxN b2_0 b2_0 + 1) (valL b2_1 + valL b2_1)) 0 0 + (↑(bitL l t6) : Int))))) (valL m))))]) (by kernel_rfl) (by kernel_rfl)
    (ocons (decide_eq_true h1) (ocons (beqT h2) (ocons (beqT h2) (ocons h3 (ocons h3 (ocons (bleT h4) (ocons (bleT h4) (ocons rfl (ocons (decide_eq_true h5) (ocons (bltT h6) (ocons (beqT (rfl : List.length l = List.length l)) (ocons h7 (ocons (decide_eq_true h8) (ocons (decide_eq_true h9) (ocons rfl (ocons (decide_eq_true h5) (ocons rfl (ocons (bltT h6) (ocons (beqT h10) (ocons (beqT (rfl : List.length m = List.length m)) (ocons h11 (ocons h12 (ocons (bleT h13) (ocons (bleT h14) (ocons h15 (ocons (beqT h10) (ocons (beqT (rfl : List.length m = List.length m)) (ocons h11 (ocons h12 (ocons (bleT h13) (ocons (bleT h14) (ocons (ndec h16) onil)))))))))))))))))))))))))))))))) hg
theorem s95_4 {ρ : Env} {w : World} {r : Res} (t : Nat) (u : Nat) (l : List Int) (m : List Int) (t6 : Int) (b2_0 : Nat) (b2_1 : List Int) (h1 : t6 ≥ 0) (h2 : List.length b2_1 = b2_0) (h3 : limOk b2_1 = true) (h4 : List.length b2_1 ≤ 1000000000) (h5 : 0 < (↑(maxN b2_0 b2_0 + 1) : Int)) (h6 : 0 < List.length (lim (maxN b2_0 b2_0 + 1) (valL b2_1 + valL b2_1))) (h7 : limOk l = true) (h8 : 0 ≤ t6) (h9 : t6 ≤ 16000000000) (h10 : List.length (List.set (lim (maxN b2_0 b2_0 + 1) (valL b2_1 + valL b2_1)) 0 (IntKind.wrap IntKind.u64 (List.getD (lim (maxN b2_0 b2_0 + 1) (valL b2_1 + valL b2_1)) 0 0 + (↑(bitL l t6) : Int)))) = maxN b2_0 b2_0 + 1) (h11 : limOk (List.set (lim (maxN b2_0 b2_0 + 1) (valL b2_1 + valL b2_1)) 0 (IntKind.wrap IntKind.u64 (List.getD (lim (maxN b2_0 b2_0 + 1) (valL b2_1 + valL b2_1)) 0 0 + (↑(bitL l t6) : Int)))) = true) (h12 : limOk m = true) (h13 : List.length (List.set (lim (maxN b2_0 b2_0 + 1) (valL b2_1 + valL b2_1)) 0 (IntKind.wrap IntKind.u64 (List.getD (lim (maxN b2_0 b2_0 + 1) (valL b2_1 + valL b2_1)) 0 0 + (↑(bitL l t6) : Int)))) ≤ 1000000000) (h14 : List.length m ≤ 1000000000) (h15 : (!!Nat.blt (valL (List.set (lim (maxN b2_0 b2_0 + 1) (valL b2_1 + valL b2_1)) 0 (IntKind.wrap IntKind.u64 (List.getD (lim (maxN b2_0 b2_0 + 1) (valL b2_1 + valL b2_1)) 0 0 + (↑(bitL l t6) : Int))))) (valL m)) = true) (h16 : (↑(maxN b2_0 b2_0 + 1) : Int) > (↑(List.length m) : Int)) (h17 : (↑(List.length m) : Int) ≤ (↑(maxN b2_0 b2_0 + 1) : Int)) (hg : G (mkX Try.prog (tab libk0) Try.f95 [Blk.mk t Mode.ro (K.ints IntKind.u64 l), Blk.mk u Mode.ro (K.ints IntKind.u64 m)] ρ w r) (s95st0 t u (l) (m) (IntKind.wrap IntKind.i64 (t6 - 1)) (Int.toNat (↑(List.length m) : Int)) (List.take (Int.toNat (↑(List.length m) : Int)) (List.set (lim (maxN b2_0 b2_0 + 1) (valL b2_1 + valL b2_1)) 0 (IntKind.wrap IntKind.u64 (List.getD (lim (maxN b2_0 b2_0 + 1) (valL b2_1 + valL b2_1)) 0 0 + (↑(bitL l t6) : Int))))))) : G (mkX Try.prog (tab libk0) Try.f95 [Blk.mk t Mode.ro (K.ints IntKind.u64 l), Blk.mk u Mode.ro (K.ints IntKind.u64 m)] ρ w r) (s95st0 t u l m t6 b2_0 b2_1) :=
  G.seg (X := mkX Try.prog (tab libk0) Try.f95 [Blk.mk t Mode.ro (K.ints IntKind.u64 l), Blk.mk u Mode.ro (K.ints IntKind.u64 m)] ρ w r) ⟨tab_ok libk0_ok, mixed⟩ [(43, true), (13, true), (31, false), (39, true)] 1000000 0 [0, 1, 5, 6] [(0, none), (1, none), (115, none)] (k := s95k0) (vs := [V.w (W.c (C.sl 0 0 (List.length l))), V.w (W.c (C.sl 1 0 (List.length m))), V.w (W.c (C.own 2)), V.int IntKind.i64 (IntKind.wrap IntKind.i64 (t6 - 1))]) (bs := [Blk.mk t Mode.ro (K.ints IntKind.u64 l), Blk.mk u Mode.ro (K.ints IntKind.u64 m), Blk.mk 22 (Mode.own (Int.toNat (↑(List.length m) : Int))) (K.ints IntKind.u64 (List.take (Int.toNat (↑(List.length m) : Int)) (List.set (lim (maxN b2_0 b2_0 + 1) (valL b2_1 + valL b2_1)) 0 (IntKind.wrap IntKind.u64 (List.getD (lim (maxN b2_0 b2_0 + 1) (valL b2_1 + valL b2_1)) 0 0 + (↑(bitL l t6) : Int))))))]) (by kernel_rfl) (by kernel_rfl)
    (ocons (decide_eq_true h1) (ocons (beqT h2) (ocons (beqT h2) (ocons h3 (ocons h3 (ocons (bleT h4) (ocons (bleT h4) (ocons rfl (ocons (decide_eq_true h5) (ocons (bltT h6) (ocons (beqT (rfl : List.length l = List.length l)) (ocons h7 (ocons (decide_eq_true h8) (ocons (decide_eq_true h9) (ocons rfl (ocons (decide_eq_true h5) (ocons rfl (ocons (bltT h6) (ocons (beqT h10) (ocons (beqT (rfl : List.length m = List.length m)) (ocons h11 (ocons h12 (ocons (bleT h13) (ocons (bleT h14) (ocons h15 (ocons (decide_eq_true h16) (ocons rfl (ocons (decide_eq_true h17) onil)))))))))))))))))))))))))))) hg
theorem s95_5 {ρ : Env} {w : World} {r : Res} (t : Nat) (u : Nat) (l : List Int) (m : List Int) (t6 : Int) (b2_0 : Nat) (b2_1 : List Int) (h1 : t6 ≥ 0) (h2 : List.length b2_1 = b2_0) (h3 : limOk b2_1 = true) (h4 : List.length b2_1 ≤ 1000000000) (h5 : 0 < (↑(maxN b2_0 b2_0 + 1) : Int)) (h6 : 0 < List.length (lim (maxN b2_0 b2_0 + 1) (valL b2_1 + valL b2_1))) (h7 : limOk l = true) (h8 : 0 ≤ t6) (h9 : t6 ≤ 16000000000) (h10 : List.length (List.set (lim (maxN b2_0 b2_0 + 1) (valL b2_1 + valL b2_1)) 0 (IntKind.wrap IntKind.u64 (List.getD (lim (maxN b2_0 b2_0 + 1) (valL b2_1 + valL b2_1)) 0 0 + (↑(bitL l t6) : Int)))) = maxN b2_0 b2_0 + 1) (h11 : limOk (List.set (lim (maxN b2_0 b2_0 + 1) (valL b2_1 + valL b2_1)) 0 (IntKind.wrap IntKind.u64 (List.getD (lim (maxN b2_0 b2_0 + 1) (valL b2_1 + valL b2_1)) 0 0 + (↑(bitL l t6) : Int)))) = true) (h12 : limOk m = true) (h13 : List.length (List.set (lim (maxN b2_0 b2_0 + 1) (valL b2_1 + valL b2_1)) 0 (IntKind.wrap IntKind.u64 (List.getD (lim (maxN b2_0 b2_0 + 1) (valL b2_1 + valL b2_1)) 0 0 + (↑(bitL l t6) : Int)))) ≤ 1000000000) (h14 : List.length m ≤ 1000000000) (h15 : (!!Nat.blt (valL (List.set (lim (maxN b2_0 b2_0 + 1) (valL b2_1 + valL b2_1)) 0 (IntKind.wrap IntKind.u64 (List.getD (lim (maxN b2_0 b2_0 + 1) (valL b2_1 + valL b2_1)) 0 0 + (↑(bitL l t6) : Int))))) (valL m)) = true) (h16 : ¬(↑(maxN b2_0 b2_0 + 1) : Int) > (↑(List.length m) : Int)) (hg : G (mkX Try.prog (tab libk0) Try.f95 [Blk.mk t Mode.ro (K.ints IntKind.u64 l), Blk.mk u Mode.ro (K.ints IntKind.u64 m)] ρ w r) (s95st0 t u (l) (m) (IntKind.wrap IntKind.i64 (t6 - 1)) (maxN b2_0 b2_0 + 1) (List.set (lim (maxN b2_0 b2_0 + 1) (valL b2_1 + valL b2_1)) 0 (IntKind.wrap IntKind.u64 (List.getD (lim (maxN b2_0 b2_0 + 1) (valL b2_1 + valL b2_1)) 0 0 + (↑(bitL l t6) : Int)))))) : G (mkX Try.prog (tab libk0) Try.f95 [Blk.mk t Mode.ro (K.ints IntKind.u64 l), Blk.mk u Mode.ro (K.ints IntKind.u64 m)] ρ w r) (s95st0 t u l m t6 b2_0 b2_1) :=
  G.seg (X := mkX Try.prog (tab libk0) Try.f95 [Blk.mk t Mode.ro (K.ints IntKind.u64 l), Blk.mk u Mode.ro (K.ints IntKind.u64 m)] ρ w r) ⟨tab_ok libk0_ok, mixed⟩ [(43, true), (13, true), (31, false), (39, false)] 1000000 0 [0, 1, 5, 6] [(0, none), (1, none), (19, none)] (k := s95k0) (vs := [V.w (W.c (C.sl 0 0 (List.length l))), V.w (W.c (C.sl 1 0 (List.length m))), V.w (W.c (C.own 2)), V.int IntKind.i64 (IntKind.wrap IntKind.i64 (t6 - 1))]) (bs := [Blk.mk t Mode.ro (K.ints IntKind.u64 l), Blk.mk u Mode.ro (K.ints IntKind.u64 m), Blk.mk 22 (Mode.own (maxN b2_0 b2_0 + 1)) (K.ints IntKind.u64 (List.set (lim (maxN b2_0 b2_0 + 1) (valL b2_1 + valL b2_1)) 0 (IntKind.wrap IntKind.u64 (List.getD (lim (maxN b2_0 b2_0 + 1) (valL b2_1 + valL b2_1)) 0 0 + (↑(bitL l t6) : Int)))))]) (by kernel_rfl) (by kernel_rfl)
    (ocons (decide_eq_true h1) (ocons (beqT h2) (ocons (beqT h2) (ocons h3 (ocons h3 (ocons (bleT h4) (ocons (bleT h4) (ocons rfl (ocons (decide_eq_true h5) (ocons (bltT h6) (ocons (beqT (rfl : List.length l = List.length l)) (ocons h7 (ocons (decide_eq_true h8) (ocons (decide_eq_true h9) (ocons rfl (ocons (decide_eq_true h5) (ocons rfl (ocons (bltT h6) (ocons (beqT h10) (ocons (beqT (rfl : List.length m = List.length m)) (ocons h11 (ocons h12 (ocons (bleT h13) (ocons (bleT h14) (ocons h15 (ocons (ndec h16) onil)))))))))))))))))))))))))) hg
theorem s95_6 {ρ : Env} {w : World} (t : Nat) (u : Nat) (l : List Int) (m : List Int) (t6 : Int) (b2_0 : Nat) (b2_1 : List Int) (h1 : ¬t6 ≥ 0) : G (mkX Try.prog (tab libk0) Try.f95 [Blk.mk t Mode.ro (K.ints IntKind.u64 l), Blk.mk u Mode.ro (K.ints IntKind.u64 m)] ρ w ⟨V.w (W.c (C.own 2)), [], [Blk.mk 22 (Mode.own b2_0) (K.ints IntKind.u64 b2_1)]⟩) (s95st0 t u l m t6 b2_0 b2_1) :=
  G.ends (tab_ok libk0_ok) mixed [(43, true), (13, false)] 1000000 [(0, none), (1, none), (2, none)] (by kernel_rfl) (by kernel_rfl) (by kernel_rfl) (by kernel_rfl)
    (ocons (ndec h1) onil)

theorem maxN_self (k : Nat) : maxN k k = k := by unfold maxN; omega
theorem lim_take (j k n : Nat) (h : j ≤ k) : (lim k n).take j = lim j n := by
  unfold lim
  rw [← List.map_take, List.take_range, Nat.min_eq_left h]
theorem valL_add0 : ∀ (l : List Int) (b : Nat), 0 < l.length → (0 ≤ l.getD 0 0) → valL (l.set 0 (l.getD 0 0 + b)) = valL l + b
  | [], b, h, _ => by simp at h
  | a :: l, b, _, h => by
    simp only [List.getD_cons_zero] at h ⊢
    simp only [List.set_cons_zero, valL]
    omega
theorem limOk_set {l : List Int} {j : Nat} {x : Int} (h : limOk l = true) (h0 : 0 ≤ x) (h1 : x < 65536) : limOk (l.set j x) = true := by
  unfold limOk at *
  rw [List.all_eq_true] at *
  intro a ha
  rcases List.mem_or_eq_of_mem_set ha with ha | rfl
  · exact h a ha
  · rw [Bool.and_eq_true, decide_eq_true_eq, decide_eq_true_eq]
    exact ⟨h0, h1⟩
theorem s95n (t u : Nat) (l m : List Int) (hl : limOk l = true) (hm : limOk m = true) (hll : l.length ≤ 100000000) (hml : m.length ≤ 100000000) (hY : 0 < valL m) :
    Sx.Spec Try.prog 95 [.c (.sl 0 0 l.length), .c (.sl 1 0 m.length)] [⟨t, .ro, .ints .u64 l⟩, ⟨u, .ro, .ints .u64 m⟩] ⟨.w (.c (.own 2)), [], [⟨22, .own (min (16 * l.length) m.length), .ints .u64 (lim (min (16 * l.length) m.length) (valL l % valL m))⟩]⟩ := by
  refine spec_body (tab := tab libk0) Try.func95 (by kernel_rfl) (by kernel_rfl) (by kernel_rfl) fun ρ w => ?_
  refine s95_1 t u l m ?_
  have hX := valL_lt hl
  have hYl := valL_lt hm
  generalize hx : valL l = X at *
  generalize hy : valL m = Y at *
  generalize hN : 16 * l.length = N at *
  have hXN : X < 2 ^ N := by
    rw [← hN, Nat.pow_mul]
    exact hX
  have ei : IntKind.wrap .i64 (IntKind.wrap .i64 (16 * (l.length : Int)) - 1) = (N : Int) - 1 := by
    rw [i64w (n := 16 * (l.length : Int)) (by omega) (by omega), i64w] <;> omega
  rw [ei]
  have key : ∀ (n : Nat), n ≤ N → ∀ (k : Nat) (row : List Int), k = min (N - n) m.length → row.length = k → limOk row = true → valL row = X / 2 ^ n % Y →
      G (mkX Try.prog (tab libk0) Try.f95 [⟨t, .ro, .ints .u64 l⟩, ⟨u, .ro, .ints .u64 m⟩] ρ w ⟨.w (.c (.own 2)), [], [⟨22, .own (min N m.length), .ints .u64 (lim (min N m.length) (X % Y))⟩]⟩) (s95st0 t u l m ((n : Int) - 1) k row) := by
    intro n
    induction n with
    | zero =>
      intro _ k row hk hlen hok hv
      rw [Nat.pow_zero, Nat.div_one] at hv
      rw [Nat.sub_zero] at hk
      rw [← hk, ← hv, ← hlen, ← lim_valL hok, hlen]
      exact s95_6 t u l m _ k row (by omega)
    | succ n ih =>
      intro hn k row hk hlen hok hv
      rw [show (((n + 1 : Nat) : Int) - 1) = (n : Int) by omega]
      have hb : bitL l (n : Nat) = X / 2 ^ n % 2 := by
        unfold bitL
        rw [hx, Int.toNat_natCast]
      have hb2 : X / 2 ^ n % 2 < 2 := Nat.mod_lt _ (by decide)
      have hrY : valL row < Y := by rw [hv]; exact Nat.mod_lt _ hY
      have hkb : k ≤ 100000000 := by omega
      -- the row of twice the rest
      have hD : (lim (k + 1) (valL row + valL row)).length = k + 1 := lim_length _ _
      have hrow := valL_lt hok
      rw [hlen] at hrow
      have hrow1 : 65536 ^ (k + 1) = 65536 ^ k * 65536 := Nat.pow_succ ..
      have hDv : valL (lim (k + 1) (valL row + valL row)) = valL row + valL row := by
        rw [valL_lim, Nat.mod_eq_of_lt (by omega)]
      have hD0 : List.getD (lim (k + 1) (valL row + valL row)) 0 0 = (((valL row + valL row) % 65536 : Nat) : Int) := by
        rw [valL_get (limOk_lim _ _), hDv, Nat.pow_zero, Nat.div_one]
      have ew : IntKind.wrap .u64 (List.getD (lim (k + 1) (valL row + valL row)) 0 0 + ((bitL l (n : Nat) : Nat) : Int)) = List.getD (lim (k + 1) (valL row + valL row)) 0 0 + ((X / 2 ^ n % 2 : Nat) : Int) := by
        rw [hb, hD0, wU]
        omega
      have hSv := valL_add0 (lim (k + 1) (valL row + valL row)) (X / 2 ^ n % 2) (by omega) (by rw [hD0]; omega)
      have hSok : limOk (List.set (lim (k + 1) (valL row + valL row)) 0 (List.getD (lim (k + 1) (valL row + valL row)) 0 0 + ((X / 2 ^ n % 2 : Nat) : Int))) = true := limOk_set (limOk_lim _ _) (by rw [hD0]; omega) (by rw [hD0]; omega)
      have hSl : (List.set (lim (k + 1) (valL row + valL row)) 0 (List.getD (lim (k + 1) (valL row + valL row)) 0 0 + ((X / 2 ^ n % 2 : Nat) : Int))).length = k + 1 := by rw [List.length_set, hD]
      rw [hDv] at hSv
      have hnext : X / 2 ^ n % Y = (valL row + valL row + X / 2 ^ n % 2) % Y := by rw [rem_bit X Y n hY, hv]
      have el := lim_valL hSok
      rw [hSl, hSv] at el
      generalize hb' : X / 2 ^ n % 2 = b at *
      generalize hr : valL row = r at *
      have en : IntKind.wrap .i64 ((n : Int) - 1) = (n : Int) - 1 := by rw [i64w] <;> omega
      by_cases hge : r + r + b < Y
      · have hmod : (r + r + b) % Y = r + r + b := Nat.mod_eq_of_lt hge
        have g15 : (!!Nat.blt (r + r + b) Y) = true := by rw [Nat.blt_eq.mpr hge]; rfl
        by_cases hcut : k + 1 > m.length
        · refine s95_4 t u l m (n : Nat) k row (by omega) hlen hok (by omega) ?_ ?_ hl (by omega) (by omega) ?_ ?_ hm ?_ (by omega) ?_ ?_ ?_ ?_
          all_goals rw [maxN_self]
          all_goals (try rw [hr])
          all_goals (try rw [ew])
          · omega
          · rw [hD]; omega
          · exact hSl
          · exact hSok
          · rw [hSl]; omega
          · rw [hSv, hy]; exact g15
          · omega
          · omega
          · rw [en, Int.toNat_natCast, el, lim_take _ _ _ (by omega)]
            refine ih (by omega) _ _ (by omega) (lim_length _ _) (limOk_lim _ _) ?_
            rw [valL_lim, Nat.mod_eq_of_lt (by omega), hnext, hmod]
        · refine s95_5 t u l m (n : Nat) k row (by omega) hlen hok (by omega) ?_ ?_ hl (by omega) (by omega) ?_ ?_ hm ?_ (by omega) ?_ ?_ ?_
          all_goals rw [maxN_self]
          all_goals (try rw [hr])
          all_goals (try rw [ew])
          · omega
          · rw [hD]; omega
          · exact hSl
          · exact hSok
          · rw [hSl]; omega
          · rw [hSv, hy]; exact g15
          · omega
          · rw [en]
            refine ih (by omega) _ _ (by omega) hSl hSok ?_
            rw [hSv, hnext, hmod]
      · have hS2 : r + r + b < 65536 ^ (k + 1) := by omega
        have hmod : (r + r + b) % Y = r + r + b - Y := by rw [Nat.mod_eq_sub_mod (by omega), Nat.mod_eq_of_lt (by omega)]
        have g15 : (!Nat.blt (r + r + b) Y) = true := by rw [blt_f hge]; rfl
        have esub : lim (k + 1) (subN (k + 1) (r + r + b) Y) = lim (k + 1) (r + r + b - Y) := by
          unfold subN
          rw [Nat.mod_eq_of_lt (a := Y) (by omega), ← lim_mod (k + 1) (r + r + b + 65536 ^ (k + 1) - Y), show r + r + b + 65536 ^ (k + 1) - Y = (r + r + b - Y) + 65536 ^ (k + 1) by omega, Nat.add_mod_right, lim_mod]
        by_cases hcut : k + 1 > m.length
        · refine s95_2 t u l m (n : Nat) k row (by omega) hlen hok (by omega) ?_ ?_ hl (by omega) (by omega) ?_ ?_ hm ?_ (by omega) ?_ ?_ ?_ ?_
          all_goals rw [maxN_self]
          all_goals (try rw [hr])
          all_goals (try rw [ew])
          · omega
          · rw [hD]; omega
          · exact hSl
          · exact hSok
          · rw [hSl]; omega
          · rw [hSv, hy]; exact g15
          · omega
          · omega
          · rw [en, Int.toNat_natCast, hSv, hy, esub, lim_take _ _ _ (by omega)]
            refine ih (by omega) _ _ (by omega) (lim_length _ _) (limOk_lim _ _) ?_
            rw [valL_lim, Nat.mod_eq_of_lt (by omega), hnext, hmod]
        · refine s95_3 t u l m (n : Nat) k row (by omega) hlen hok (by omega) ?_ ?_ hl (by omega) (by omega) ?_ ?_ hm ?_ (by omega) ?_ ?_ ?_
          all_goals rw [maxN_self]
          all_goals (try rw [hr])
          all_goals (try rw [ew])
          · omega
          · rw [hD]; omega
          · exact hSl
          · exact hSok
          · rw [hSl]; omega
          · rw [hSv, hy]; exact g15
          · omega
          · rw [en, hSv, hy, esub]
            refine ih (by omega) _ _ (by omega) (lim_length _ _) (limOk_lim _ _) ?_
            rw [valL_lim, Nat.mod_eq_of_lt (by omega), hnext, hmod]
  refine key N (Nat.le_refl _) 0 [] (by omega) rfl rfl ?_
  rw [Nat.div_eq_of_lt hXN, Nat.zero_mod]
  rfl
def minN (a b : Nat) : Nat := min a b
def e95 : Entry := fun args ms => match args, ms with
  | [.c (.sl 0 0 n), .c (.sl 1 0 k)], [⟨_, .ro, .ints .u64 l⟩, ⟨_, .ro, .ints .u64 m⟩] => some (⟨.w (.c (.own 2)), [], [⟨22, .own (minN (16 * n) k), .ints .u64 (lim (minN (16 * n) k) (valL l % valL m))⟩]⟩,
      [Nat.beq l.length n, Nat.beq m.length k, limOk l, limOk m, Nat.ble l.length 100000000, Nat.ble m.length 100000000, Nat.blt 0 (valL m)])
  | _, _ => none
theorem e95_ok : EntryOk Try.prog 95 e95 := by
  intro args ms r obs h ho
  unfold e95 at h
  split at h
  · rename_i n k t l u m
    cases h
    simp only [List.mem_cons, List.not_mem_nil, or_false, forall_eq_or_imp, forall_eq, Nat.beq_eq, Nat.ble_eq, Nat.blt_eq] at ho
    obtain ⟨rfl, rfl, h1, h2, h3, h4, h5⟩ := ho
    exact s95n t u l m h1 h2 h3 h4 h5
  · cases h
def libK : List (Nat × Entry) := (95, roE [.ints .u64, .ints .u64] e95) :: libJ
theorem libK_ok : AllOk Try.prog libK := .cons (roE_ok e95_ok) libJ_ok
end Go.Proofs.Ytmjejlbmcefaoaa
