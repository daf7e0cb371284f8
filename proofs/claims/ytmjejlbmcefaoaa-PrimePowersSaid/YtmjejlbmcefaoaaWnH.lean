/- The reference of wide: Of, Add, Sub, Mul, Less, To, Bit over rows of limbs. -/
import Derived.Test.YtmjejlbmcefaoaaLmb
namespace Go.Proofs.Ytmjejlbmcefaoaa
open Go Sx

/-- a row's limb; 0 beyond. -/
def limbI (l : List Int) (i : Int) : Int := bif decide (0 ≤ i) && decide (i < (l.length : Int)) then l.getD i.toNat 0 else 0
def e216 : Entry := fun args ms => match args, ms with
  | [.c (.sl 0 0 n), .c (.v (.int .i64 i))], [⟨_, .ro, .ints .u64 l⟩] => some (⟨.w (.c (.v (.int .u64 (limbI l i)))), [], []⟩, [Nat.beq l.length n])
  | _, _ => none
theorem s216_1 (t : Nat) (l : List Int) (i : Int) (h1 : i < 0) : Sx.Spec Try.prog 216 [W.c (C.sl 0 0 (List.length l)), W.int IntKind.i64 i] [Blk.mk t Mode.ro (K.ints IntKind.u64 l)] ⟨V.int IntKind.u64 0, [], []⟩ :=
  spec_of_whole (tab_ok libn_ok) mixed Try.func216 [(7, true)] 1000000 [(0, none)] (by kernel_rfl) (by kernel_rfl) (by kernel_rfl) (by kernel_rfl) (by kernel_rfl) (by kernel_rfl)
    (ocons (decide_eq_true h1) onil)
theorem s216_2 (t : Nat) (l : List Int) (i : Int) (h1 : ¬i < 0) (h2 : i ≥ (↑(List.length l) : Int)) : Sx.Spec Try.prog 216 [W.c (C.sl 0 0 (List.length l)), W.int IntKind.i64 i] [Blk.mk t Mode.ro (K.ints IntKind.u64 l)] ⟨V.int IntKind.u64 0, [], []⟩ :=
  spec_of_whole (tab_ok libn_ok) mixed Try.func216 [(7, false), (12, true)] 1000000 [(0, none)] (by kernel_rfl) (by kernel_rfl) (by kernel_rfl) (by kernel_rfl) (by kernel_rfl) (by kernel_rfl)
    (ocons (ndec h1) (ocons (decide_eq_true h2) onil))
theorem s216_3 (t : Nat) (l : List Int) (i : Int) (h1 : ¬i < 0) (h2 : ¬i ≥ (↑(List.length l) : Int)) (h3 : 0 ≤ i) (h4 : i < (↑(List.length l) : Int)) (h5 : Int.toNat i < List.length l) : Sx.Spec Try.prog 216 [W.c (C.sl 0 0 (List.length l)), W.int IntKind.i64 i] [Blk.mk t Mode.ro (K.ints IntKind.u64 l)] ⟨V.int IntKind.u64 (List.getD l (Int.toNat i) 0), [], []⟩ :=
  spec_of_whole (tab_ok libn_ok) mixed Try.func216 [(7, false), (12, false)] 1000000 [(0, none)] (by kernel_rfl) (by kernel_rfl) (by kernel_rfl) (by kernel_rfl) (by kernel_rfl) (by kernel_rfl)
    (ocons (ndec h1) (ocons (ndec h2) (ocons (decide_eq_true h3) (ocons (decide_eq_true h4) (ocons (bltT h5) onil)))))


theorem limbI_of (l : List Int) (i : Nat) : limbI l (i : Nat) = l.getD i 0 := limbI_nat l i
theorem s216 (t : Nat) (l : List Int) (i : Int) : Sx.Spec Try.prog 216 [.c (.sl 0 0 l.length), W.int .i64 i] [⟨t, .ro, .ints .u64 l⟩] ⟨.w (.c (.v (.int .u64 (limbI l i)))), [], []⟩ := by
  by_cases h1 : i < 0
  · exact spec_res (s216_1 t l i h1) (by unfold limbI; rw [decide_eq_false (by omega), Bool.false_and]; rfl)
  · by_cases h2 : i ≥ (l.length : Int)
    · exact spec_res (s216_2 t l i h1 h2) (by unfold limbI; rw [decide_eq_false (p := i < (l.length : Int)) (by omega), Bool.and_false]; rfl)
    · exact spec_res (s216_3 t l i h1 h2 (by omega) (by omega) (by omega)) (by unfold limbI; rw [decide_eq_true (by omega), decide_eq_true (by omega)]; rfl)
theorem e216_ok : EntryOk Try.prog 216 e216 := by
  intro args ms r obs h ho
  unfold e216 at h
  split at h
  · rename_i n i t l
    cases h
    have hn : l.length = n := by simpa using ohead ho
    subst hn
    exact s216 t l i
  · cases h
def libg0 : List (Nat × Entry) := [(216, roE [.ints .u64, .val] e216)]
theorem libg0_ok : AllOk Try.prog libg0 := .cons (roE_ok e216_ok) (.nil _)
noncomputable def s83k0 : List Item := kAt Try.prog (tab libn) Try.f83 [] 0 [W.ints IntKind.u64 [0]] []
noncomputable def s83st0 (l : List Int) (t4 : Int) (b1_1 : List Int) : Cfg := cfg s83k0 [1, 3, 4] [V.w (W.c (C.ptr 0 0)), V.w (W.c (C.own 1)), V.int IntKind.i64 t4] [Blk.mk 79 Mode.rw (K.ints IntKind.u64 l), Blk.mk 22 (Mode.own 16) (K.ints IntKind.u64 b1_1)]
theorem s83_1 {ρ : Env} {w : World} {r : Res} (l : List Int) (hg : G (mkX Try.prog (tab libn) Try.f83 [] ρ w r) (s83st0 (l) (0) ([0, 0, 0, 0, 0, 0, 0, 0, 0, 0, 0, 0, 0, 0, 0, 0]))) : G (mkX Try.prog (tab libn) Try.f83 [] ρ w r) (cfg [.code (Try.f83.body.getD .skip)] (List.range 1) ([W.ints IntKind.u64 l].map V.w) []) :=
  G.seg (X := mkX Try.prog (tab libn) Try.f83 [] ρ w r) ⟨tab_ok libn_ok, mixed⟩ [] 1000000 0 [1, 3, 4] [(0, none), (8, none)] (k := s83k0) (vs := [V.w (W.c (C.ptr 0 0)), V.w (W.c (C.own 1)), V.int IntKind.i64 0]) (bs := [Blk.mk 79 Mode.rw (K.ints IntKind.u64 l), Blk.mk 22 (Mode.own 16) (K.ints IntKind.u64 [0, 0, 0, 0, 0, 0, 0, 0, 0, 0, 0, 0, 0, 0, 0, 0])]) (by kernel_rfl) (by kernel_rfl)
    (ocons rfl (ocons rfl (ocons rfl onil))) hg
theorem s83_2 {ρ : Env} {w : World} {r : Res} (l : List Int) (t4 : Int) (b1_1 : List Int) (h1 : t4 < 16) (h2 : 0 ≤ IntKind.wrap IntKind.i64 (Int.tdiv t4 4)) (h3 : IntKind.wrap IntKind.i64 (Int.tdiv t4 4) < 4) (h4 : Int.toNat (IntKind.wrap IntKind.i64 (Int.tdiv t4 4)) < List.length l) (h5 : 0 ≤ IntKind.wrap IntKind.i64 (16 * Int.tmod t4 4)) (h6 : 0 ≤ t4) (h7 : Int.toNat t4 + 0 < List.length b1_1) (hg : G (mkX Try.prog (tab libn) Try.f83 [] ρ w r) (s83st0 (l) (IntKind.wrap IntKind.i64 (t4 + 1)) (List.set b1_1 (Int.toNat t4 + 0) (Int.tmod (Int.fdiv (List.getD l (Int.toNat (IntKind.wrap IntKind.i64 (Int.tdiv t4 4))) 0) (2 ^ min (Int.toNat (IntKind.wrap IntKind.i64 (16 * Int.tmod t4 4))) 64)) 65536)))) : G (mkX Try.prog (tab libn) Try.f83 [] ρ w r) (s83st0 l t4 b1_1) :=
  G.seg (X := mkX Try.prog (tab libn) Try.f83 [] ρ w r) ⟨tab_ok libn_ok, mixed⟩ [(7, true)] 1000000 0 [1, 3, 4] [(0, none), (1, none)] (k := s83k0) (vs := [V.w (W.c (C.ptr 0 0)), V.w (W.c (C.own 1)), V.int IntKind.i64 (IntKind.wrap IntKind.i64 (t4 + 1))]) (bs := [Blk.mk 79 Mode.rw (K.ints IntKind.u64 l), Blk.mk 22 (Mode.own 16) (K.ints IntKind.u64 (List.set b1_1 (Int.toNat t4 + 0) (Int.tmod (Int.fdiv (List.getD l (Int.toNat (IntKind.wrap IntKind.i64 (Int.tdiv t4 4))) 0) (2 ^ min (Int.toNat (IntKind.wrap IntKind.i64 (16 * Int.tmod t4 4))) 64)) 65536)))]) (by kernel_rfl) (by kernel_rfl)
    (ocons (decide_eq_true h1) (ocons rfl (ocons (decide_eq_true h2) (ocons (decide_eq_true h3) (ocons (bltT h4) (ocons rfl (ocons (decide_eq_true h5) (ocons rfl (ocons (decide_eq_true h6) (ocons (decide_eq_true h1) (ocons rfl (ocons (bltT h7) onil)))))))))))) hg
theorem s83_3 {ρ : Env} {w : World} (l : List Int) (t4 : Int) (b1_1 : List Int) (h1 : ¬t4 < 16) : G (mkX Try.prog (tab libn) Try.f83 [] ρ w ⟨V.w (W.c (C.own 0)), [], [Blk.mk 22 (Mode.own 16) (K.ints IntKind.u64 b1_1)]⟩) (s83st0 l t4 b1_1) :=
  G.ends (tab_ok libn_ok) mixed [(7, false)] 1000000 [(1, none)] (by kernel_rfl) (by kernel_rfl) (by kernel_rfl) (by kernel_rfl)
    (ocons (ndec h1) onil)

noncomputable def s85k0 : List Item := kAt Try.prog (tab libg0) Try.f85 [] 0 [W.c (C.sl 0 0 1), W.c (C.sl 1 0 1)] [Blk.mk 1 Mode.ro (K.ints IntKind.u64 [0]), Blk.mk 1 Mode.ro (K.ints IntKind.u64 [0])]
noncomputable def s85st0 (t : Nat) (u : Nat) (l : List Int) (m : List Int) (t6 : Int) (t7 : Int) (b2_1 : List Int) : Cfg := cfg s85k0 [0, 1, 5, 6, 7] [V.w (W.c (C.sl 0 0 (List.length l))), V.w (W.c (C.sl 1 0 (List.length m))), V.w (W.c (C.own 2)), V.int IntKind.u64 t6, V.int IntKind.i64 t7] [Blk.mk t Mode.ro (K.ints IntKind.u64 l), Blk.mk u Mode.ro (K.ints IntKind.u64 m), Blk.mk 22 (Mode.own (Int.toNat (IntKind.wrap IntKind.i64 ((if (↑(List.length m) : Int) > (↑(List.length l) : Int) then (↑(List.length m) : Int) else (↑(List.length l) : Int)) + 1)))) (K.ints IntKind.u64 b2_1)]
theorem s85_1 {ρ : Env} {w : World} {r : Res} (t : Nat) (u : Nat) (l : List Int) (m : List Int) (h1 : 0 ≤ IntKind.wrap IntKind.i64 ((if (↑(List.length m) : Int) > (↑(List.length l) : Int) then (↑(List.length m) : Int) else (↑(List.length l) : Int)) + 1)) (h2 : IntKind.wrap IntKind.i64 ((if (↑(List.length m) : Int) > (↑(List.length l) : Int) then (↑(List.length m) : Int) else (↑(List.length l) : Int)) + 1) ≤ IntKind.wrap IntKind.i64 ((if (↑(List.length m) : Int) > (↑(List.length l) : Int) then (↑(List.length m) : Int) else (↑(List.length l) : Int)) + 1)) (h3 : IntKind.wrap IntKind.i64 ((if (↑(List.length m) : Int) > (↑(List.length l) : Int) then (↑(List.length m) : Int) else (↑(List.length l) : Int)) + 1) ≤ 1099511627776) (hg : G (mkX Try.prog (tab libg0) Try.f85 [Blk.mk t Mode.ro (K.ints IntKind.u64 l), Blk.mk u Mode.ro (K.ints IntKind.u64 m)] ρ w r) (s85st0 t u (l) (m) (0) (0) (List.replicate (Int.toNat (IntKind.wrap IntKind.i64 ((if (↑(List.length m) : Int) > (↑(List.length l) : Int) then (↑(List.length m) : Int) else (↑(List.length l) : Int)) + 1))) 0))) : G (mkX Try.prog (tab libg0) Try.f85 [Blk.mk t Mode.ro (K.ints IntKind.u64 l), Blk.mk u Mode.ro (K.ints IntKind.u64 m)] ρ w r) (cfg [.code (Try.f85.body.getD .skip)] (List.range 2) ([W.c (C.sl 0 0 (List.length l)), W.c (C.sl 1 0 (List.length m))].map V.w) [Blk.mk t Mode.ro (K.ints IntKind.u64 l), Blk.mk u Mode.ro (K.ints IntKind.u64 m)]) :=
  G.seg (X := mkX Try.prog (tab libg0) Try.f85 [Blk.mk t Mode.ro (K.ints IntKind.u64 l), Blk.mk u Mode.ro (K.ints IntKind.u64 m)] ρ w r) ⟨tab_ok libg0_ok, mixed⟩ [] 1000000 0 [0, 1, 5, 6, 7] [(0, none), (1, none), (30, none)] (k := s85k0) (vs := [V.w (W.c (C.sl 0 0 (List.length l))), V.w (W.c (C.sl 1 0 (List.length m))), V.w (W.c (C.own 2)), V.int IntKind.u64 0, V.int IntKind.i64 0]) (bs := [Blk.mk t Mode.ro (K.ints IntKind.u64 l), Blk.mk u Mode.ro (K.ints IntKind.u64 m), Blk.mk 22 (Mode.own (Int.toNat (IntKind.wrap IntKind.i64 ((if (↑(List.length m) : Int) > (↑(List.length l) : Int) then (↑(List.length m) : Int) else (↑(List.length l) : Int)) + 1)))) (K.ints IntKind.u64 (List.replicate (Int.toNat (IntKind.wrap IntKind.i64 ((if (↑(List.length m) : Int) > (↑(List.length l) : Int) then (↑(List.length m) : Int) else (↑(List.length l) : Int)) + 1))) 0))]) (by kernel_rfl) (by kernel_rfl)
    (ocons (decide_eq_true h1) (ocons (decide_eq_true h2) (ocons (decide_eq_true h3) onil))) hg
theorem s85_2 {ρ : Env} {w : World} {r : Res} (t : Nat) (u : Nat) (l : List Int) (m : List Int) (t6 : Int) (t7 : Int) (b2_1 : List Int) (h1 : t7 < (↑(Int.toNat (IntKind.wrap IntKind.i64 ((if (↑(List.length m) : Int) > (↑(List.length l) : Int) then (↑(List.length m) : Int) else (↑(List.length l) : Int)) + 1))) : Int)) (h2 : 0 ≤ t7) (h3 : Int.toNat t7 + 0 < List.length b2_1) (hg : G (mkX Try.prog (tab libg0) Try.f85 [Blk.mk t Mode.ro (K.ints IntKind.u64 l), Blk.mk u Mode.ro (K.ints IntKind.u64 m)] ρ w r) (s85st0 t u (l) (m) (IntKind.wrap IntKind.u64 (Int.tdiv (IntKind.wrap IntKind.u64 (IntKind.wrap IntKind.u64 (limbI l t7 + limbI m t7) + t6)) 65536)) (IntKind.wrap IntKind.i64 (t7 + 1)) (List.set b2_1 (Int.toNat t7 + 0) (Int.tmod (IntKind.wrap IntKind.u64 (IntKind.wrap IntKind.u64 (limbI l t7 + limbI m t7) + t6)) 65536)))) : G (mkX Try.prog (tab libg0) Try.f85 [Blk.mk t Mode.ro (K.ints IntKind.u64 l), Blk.mk u Mode.ro (K.ints IntKind.u64 m)] ρ w r) (s85st0 t u l m t6 t7 b2_1) :=
  G.seg (X := mkX Try.prog (tab libg0) Try.f85 [Blk.mk t Mode.ro (K.ints IntKind.u64 l), Blk.mk u Mode.ro (K.ints IntKind.u64 m)] ρ w r) ⟨tab_ok libg0_ok, mixed⟩ [(19, true)] 1000000 0 [0, 1, 5, 6, 7] [(0, none), (1, none), (2, none)] (k := s85k0) (vs := [V.w (W.c (C.sl 0 0 (List.length l))), V.w (W.c (C.sl 1 0 (List.length m))), V.w (W.c (C.own 2)), V.int IntKind.u64 (IntKind.wrap IntKind.u64 (Int.tdiv (IntKind.wrap IntKind.u64 (IntKind.wrap IntKind.u64 (limbI l t7 + limbI m t7) + t6)) 65536)), V.int IntKind.i64 (IntKind.wrap IntKind.i64 (t7 + 1))]) (bs := [Blk.mk t Mode.ro (K.ints IntKind.u64 l), Blk.mk u Mode.ro (K.ints IntKind.u64 m), Blk.mk 22 (Mode.own (Int.toNat (IntKind.wrap IntKind.i64 ((if (↑(List.length m) : Int) > (↑(List.length l) : Int) then (↑(List.length m) : Int) else (↑(List.length l) : Int)) + 1)))) (K.ints IntKind.u64 (List.set b2_1 (Int.toNat t7 + 0) (Int.tmod (IntKind.wrap IntKind.u64 (IntKind.wrap IntKind.u64 (limbI l t7 + limbI m t7) + t6)) 65536)))]) (by kernel_rfl) (by kernel_rfl)
    (ocons (decide_eq_true h1) (ocons (beqT (rfl : List.length l = List.length l)) (ocons (beqT (rfl : List.length m = List.length m)) (ocons rfl (ocons (decide_eq_true h2) (ocons (decide_eq_true h1) (ocons rfl (ocons (bltT h3) (ocons rfl onil))))))))) hg
theorem s85_3 {ρ : Env} {w : World} (t : Nat) (u : Nat) (l : List Int) (m : List Int) (t6 : Int) (t7 : Int) (b2_1 : List Int) (h1 : ¬t7 < (↑(Int.toNat (IntKind.wrap IntKind.i64 ((if (↑(List.length m) : Int) > (↑(List.length l) : Int) then (↑(List.length m) : Int) else (↑(List.length l) : Int)) + 1))) : Int)) : G (mkX Try.prog (tab libg0) Try.f85 [Blk.mk t Mode.ro (K.ints IntKind.u64 l), Blk.mk u Mode.ro (K.ints IntKind.u64 m)] ρ w ⟨V.w (W.c (C.own 2)), [], [Blk.mk 22 (Mode.own (Int.toNat (IntKind.wrap IntKind.i64 ((if (↑(List.length m) : Int) > (↑(List.length l) : Int) then (↑(List.length m) : Int) else (↑(List.length l) : Int)) + 1)))) (K.ints IntKind.u64 b2_1)]⟩) (s85st0 t u l m t6 t7 b2_1) :=
  G.ends (tab_ok libg0_ok) mixed [(19, false)] 1000000 [(0, none), (1, none), (2, none)] (by kernel_rfl) (by kernel_rfl) (by kernel_rfl) (by kernel_rfl)
    (ocons (ndec h1) onil)

noncomputable def s86k0 : List Item := kAt Try.prog (tab libg0) Try.f86 [] 0 [W.c (C.sl 0 0 1), W.int IntKind.i64 1] [Blk.mk 1 Mode.ro (K.ints IntKind.u64 [0])]
noncomputable def s86st0 (t : Nat) (l : List Int) (i : Int) (t6 : Int) (b2_0 : List Int) : Cfg := cfg s86k0 [0, 1, 4, 5, 6] [V.w (W.c (C.sl 0 0 (List.length l))), V.int IntKind.i64 i, V.w (W.c (C.ptr 1 0)), V.w (W.c (C.ptr 2 0)), V.int IntKind.i64 t6] [Blk.mk t Mode.ro (K.ints IntKind.u64 l), Blk.mk 79 Mode.rw (K.ints IntKind.u64 [0, 0, 0, 0]), Blk.mk 79 Mode.rw (K.ints IntKind.u64 b2_0)]
theorem s86_1 {ρ : Env} {w : World} {r : Res} (t : Nat) (l : List Int) (i : Int) (hg : G (mkX Try.prog (tab libg0) Try.f86 [Blk.mk t Mode.ro (K.ints IntKind.u64 l)] ρ w r) (s86st0 t (l) (i) (0) ([0, 0, 0, 0]))) : G (mkX Try.prog (tab libg0) Try.f86 [Blk.mk t Mode.ro (K.ints IntKind.u64 l)] ρ w r) (cfg [.code (Try.f86.body.getD .skip)] (List.range 2) ([W.c (C.sl 0 0 (List.length l)), W.int IntKind.i64 i].map V.w) [Blk.mk t Mode.ro (K.ints IntKind.u64 l)]) :=
  G.seg (X := mkX Try.prog (tab libg0) Try.f86 [Blk.mk t Mode.ro (K.ints IntKind.u64 l)] ρ w r) ⟨tab_ok libg0_ok, mixed⟩ [] 1000000 0 [0, 1, 4, 5, 6] [(0, none), (1, some IntKind.u64), (5, some IntKind.u64)] (k := s86k0) (vs := [V.w (W.c (C.sl 0 0 (List.length l))), V.int IntKind.i64 i, V.w (W.c (C.ptr 1 0)), V.w (W.c (C.ptr 2 0)), V.int IntKind.i64 0]) (bs := [Blk.mk t Mode.ro (K.ints IntKind.u64 l), Blk.mk 79 Mode.rw (K.ints IntKind.u64 [0, 0, 0, 0]), Blk.mk 79 Mode.rw (K.ints IntKind.u64 [0, 0, 0, 0])]) (by kernel_rfl) (by kernel_rfl)
    onil hg
theorem s86_2 {ρ : Env} {w : World} {r : Res} (t : Nat) (l : List Int) (i : Int) (t6 : Int) (b2_0 : List Int) (h1 : t6 < 16) (h2 : 0 ≤ IntKind.wrap IntKind.i64 (Int.tdiv t6 4)) (h3 : IntKind.wrap IntKind.i64 (Int.tdiv t6 4) < 4) (h4 : Int.toNat (IntKind.wrap IntKind.i64 (Int.tdiv t6 4)) < List.length b2_0) (h5 : 0 ≤ IntKind.wrap IntKind.i64 (16 * Int.tmod t6 4)) (h6 : Int.toNat (IntKind.wrap IntKind.i64 (Int.tdiv t6 4)) + 0 < List.length b2_0) (hg : G (mkX Try.prog (tab libg0) Try.f86 [Blk.mk t Mode.ro (K.ints IntKind.u64 l)] ρ w r) (s86st0 t (l) (i) (IntKind.wrap IntKind.i64 (t6 + 1)) (List.set b2_0 (Int.toNat (IntKind.wrap IntKind.i64 (Int.tdiv t6 4)) + 0) (orI IntKind.u64 (List.getD b2_0 (Int.toNat (IntKind.wrap IntKind.i64 (Int.tdiv t6 4))) 0) (shl IntKind.u64 (limbI l (IntKind.wrap IntKind.i64 (i + t6))) (IntKind.wrap IntKind.i64 (16 * Int.tmod t6 4))))))) : G (mkX Try.prog (tab libg0) Try.f86 [Blk.mk t Mode.ro (K.ints IntKind.u64 l)] ρ w r) (s86st0 t l i t6 b2_0) :=
  G.seg (X := mkX Try.prog (tab libg0) Try.f86 [Blk.mk t Mode.ro (K.ints IntKind.u64 l)] ρ w r) ⟨tab_ok libg0_ok, mixed⟩ [(8, true)] 1000000 0 [0, 1, 4, 5, 6] [(0, none), (1, none), (2, none)] (k := s86k0) (vs := [V.w (W.c (C.sl 0 0 (List.length l))), V.int IntKind.i64 i, V.w (W.c (C.ptr 1 0)), V.w (W.c (C.ptr 2 0)), V.int IntKind.i64 (IntKind.wrap IntKind.i64 (t6 + 1))]) (bs := [Blk.mk t Mode.ro (K.ints IntKind.u64 l), Blk.mk 79 Mode.rw (K.ints IntKind.u64 [0, 0, 0, 0]), Blk.mk 79 Mode.rw (K.ints IntKind.u64 (List.set b2_0 (Int.toNat (IntKind.wrap IntKind.i64 (Int.tdiv t6 4)) + 0) (orI IntKind.u64 (List.getD b2_0 (Int.toNat (IntKind.wrap IntKind.i64 (Int.tdiv t6 4))) 0) (shl IntKind.u64 (limbI l (IntKind.wrap IntKind.i64 (i + t6))) (IntKind.wrap IntKind.i64 (16 * Int.tmod t6 4))))))]) (by kernel_rfl) (by kernel_rfl)
    (ocons (decide_eq_true h1) (ocons rfl (ocons rfl (ocons (decide_eq_true h2) (ocons (decide_eq_true h3) (ocons (bltT h4) (ocons (beqT (rfl : List.length l = List.length l)) (ocons rfl (ocons (decide_eq_true h5) (ocons (decide_eq_true h2) (ocons (decide_eq_true h3) (ocons rfl (ocons (bltT h6) onil))))))))))))) hg
theorem s86_3 {ρ : Env} {w : World} (t : Nat) (l : List Int) (i : Int) (t6 : Int) (b2_0 : List Int) (h1 : ¬t6 < 16) (h2 : 0 < List.length b2_0) (h3 : 1 < List.length b2_0) (h4 : 2 < List.length b2_0) (h5 : 3 < List.length b2_0) (h6 : 3 < List.length (List.set (List.set (List.set [0, 0, 0, 0] 0 (List.getD b2_0 0 0)) 1 (List.getD b2_0 1 0)) 2 (List.getD b2_0 2 0))) (h7 : 0 < List.length (List.set (List.set (List.set (List.set [0, 0, 0, 0] 0 (List.getD b2_0 0 0)) 1 (List.getD b2_0 1 0)) 2 (List.getD b2_0 2 0)) 3 (List.getD b2_0 3 0))) (h8 : 1 < List.length (List.set (List.set (List.set (List.set [0, 0, 0, 0] 0 (List.getD b2_0 0 0)) 1 (List.getD b2_0 1 0)) 2 (List.getD b2_0 2 0)) 3 (List.getD b2_0 3 0))) (h9 : 2 < List.length (List.set (List.set (List.set (List.set [0, 0, 0, 0] 0 (List.getD b2_0 0 0)) 1 (List.getD b2_0 1 0)) 2 (List.getD b2_0 2 0)) 3 (List.getD b2_0 3 0))) (h10 : 3 < List.length (List.set (List.set (List.set (List.set [0, 0, 0, 0] 0 (List.getD b2_0 0 0)) 1 (List.getD b2_0 1 0)) 2 (List.getD b2_0 2 0)) 3 (List.getD b2_0 3 0))) : G (mkX Try.prog (tab libg0) Try.f86 [Blk.mk t Mode.ro (K.ints IntKind.u64 l)] ρ w ⟨V.w (W.agg [C.v (Value.int IntKind.u64 (List.getD (List.set (List.set (List.set (List.set [0, 0, 0, 0] 0 (List.getD b2_0 0 0)) 1 (List.getD b2_0 1 0)) 2 (List.getD b2_0 2 0)) 3 (List.getD b2_0 3 0)) 0 0)), C.v (Value.int IntKind.u64 (List.getD (List.set (List.set (List.set (List.set [0, 0, 0, 0] 0 (List.getD b2_0 0 0)) 1 (List.getD b2_0 1 0)) 2 (List.getD b2_0 2 0)) 3 (List.getD b2_0 3 0)) 1 0)), C.v (Value.int IntKind.u64 (List.getD (List.set (List.set (List.set (List.set [0, 0, 0, 0] 0 (List.getD b2_0 0 0)) 1 (List.getD b2_0 1 0)) 2 (List.getD b2_0 2 0)) 3 (List.getD b2_0 3 0)) 2 0)), C.v (Value.int IntKind.u64 (List.getD (List.set (List.set (List.set (List.set [0, 0, 0, 0] 0 (List.getD b2_0 0 0)) 1 (List.getD b2_0 1 0)) 2 (List.getD b2_0 2 0)) 3 (List.getD b2_0 3 0)) 3 0))]), [], []⟩) (s86st0 t l i t6 b2_0) :=
  G.ends (tab_ok libg0_ok) mixed [(8, false)] 1000000 [(0, none)] (by kernel_rfl) (by kernel_rfl) (by kernel_rfl) (by kernel_rfl)
    (ocons (ndec h1) (ocons (bltT h2) (ocons (bltT h3) (ocons (bltT h4) (ocons (bltT h5) (ocons rfl (ocons rfl (ocons rfl (ocons rfl (ocons (bltT h6) (ocons (bltT h7) (ocons (bltT h8) (ocons (bltT h9) (ocons (bltT h10) onil))))))))))))))

noncomputable def s88k0 : List Item := kAt Try.prog (tab libg0) Try.f88 [] 0 [W.c (C.sl 0 0 1), W.c (C.sl 1 0 1)] [Blk.mk 1 Mode.ro (K.ints IntKind.u64 [0]), Blk.mk 1 Mode.ro (K.ints IntKind.u64 [0])]
noncomputable def s88st0 (t : Nat) (u : Nat) (l : List Int) (m : List Int) (t5 : Int) : Cfg := cfg s88k0 [0, 1, 5] [V.w (W.c (C.sl 0 0 (List.length l))), V.w (W.c (C.sl 1 0 (List.length m))), V.int IntKind.i64 t5] [Blk.mk t Mode.ro (K.ints IntKind.u64 l), Blk.mk u Mode.ro (K.ints IntKind.u64 m)]
theorem s88_1 {ρ : Env} {w : World} {r : Res} (t : Nat) (u : Nat) (l : List Int) (m : List Int) (hg : G (mkX Try.prog (tab libg0) Try.f88 [Blk.mk t Mode.ro (K.ints IntKind.u64 l), Blk.mk u Mode.ro (K.ints IntKind.u64 m)] ρ w r) (s88st0 t u (l) (m) (IntKind.wrap IntKind.i64 ((if (↑(List.length m) : Int) > (↑(List.length l) : Int) then (↑(List.length m) : Int) else (↑(List.length l) : Int)) - 1)))) : G (mkX Try.prog (tab libg0) Try.f88 [Blk.mk t Mode.ro (K.ints IntKind.u64 l), Blk.mk u Mode.ro (K.ints IntKind.u64 m)] ρ w r) (cfg [.code (Try.f88.body.getD .skip)] (List.range 2) ([W.c (C.sl 0 0 (List.length l)), W.c (C.sl 1 0 (List.length m))].map V.w) [Blk.mk t Mode.ro (K.ints IntKind.u64 l), Blk.mk u Mode.ro (K.ints IntKind.u64 m)]) :=
  G.seg (X := mkX Try.prog (tab libg0) Try.f88 [Blk.mk t Mode.ro (K.ints IntKind.u64 l), Blk.mk u Mode.ro (K.ints IntKind.u64 m)] ρ w r) ⟨tab_ok libg0_ok, mixed⟩ [] 1000000 0 [0, 1, 5] [(0, none), (1, none)] (k := s88k0) (vs := [V.w (W.c (C.sl 0 0 (List.length l))), V.w (W.c (C.sl 1 0 (List.length m))), V.int IntKind.i64 (IntKind.wrap IntKind.i64 ((if (↑(List.length m) : Int) > (↑(List.length l) : Int) then (↑(List.length m) : Int) else (↑(List.length l) : Int)) - 1))]) (bs := [Blk.mk t Mode.ro (K.ints IntKind.u64 l), Blk.mk u Mode.ro (K.ints IntKind.u64 m)]) (by kernel_rfl) (by kernel_rfl)
    onil hg
theorem s88_2 {ρ : Env} {w : World} (t : Nat) (u : Nat) (l : List Int) (m : List Int) (t5 : Int) (h1 : t5 ≥ 0) (h2 : ¬limbI l t5 = limbI m t5) : G (mkX Try.prog (tab libg0) Try.f88 [Blk.mk t Mode.ro (K.ints IntKind.u64 l), Blk.mk u Mode.ro (K.ints IntKind.u64 m)] ρ w ⟨V.bool (decide (limbI l t5 < limbI m t5)), [], []⟩) (s88st0 t u l m t5) :=
  G.ends (tab_ok libg0_ok) mixed [(13, true), (22, true)] 1000000 [(0, none), (1, none)] (by kernel_rfl) (by kernel_rfl) (by kernel_rfl) (by kernel_rfl)
    (ocons (decide_eq_true h1) (ocons (beqT (rfl : List.length l = List.length l)) (ocons (beqT (rfl : List.length m = List.length m)) (ocons (bneI h2) (ocons (beqT (rfl : List.length l = List.length l)) (ocons (beqT (rfl : List.length m = List.length m)) onil))))))
theorem s88_3 {ρ : Env} {w : World} {r : Res} (t : Nat) (u : Nat) (l : List Int) (m : List Int) (t5 : Int) (h1 : t5 ≥ 0) (h2 : limbI l t5 = limbI m t5) (hg : G (mkX Try.prog (tab libg0) Try.f88 [Blk.mk t Mode.ro (K.ints IntKind.u64 l), Blk.mk u Mode.ro (K.ints IntKind.u64 m)] ρ w r) (s88st0 t u (l) (m) (IntKind.wrap IntKind.i64 (t5 - 1)))) : G (mkX Try.prog (tab libg0) Try.f88 [Blk.mk t Mode.ro (K.ints IntKind.u64 l), Blk.mk u Mode.ro (K.ints IntKind.u64 m)] ρ w r) (s88st0 t u l m t5) :=
  G.seg (X := mkX Try.prog (tab libg0) Try.f88 [Blk.mk t Mode.ro (K.ints IntKind.u64 l), Blk.mk u Mode.ro (K.ints IntKind.u64 m)] ρ w r) ⟨tab_ok libg0_ok, mixed⟩ [(13, true), (22, false)] 1000000 0 [0, 1, 5] [(0, none), (1, none)] (k := s88k0) (vs := [V.w (W.c (C.sl 0 0 (List.length l))), V.w (W.c (C.sl 1 0 (List.length m))), V.int IntKind.i64 (IntKind.wrap IntKind.i64 (t5 - 1))]) (bs := [Blk.mk t Mode.ro (K.ints IntKind.u64 l), Blk.mk u Mode.ro (K.ints IntKind.u64 m)]) (by kernel_rfl) (by kernel_rfl)
    (ocons (decide_eq_true h1) (ocons (beqT (rfl : List.length l = List.length l)) (ocons (beqT (rfl : List.length m = List.length m)) (ocons (nbneI h2) onil)))) hg
theorem s88_4 {ρ : Env} {w : World} (t : Nat) (u : Nat) (l : List Int) (m : List Int) (t5 : Int) (h1 : ¬t5 ≥ 0) : G (mkX Try.prog (tab libg0) Try.f88 [Blk.mk t Mode.ro (K.ints IntKind.u64 l), Blk.mk u Mode.ro (K.ints IntKind.u64 m)] ρ w ⟨V.bool false, [], []⟩) (s88st0 t u l m t5) :=
  G.ends (tab_ok libg0_ok) mixed [(13, false)] 1000000 [(0, none), (1, none)] (by kernel_rfl) (by kernel_rfl) (by kernel_rfl) (by kernel_rfl)
    (ocons (ndec h1) onil)

noncomputable def s221k0 : List Item := kAt Try.prog (tab libg0) Try.f221 [] 0 [W.c (C.sl 0 0 1), W.c (C.sl 1 0 1)] [Blk.mk 1 Mode.ro (K.ints IntKind.u64 [0]), Blk.mk 1 Mode.ro (K.ints IntKind.u64 [0])]
noncomputable def s221st0 (t : Nat) (u : Nat) (l : List Int) (m : List Int) (t6 : Int) (t7 : Int) (b2_1 : List Int) : Cfg := cfg s221k0 [0, 1, 5, 6, 7] [V.w (W.c (C.sl 0 0 (List.length l))), V.w (W.c (C.sl 1 0 (List.length m))), V.w (W.c (C.own 2)), V.int IntKind.u64 t6, V.int IntKind.i64 t7] [Blk.mk t Mode.ro (K.ints IntKind.u64 l), Blk.mk u Mode.ro (K.ints IntKind.u64 m), Blk.mk 22 (Mode.own (Int.toNat (↑(List.length l) : Int))) (K.ints IntKind.u64 b2_1)]
theorem s221_1 {ρ : Env} {w : World} {r : Res} (t : Nat) (u : Nat) (l : List Int) (m : List Int) (h1 : (↑(List.length l) : Int) ≤ (↑(List.length l) : Int)) (h2 : (↑(List.length l) : Int) ≤ 1099511627776) (hg : G (mkX Try.prog (tab libg0) Try.f221 [Blk.mk t Mode.ro (K.ints IntKind.u64 l), Blk.mk u Mode.ro (K.ints IntKind.u64 m)] ρ w r) (s221st0 t u (l) (m) (0) (0) (List.replicate (Int.toNat (↑(List.length l) : Int)) 0))) : G (mkX Try.prog (tab libg0) Try.f221 [Blk.mk t Mode.ro (K.ints IntKind.u64 l), Blk.mk u Mode.ro (K.ints IntKind.u64 m)] ρ w r) (cfg [.code (Try.f221.body.getD .skip)] (List.range 2) ([W.c (C.sl 0 0 (List.length l)), W.c (C.sl 1 0 (List.length m))].map V.w) [Blk.mk t Mode.ro (K.ints IntKind.u64 l), Blk.mk u Mode.ro (K.ints IntKind.u64 m)]) :=
  G.seg (X := mkX Try.prog (tab libg0) Try.f221 [Blk.mk t Mode.ro (K.ints IntKind.u64 l), Blk.mk u Mode.ro (K.ints IntKind.u64 m)] ρ w r) ⟨tab_ok libg0_ok, mixed⟩ [] 1000000 0 [0, 1, 5, 6, 7] [(0, none), (1, none), (14, none)] (k := s221k0) (vs := [V.w (W.c (C.sl 0 0 (List.length l))), V.w (W.c (C.sl 1 0 (List.length m))), V.w (W.c (C.own 2)), V.int IntKind.u64 0, V.int IntKind.i64 0]) (bs := [Blk.mk t Mode.ro (K.ints IntKind.u64 l), Blk.mk u Mode.ro (K.ints IntKind.u64 m), Blk.mk 22 (Mode.own (Int.toNat (↑(List.length l) : Int))) (K.ints IntKind.u64 (List.replicate (Int.toNat (↑(List.length l) : Int)) 0))]) (by kernel_rfl) (by kernel_rfl)
    (ocons rfl (ocons (decide_eq_true h1) (ocons (decide_eq_true h2) onil))) hg
theorem s221_2 {ρ : Env} {w : World} {r : Res} (t : Nat) (u : Nat) (l : List Int) (m : List Int) (t6 : Int) (t7 : Int) (b2_1 : List Int) (h1 : t7 < (↑(List.length l) : Int)) (h2 : 0 ≤ t7) (h3 : t7 < (↑(Int.toNat (↑(List.length l) : Int)) : Int)) (h4 : Int.toNat t7 + 0 < List.length b2_1) (hg : G (mkX Try.prog (tab libg0) Try.f221 [Blk.mk t Mode.ro (K.ints IntKind.u64 l), Blk.mk u Mode.ro (K.ints IntKind.u64 m)] ρ w r) (s221st0 t u (l) (m) (IntKind.wrap IntKind.u64 (1 - IntKind.wrap IntKind.u64 (Int.tdiv (IntKind.wrap IntKind.u64 (IntKind.wrap IntKind.u64 (IntKind.wrap IntKind.u64 (65536 + limbI l t7) - limbI m t7) - t6)) 65536))) (IntKind.wrap IntKind.i64 (t7 + 1)) (List.set b2_1 (Int.toNat t7 + 0) (Int.tmod (IntKind.wrap IntKind.u64 (IntKind.wrap IntKind.u64 (IntKind.wrap IntKind.u64 (65536 + limbI l t7) - limbI m t7) - t6)) 65536)))) : G (mkX Try.prog (tab libg0) Try.f221 [Blk.mk t Mode.ro (K.ints IntKind.u64 l), Blk.mk u Mode.ro (K.ints IntKind.u64 m)] ρ w r) (s221st0 t u l m t6 t7 b2_1) :=
  G.seg (X := mkX Try.prog (tab libg0) Try.f221 [Blk.mk t Mode.ro (K.ints IntKind.u64 l), Blk.mk u Mode.ro (K.ints IntKind.u64 m)] ρ w r) ⟨tab_ok libg0_ok, mixed⟩ [(15, true)] 1000000 0 [0, 1, 5, 6, 7] [(0, none), (1, none), (2, none)] (k := s221k0) (vs := [V.w (W.c (C.sl 0 0 (List.length l))), V.w (W.c (C.sl 1 0 (List.length m))), V.w (W.c (C.own 2)), V.int IntKind.u64 (IntKind.wrap IntKind.u64 (1 - IntKind.wrap IntKind.u64 (Int.tdiv (IntKind.wrap IntKind.u64 (IntKind.wrap IntKind.u64 (IntKind.wrap IntKind.u64 (65536 + limbI l t7) - limbI m t7) - t6)) 65536))), V.int IntKind.i64 (IntKind.wrap IntKind.i64 (t7 + 1))]) (bs := [Blk.mk t Mode.ro (K.ints IntKind.u64 l), Blk.mk u Mode.ro (K.ints IntKind.u64 m), Blk.mk 22 (Mode.own (Int.toNat (↑(List.length l) : Int))) (K.ints IntKind.u64 (List.set b2_1 (Int.toNat t7 + 0) (Int.tmod (IntKind.wrap IntKind.u64 (IntKind.wrap IntKind.u64 (IntKind.wrap IntKind.u64 (65536 + limbI l t7) - limbI m t7) - t6)) 65536)))]) (by kernel_rfl) (by kernel_rfl)
    (ocons (decide_eq_true h1) (ocons (beqT (rfl : List.length l = List.length l)) (ocons (beqT (rfl : List.length m = List.length m)) (ocons rfl (ocons (decide_eq_true h2) (ocons (decide_eq_true h3) (ocons rfl (ocons (bltT h4) (ocons rfl onil))))))))) hg
theorem s221_3 {ρ : Env} {w : World} (t : Nat) (u : Nat) (l : List Int) (m : List Int) (t6 : Int) (t7 : Int) (b2_1 : List Int) (h1 : ¬t7 < (↑(List.length l) : Int)) : G (mkX Try.prog (tab libg0) Try.f221 [Blk.mk t Mode.ro (K.ints IntKind.u64 l), Blk.mk u Mode.ro (K.ints IntKind.u64 m)] ρ w ⟨V.w (W.c (C.own 2)), [], [Blk.mk 22 (Mode.own (Int.toNat (↑(List.length l) : Int))) (K.ints IntKind.u64 b2_1)]⟩) (s221st0 t u l m t6 t7 b2_1) :=
  G.ends (tab_ok libg0_ok) mixed [(15, false)] 1000000 [(0, none), (1, none), (2, none)] (by kernel_rfl) (by kernel_rfl) (by kernel_rfl) (by kernel_rfl)
    (ocons (ndec h1) onil)

noncomputable def s90k0 : List Item := kAt Try.prog (tab libn) Try.f90 [] 0 [W.c (C.sl 0 0 1), W.c (C.sl 1 0 1)] [Blk.mk 1 Mode.ro (K.ints IntKind.u64 [0]), Blk.mk 1 Mode.ro (K.ints IntKind.u64 [0])]
noncomputable def s90st0 (t : Nat) (u : Nat) (l : List Int) (m : List Int) (t6h0 : Int) (b2_1h0 : List Int) : Cfg := cfg s90k0 [0, 1, 5, 6] [V.w (W.c (C.sl 0 0 (List.length l))), V.w (W.c (C.sl 1 0 (List.length m))), V.w (W.c (C.own 2)), V.int IntKind.i64 t6h0] [Blk.mk t Mode.ro (K.ints IntKind.u64 l), Blk.mk u Mode.ro (K.ints IntKind.u64 m), Blk.mk 22 (Mode.own (Int.toNat (IntKind.wrap IntKind.i64 ((↑(List.length l) : Int) + (↑(List.length m) : Int))))) (K.ints IntKind.u64 b2_1h0)]
noncomputable def s90k1 : List Item := kAt Try.prog (tab libn) Try.f90 [(19, true)] 1 [W.c (C.sl 0 0 1), W.c (C.sl 1 0 1)] [Blk.mk 1 Mode.ro (K.ints IntKind.u64 [0]), Blk.mk 1 Mode.ro (K.ints IntKind.u64 [0])]
noncomputable def s90st1 (t : Nat) (u : Nat) (l : List Int) (m : List Int) (t7h1 : Int) (t8h1 : Int) (b2_1h1 : List Int) (t6h0 : Int) : Cfg := cfg s90k1 [0, 1, 5, 6, 7, 8] [V.w (W.c (C.sl 0 0 (List.length l))), V.w (W.c (C.sl 1 0 (List.length m))), V.w (W.c (C.own 2)), V.int IntKind.i64 t6h0, V.int IntKind.u64 t7h1, V.int IntKind.i64 t8h1] [Blk.mk t Mode.ro (K.ints IntKind.u64 l), Blk.mk u Mode.ro (K.ints IntKind.u64 m), Blk.mk 22 (Mode.own (Int.toNat (IntKind.wrap IntKind.i64 ((↑(List.length l) : Int) + (↑(List.length m) : Int))))) (K.ints IntKind.u64 b2_1h1)]
theorem s90_1 {ρ : Env} {w : World} {r : Res} (t : Nat) (u : Nat) (l : List Int) (m : List Int) (h1 : 0 ≤ IntKind.wrap IntKind.i64 ((↑(List.length l) : Int) + (↑(List.length m) : Int))) (h2 : IntKind.wrap IntKind.i64 ((↑(List.length l) : Int) + (↑(List.length m) : Int)) ≤ IntKind.wrap IntKind.i64 ((↑(List.length l) : Int) + (↑(List.length m) : Int))) (h3 : IntKind.wrap IntKind.i64 ((↑(List.length l) : Int) + (↑(List.length m) : Int)) ≤ 1099511627776) (hg : G (mkX Try.prog (tab libn) Try.f90 [Blk.mk t Mode.ro (K.ints IntKind.u64 l), Blk.mk u Mode.ro (K.ints IntKind.u64 m)] ρ w r) (s90st0 t u (l) (m) (0) (List.replicate (Int.toNat (IntKind.wrap IntKind.i64 ((↑(List.length l) : Int) + (↑(List.length m) : Int)))) 0))) : G (mkX Try.prog (tab libn) Try.f90 [Blk.mk t Mode.ro (K.ints IntKind.u64 l), Blk.mk u Mode.ro (K.ints IntKind.u64 m)] ρ w r) (cfg [.code (Try.f90.body.getD .skip)] (List.range 2) ([W.c (C.sl 0 0 (List.length l)), W.c (C.sl 1 0 (List.length m))].map V.w) [Blk.mk t Mode.ro (K.ints IntKind.u64 l), Blk.mk u Mode.ro (K.ints IntKind.u64 m)]) :=
  G.seg (X := mkX Try.prog (tab libn) Try.f90 [Blk.mk t Mode.ro (K.ints IntKind.u64 l), Blk.mk u Mode.ro (K.ints IntKind.u64 m)] ρ w r) ⟨tab_ok libn_ok, mixed⟩ [] 1000000 0 [0, 1, 5, 6] [(0, none), (1, none), (26, none)] (k := s90k0) (vs := [V.w (W.c (C.sl 0 0 (List.length l))), V.w (W.c (C.sl 1 0 (List.length m))), V.w (W.c (C.own 2)), V.int IntKind.i64 0]) (bs := [Blk.mk t Mode.ro (K.ints IntKind.u64 l), Blk.mk u Mode.ro (K.ints IntKind.u64 m), Blk.mk 22 (Mode.own (Int.toNat (IntKind.wrap IntKind.i64 ((↑(List.length l) : Int) + (↑(List.length m) : Int))))) (K.ints IntKind.u64 (List.replicate (Int.toNat (IntKind.wrap IntKind.i64 ((↑(List.length l) : Int) + (↑(List.length m) : Int)))) 0))]) (by kernel_rfl) (by kernel_rfl)
    (ocons (decide_eq_true h1) (ocons (decide_eq_true h2) (ocons (decide_eq_true h3) onil))) hg
theorem s90_2 {ρ : Env} {w : World} {r : Res} (t : Nat) (u : Nat) (l : List Int) (m : List Int) (t6h0 : Int) (b2_1h0 : List Int) (h1 : t6h0 < (↑(List.length l) : Int)) (hg : G (mkX Try.prog (tab libn) Try.f90 [Blk.mk t Mode.ro (K.ints IntKind.u64 l), Blk.mk u Mode.ro (K.ints IntKind.u64 m)] ρ w r) (s90st1 t u (l) (m) (0) (0) (b2_1h0) (t6h0))) : G (mkX Try.prog (tab libn) Try.f90 [Blk.mk t Mode.ro (K.ints IntKind.u64 l), Blk.mk u Mode.ro (K.ints IntKind.u64 m)] ρ w r) (s90st0 t u l m t6h0 b2_1h0) :=
  G.seg (X := mkX Try.prog (tab libn) Try.f90 [Blk.mk t Mode.ro (K.ints IntKind.u64 l), Blk.mk u Mode.ro (K.ints IntKind.u64 m)] ρ w r) ⟨tab_ok libn_ok, mixed⟩ [(19, true)] 1000000 0 [0, 1, 5, 6, 7, 8] [(0, none), (1, none), (2, none)] (k := s90k1) (vs := [V.w (W.c (C.sl 0 0 (List.length l))), V.w (W.c (C.sl 1 0 (List.length m))), V.w (W.c (C.own 2)), V.int IntKind.i64 t6h0, V.int IntKind.u64 0, V.int IntKind.i64 0]) (bs := [Blk.mk t Mode.ro (K.ints IntKind.u64 l), Blk.mk u Mode.ro (K.ints IntKind.u64 m), Blk.mk 22 (Mode.own (Int.toNat (IntKind.wrap IntKind.i64 ((↑(List.length l) : Int) + (↑(List.length m) : Int))))) (K.ints IntKind.u64 b2_1h0)]) (by kernel_rfl) (by kernel_rfl)
    (ocons (decide_eq_true h1) onil) hg
theorem s90_3 {ρ : Env} {w : World} (t : Nat) (u : Nat) (l : List Int) (m : List Int) (t6h0 : Int) (b2_1h0 : List Int) (h1 : ¬t6h0 < (↑(List.length l) : Int)) : G (mkX Try.prog (tab libn) Try.f90 [Blk.mk t Mode.ro (K.ints IntKind.u64 l), Blk.mk u Mode.ro (K.ints IntKind.u64 m)] ρ w ⟨V.w (W.c (C.own 2)), [], [Blk.mk 22 (Mode.own (Int.toNat (IntKind.wrap IntKind.i64 ((↑(List.length l) : Int) + (↑(List.length m) : Int))))) (K.ints IntKind.u64 b2_1h0)]⟩) (s90st0 t u l m t6h0 b2_1h0) :=
  G.ends (tab_ok libn_ok) mixed [(19, false)] 1000000 [(0, none), (1, none), (2, none)] (by kernel_rfl) (by kernel_rfl) (by kernel_rfl) (by kernel_rfl)
    (ocons (ndec h1) onil)
theorem s90_4 {ρ : Env} {w : World} {r : Res} (t : Nat) (u : Nat) (l : List Int) (m : List Int) (t7h1 : Int) (t8h1 : Int) (b2_1h1 : List Int) (t6h0 : Int) (h1 : t8h1 < (↑(List.length m) : Int)) (h2 : 0 ≤ IntKind.wrap IntKind.i64 (t6h0 + t8h1)) (h3 : IntKind.wrap IntKind.i64 (t6h0 + t8h1) < (↑(Int.toNat (IntKind.wrap IntKind.i64 ((↑(List.length l) : Int) + (↑(List.length m) : Int)))) : Int)) (h4 : Int.toNat (IntKind.wrap IntKind.i64 (t6h0 + t8h1)) < List.length b2_1h1) (h5 : 0 ≤ t6h0) (h6 : t6h0 < (↑(List.length l) : Int)) (h7 : Int.toNat t6h0 < List.length l) (h8 : 0 ≤ t8h1) (h9 : Int.toNat t8h1 < List.length m) (h10 : Int.toNat (IntKind.wrap IntKind.i64 (t6h0 + t8h1)) + 0 < List.length b2_1h1) (hg : G (mkX Try.prog (tab libn) Try.f90 [Blk.mk t Mode.ro (K.ints IntKind.u64 l), Blk.mk u Mode.ro (K.ints IntKind.u64 m)] ρ w r) (s90st1 t u (l) (m) (IntKind.wrap IntKind.u64 (Int.tdiv (IntKind.wrap IntKind.u64 (IntKind.wrap IntKind.u64 (List.getD b2_1h1 (Int.toNat (IntKind.wrap IntKind.i64 (t6h0 + t8h1))) 0 + IntKind.wrap IntKind.u64 (List.getD l (Int.toNat t6h0) 0 * List.getD m (Int.toNat t8h1) 0)) + t7h1)) 65536)) (IntKind.wrap IntKind.i64 (t8h1 + 1)) (List.set b2_1h1 (Int.toNat (IntKind.wrap IntKind.i64 (t6h0 + t8h1)) + 0) (Int.tmod (IntKind.wrap IntKind.u64 (IntKind.wrap IntKind.u64 (List.getD b2_1h1 (Int.toNat (IntKind.wrap IntKind.i64 (t6h0 + t8h1))) 0 + IntKind.wrap IntKind.u64 (List.getD l (Int.toNat t6h0) 0 * List.getD m (Int.toNat t8h1) 0)) + t7h1)) 65536)) (t6h0))) : G (mkX Try.prog (tab libn) Try.f90 [Blk.mk t Mode.ro (K.ints IntKind.u64 l), Blk.mk u Mode.ro (K.ints IntKind.u64 m)] ρ w r) (s90st1 t u l m t7h1 t8h1 b2_1h1 t6h0) :=
  G.seg (X := mkX Try.prog (tab libn) Try.f90 [Blk.mk t Mode.ro (K.ints IntKind.u64 l), Blk.mk u Mode.ro (K.ints IntKind.u64 m)] ρ w r) ⟨tab_ok libn_ok, mixed⟩ [(25, true)] 1000000 0 [0, 1, 5, 6, 7, 8] [(0, none), (1, none), (2, none)] (k := s90k1) (vs := [V.w (W.c (C.sl 0 0 (List.length l))), V.w (W.c (C.sl 1 0 (List.length m))), V.w (W.c (C.own 2)), V.int IntKind.i64 t6h0, V.int IntKind.u64 (IntKind.wrap IntKind.u64 (Int.tdiv (IntKind.wrap IntKind.u64 (IntKind.wrap IntKind.u64 (List.getD b2_1h1 (Int.toNat (IntKind.wrap IntKind.i64 (t6h0 + t8h1))) 0 + IntKind.wrap IntKind.u64 (List.getD l (Int.toNat t6h0) 0 * List.getD m (Int.toNat t8h1) 0)) + t7h1)) 65536)), V.int IntKind.i64 (IntKind.wrap IntKind.i64 (t8h1 + 1))]) (bs := [Blk.mk t Mode.ro (K.ints IntKind.u64 l), Blk.mk u Mode.ro (K.ints IntKind.u64 m), Blk.mk 22 (Mode.own (Int.toNat (IntKind.wrap IntKind.i64 ((↑(List.length l) : Int) + (↑(List.length m) : Int))))) (K.ints IntKind.u64 (List.set b2_1h1 (Int.toNat (IntKind.wrap IntKind.i64 (t6h0 + t8h1)) + 0) (Int.tmod (IntKind.wrap IntKind.u64 (IntKind.wrap IntKind.u64 (List.getD b2_1h1 (Int.toNat (IntKind.wrap IntKind.i64 (t6h0 + t8h1))) 0 + IntKind.wrap IntKind.u64 (List.getD l (Int.toNat t6h0) 0 * List.getD m (Int.toNat t8h1) 0)) + t7h1)) 65536)))]) (by kernel_rfl) (by kernel_rfl)
    (ocons (decide_eq_true h1) (ocons (decide_eq_true h2) (ocons (decide_eq_true h3) (ocons (bltT h4) (ocons (decide_eq_true h5) (ocons (decide_eq_true h6) (ocons (bltT h7) (ocons (decide_eq_true h8) (ocons (decide_eq_true h1) (ocons (bltT h9) (ocons rfl (ocons (decide_eq_true h2) (ocons (decide_eq_true h3) (ocons rfl (ocons (bltT h10) (ocons rfl onil)))))))))))))))) hg
theorem s90_5 {ρ : Env} {w : World} {r : Res} (t : Nat) (u : Nat) (l : List Int) (m : List Int) (t7h1 : Int) (t8h1 : Int) (b2_1h1 : List Int) (t6h0 : Int) (h1 : ¬t8h1 < (↑(List.length m) : Int)) (h2 : 0 ≤ IntKind.wrap IntKind.i64 (t6h0 + (↑(List.length m) : Int))) (h3 : IntKind.wrap IntKind.i64 (t6h0 + (↑(List.length m) : Int)) < (↑(Int.toNat (IntKind.wrap IntKind.i64 ((↑(List.length l) : Int) + (↑(List.length m) : Int)))) : Int)) (h4 : Int.toNat (IntKind.wrap IntKind.i64 (t6h0 + (↑(List.length m) : Int))) + 0 < List.length b2_1h1) (hg : G (mkX Try.prog (tab libn) Try.f90 [Blk.mk t Mode.ro (K.ints IntKind.u64 l), Blk.mk u Mode.ro (K.ints IntKind.u64 m)] ρ w r) (s90st0 t u (l) (m) (IntKind.wrap IntKind.i64 (t6h0 + 1)) (List.set b2_1h1 (Int.toNat (IntKind.wrap IntKind.i64 (t6h0 + (↑(List.length m) : Int))) + 0) t7h1))) : G (mkX Try.prog (tab libn) Try.f90 [Blk.mk t Mode.ro (K.ints IntKind.u64 l), Blk.mk u Mode.ro (K.ints IntKind.u64 m)] ρ w r) (s90st1 t u l m t7h1 t8h1 b2_1h1 t6h0) :=
  G.seg (X := mkX Try.prog (tab libn) Try.f90 [Blk.mk t Mode.ro (K.ints IntKind.u64 l), Blk.mk u Mode.ro (K.ints IntKind.u64 m)] ρ w r) ⟨tab_ok libn_ok, mixed⟩ [(25, false)] 1000000 0 [0, 1, 5, 6] [(0, none), (1, none), (2, none)] (k := s90k0) (vs := [V.w (W.c (C.sl 0 0 (List.length l))), V.w (W.c (C.sl 1 0 (List.length m))), V.w (W.c (C.own 2)), V.int IntKind.i64 (IntKind.wrap IntKind.i64 (t6h0 + 1))]) (bs := [Blk.mk t Mode.ro (K.ints IntKind.u64 l), Blk.mk u Mode.ro (K.ints IntKind.u64 m), Blk.mk 22 (Mode.own (Int.toNat (IntKind.wrap IntKind.i64 ((↑(List.length l) : Int) + (↑(List.length m) : Int))))) (K.ints IntKind.u64 (List.set b2_1h1 (Int.toNat (IntKind.wrap IntKind.i64 (t6h0 + (↑(List.length m) : Int))) + 0) t7h1))]) (by kernel_rfl) (by kernel_rfl)
    (ocons (ndec h1) (ocons (decide_eq_true h2) (ocons (decide_eq_true h3) (ocons rfl (ocons (bltT h4) onil))))) hg

theorem s98_1 (t : Nat) (l : List Int) (i : Int) (h1 : 0 ≤ Int.tmod i 16) : Sx.Spec Try.prog 98 [W.c (C.sl 0 0 (List.length l)), W.int IntKind.i64 i] [Blk.mk t Mode.ro (K.ints IntKind.u64 l)] ⟨V.int IntKind.u64 (Int.tmod (Int.fdiv (limbI l (IntKind.wrap IntKind.i64 (Int.tdiv i 16))) (2 ^ min (Int.toNat (Int.tmod i 16)) 64)) 2), [], []⟩ :=
  spec_of_whole (tab_ok libg0_ok) mixed Try.func98 [] 1000000 [(0, none)] (by kernel_rfl) (by kernel_rfl) (by kernel_rfl) (by kernel_rfl) (by kernel_rfl) (by kernel_rfl)
    (ocons rfl (ocons (beqT (rfl : List.length l = List.length l)) (ocons rfl (ocons (decide_eq_true h1) (ocons rfl onil)))))


theorem tmodN (a b : Nat) : Int.tmod (a : Int) (b : Int) = ((a % b : Nat) : Int) := rfl
theorem tdivN (a b : Nat) : Int.tdiv (a : Int) (b : Int) = ((a / b : Nat) : Int) := rfl
theorem limb_word (a j : Nat) (hj : j < 16) : Int.tmod (Int.fdiv (List.getD (wrow a) (Int.toNat (IntKind.wrap .i64 (Int.tdiv (j : Nat) 4))) 0) (2 ^ min (Int.toNat (IntKind.wrap .i64 (16 * Int.tmod (j : Nat) 4))) 64)) 65536 = ((a / 65536 ^ j % 65536 : Nat) : Int) := by
  have e1 : IntKind.wrap .i64 (Int.tdiv (j : Int) 4) = ((j / 4 : Nat) : Int) := by
    rw [Int.tdiv_eq_ediv_of_nonneg (by omega), i64w] <;> omega
  have e2 : IntKind.wrap .i64 (16 * Int.tmod (j : Int) 4) = ((16 * (j % 4) : Nat) : Int) := by
    rw [Int.tmod_eq_emod_of_nonneg (by omega), i64w] <;> omega
  rw [e1, e2, Int.toNat_natCast, Int.toNat_natCast, wrow_get a _ (by omega), show min (16 * (j % 4)) 64 = 16 * (j % 4) by omega]
  have ef : (wd a (j / 4)).fdiv (2 ^ (16 * (j % 4))) = ((a / 18446744073709551616 ^ (j / 4) % 18446744073709551616 / 2 ^ (16 * (j % 4)) : Nat) : Int) := by
    unfold wd
    rw [Int.fdiv_eq_ediv_of_nonneg _ (by exact_mod_cast Nat.zero_le _)]
    simp
  rw [ef]
  have := word_part a (j / 4) (16 * (j % 4)) 16 (by omega)
  rw [show (64 * (j / 4) + 16 * (j % 4)) = 16 * j by omega, show (2 : Nat) ^ (16 * j) = 65536 ^ j from by rw [Nat.pow_mul], show (2 : Nat) ^ 16 = 65536 from rfl] at this
  rw [← this]
  exact tmodN _ 65536
def rowR (v : List Int) (n : Nat) : Res := ⟨.w (.c (.own 0)), [], [⟨22, .own n, .ints .u64 v⟩]⟩
def r83 : List Nat → Res := fun ns => match ns with | [a] => ⟨.w (.c (.own 0)), [], [⟨22, .own 16, .ints .u64 (lim 16 a)⟩]⟩ | _ => ⟨.tup [], [], []⟩
theorem s83n (a : Nat) : Sx.Spec Try.prog 83 [.agg (numC a)] [] (r83 [a]) := by
  refine Spec.imps (bs := [.ints .u64 (wrow a)]) (.cons (fun _ _ => rw_row) .nil) ?_
  refine spec_body (tab := tab libn) Try.func83 (by kernel_rfl) (by kernel_rfl) (by kernel_rfl) fun ρ w => ?_
  have hl : (wrow a).length = 4 := rfl
  refine s83_1 _ ?_
  refine G.loop (fun j => s83st0 (wrow a) (j : Nat) (lim j a ++ List.replicate (16 - j) 0)) 16 (fun j hj hg => ?_) ?_
  · have e1 : IntKind.wrap .i64 (Int.tdiv (j : Int) 4) = ((j / 4 : Nat) : Int) := by
      rw [Int.tdiv_eq_ediv_of_nonneg (by omega), i64w] <;> omega
    have e2 : IntKind.wrap .i64 (16 * Int.tmod (j : Int) 4) = ((16 * (j % 4) : Nat) : Int) := by
      rw [Int.tmod_eq_emod_of_nonneg (by omega), i64w] <;> omega
    refine s83_2 _ _ _ (by omega) (by rw [e1]; omega) (by rw [e1]; omega) (by rw [e1, hl]; omega) (by rw [e2]; omega) (by omega) (by simp [lim_length]; omega) ?_
    rw [limb_word a j hj, i64s j (by omega), Int.toNat_natCast]
    simp only [Nat.add_zero]
    have hs := set_fill (lim j a) (15 - j) ((a / 65536 ^ j % 65536 : Nat) : Int)
    rw [lim_length, show 15 - j + 1 = 16 - j by omega] at hs
    rw [hs, ← lim_succ]
    simp only [show 16 - (j + 1) = 15 - j by omega] at hg
    exact hg
  · have : lim 16 a ++ List.replicate (16 - 16) 0 = lim 16 a := by simp
    rw [this]
    exact s83_3 _ _ _ (by decide)
theorem e83n_ok : EntryOk Try.prog 83 (numsE [1] r83) := numsE_ok fun ns h hl => by
  obtain ⟨a, rfl⟩ := ns1 h
  exact s83n a

/-- sums. -/
def maxN (a b : Nat) : Nat := max a b
theorem max_len (l m : List Int) : (if (m.length : Int) > (l.length : Int) then (m.length : Int) else (l.length : Int)) = ((maxN l.length m.length : Nat) : Int) := by
  unfold maxN
  split <;> omega
theorem fill_set (l : List Int) (k j : Nat) (hj : l.length = j) (hk : j < k) (x : Int) : (l ++ List.replicate (k - j) 0).set j x = (l ++ [x]) ++ List.replicate (k - (j + 1)) 0 := by
  have := set_fill l (k - j - 1) x
  rw [hj, show k - j - 1 + 1 = k - j by omega] at this
  rw [this, show k - j - 1 = k - (j + 1) by omega]
theorem s85n (t u : Nat) (l m : List Int) (hl : limOk l = true) (hm : limOk m = true) (hll : l.length ≤ 1000000000) (hml : m.length ≤ 1000000000) :
    Sx.Spec Try.prog 85 [.c (.sl 0 0 l.length), .c (.sl 1 0 m.length)] [⟨t, .ro, .ints .u64 l⟩, ⟨u, .ro, .ints .u64 m⟩] ⟨.w (.c (.own 2)), [], [⟨22, .own (maxN l.length m.length + 1), .ints .u64 (lim (maxN l.length m.length + 1) (valL l + valL m))⟩]⟩ := by
  refine spec_body (tab := tab libg0) Try.func85 (by kernel_rfl) (by kernel_rfl) (by kernel_rfl) fun ρ w => ?_
  have hk : maxN l.length m.length ≤ 1000000000 := by unfold maxN; omega
  have en : IntKind.wrap .i64 ((if (m.length : Int) > (l.length : Int) then (m.length : Int) else (l.length : Int)) + 1) = ((maxN l.length m.length + 1 : Nat) : Int) := by
    rw [max_len, i64w] <;> omega
  generalize hK : maxN l.length m.length + 1 = K at *
  refine s85_1 t u l m (by rw [en]; omega) (by omega) (by rw [en]; omega) ?_
  rw [en, Int.toNat_natCast]
  have hx := valL_get hl
  have hy := valL_get hm
  generalize hX : valL l = x at *
  generalize hY : valL m = y at *
  have h0 : (((x % 65536 ^ 0 + y % 65536 ^ 0) / 65536 ^ 0 : Nat) : Int) = 0 := by
    rw [Nat.pow_zero, Nat.mod_one, Nat.mod_one]
    rfl
  have hgo := G.loop (X := mkX Try.prog (tab libg0) Try.f85 [⟨t, .ro, .ints .u64 l⟩, ⟨u, .ro, .ints .u64 m⟩] ρ w ⟨.w (.c (.own 2)), [], [⟨22, .own K, .ints .u64 (lim K (x + y))⟩]⟩) (fun j => s85st0 t u l m (((x % 65536 ^ j + y % 65536 ^ j) / 65536 ^ j : Nat) : Int) (j : Nat) (lim j (x + y) ++ List.replicate (K - j) 0)) K (fun j hj hg => ?_) ?_
  · rw [h0] at hgo
    exact hgo
  · have hp : 0 < 65536 ^ j := Nat.pow_pos (by decide)
    have hc := carry_le x y (65536 ^ j) hp
    have hd := add_digit x y (65536 ^ j) hp
    have hcc := add_carry x y (65536 ^ j) hp
    rw [← Nat.pow_succ] at hcc
    refine s85_2 t u l m _ _ _ (by rw [en, Int.toNat_natCast]; omega) (by omega) (by simp [lim_length]; omega) ?_
    rw [limbI_of, limbI_of, hx, hy, Int.toNat_natCast]
    simp only [Nat.add_zero]
    generalize hA : x / 65536 ^ j % 65536 = A at *
    generalize hB : y / 65536 ^ j % 65536 = B at *
    have hA' : A < 65536 := by rw [← hA]; exact Nat.mod_lt _ (by omega)
    have hB' : B < 65536 := by rw [← hB]; exact Nat.mod_lt _ (by omega)
    generalize (x % 65536 ^ j + y % 65536 ^ j) / 65536 ^ j = c at *
    have es : IntKind.wrap .u64 (IntKind.wrap .u64 ((A : Int) + (B : Int)) + (c : Int)) = ((A + B + c : Nat) : Int) := by
      rw [wU, wU]; omega
    have ed : IntKind.wrap .u64 (Int.tdiv ((A + B + c : Nat) : Int) 65536) = (((A + B + c) / 65536 : Nat) : Int) := by
      rw [show Int.tdiv ((A + B + c : Nat) : Int) 65536 = (((A + B + c) / 65536 : Nat) : Int) from rfl, wU]; omega
    rw [es, ed, i64s j (by omega), show Int.tmod ((A + B + c : Nat) : Int) 65536 = (((A + B + c) % 65536 : Nat) : Int) from rfl, ← hd, ← hcc, fill_set _ _ _ (lim_length _ _) hj, ← lim_succ]
    exact hg
  · have : lim K (x + y) ++ List.replicate (K - K) 0 = lim K (x + y) := by simp
    rw [this]
    have h3 := s85_3 (ρ := ρ) (w := w) t u l m (((x % 65536 ^ K + y % 65536 ^ K) / 65536 ^ K : Nat) : Int) (K : Nat) (lim K (x + y)) (by rw [en, Int.toNat_natCast]; omega)
    rw [en, Int.toNat_natCast] at h3
    exact h3
def rowsOk2 (l m : List Int) (n k : Nat) : List Bool := [Nat.beq l.length n, Nat.beq m.length k, limOk l, limOk m, Nat.ble l.length 1000000000, Nat.ble m.length 1000000000]
def e85 : Entry := fun args ms => match args, ms with
  | [.c (.sl 0 0 n), .c (.sl 1 0 k)], [⟨_, .ro, .ints .u64 l⟩, ⟨_, .ro, .ints .u64 m⟩] => some (⟨.w (.c (.own 2)), [], [⟨22, .own (maxN n k + 1), .ints .u64 (lim (maxN n k + 1) (valL l + valL m))⟩]⟩, rowsOk2 l m n k)
  | _, _ => none
theorem rowsOk2_ok {l m : List Int} {n k : Nat} (h : ∀ b ∈ rowsOk2 l m n k, b = true) : l.length = n ∧ m.length = k ∧ limOk l = true ∧ limOk m = true ∧ l.length ≤ 1000000000 ∧ m.length ≤ 1000000000 := by
  simp only [rowsOk2, List.mem_cons, List.not_mem_nil, or_false, forall_eq_or_imp, forall_eq, Nat.beq_eq, Nat.ble_eq] at h
  exact h
theorem e85_ok : EntryOk Try.prog 85 e85 := by
  intro args ms r obs h ho
  unfold e85 at h
  split at h
  · rename_i n k t l u m
    cases h
    obtain ⟨rfl, rfl, h1, h2, h3, h4⟩ := rowsOk2_ok ho
    exact s85n t u l m h1 h2 h3 h4
  · cases h

/-- differences. -/
def subN (k x y : Nat) : Nat := x + 65536 ^ k - y % 65536 ^ k
theorem s221n (t u : Nat) (l m : List Int) (hl : limOk l = true) (hm : limOk m = true) (hll : l.length ≤ 1000000000) :
    Sx.Spec Try.prog 221 [.c (.sl 0 0 l.length), .c (.sl 1 0 m.length)] [⟨t, .ro, .ints .u64 l⟩, ⟨u, .ro, .ints .u64 m⟩] ⟨.w (.c (.own 2)), [], [⟨22, .own l.length, .ints .u64 (lim l.length (subN l.length (valL l) (valL m)))⟩]⟩ := by
  refine spec_body (tab := tab libg0) Try.func221 (by kernel_rfl) (by kernel_rfl) (by kernel_rfl) fun ρ w => ?_
  generalize hK : l.length = K at *
  have st : ∀ {c : Cfg} {r : Res}, l.length = K → True := fun _ => trivial
  refine (show G _ _ → _ from fun h => ?_) (?_ : G (mkX Try.prog (tab libg0) Try.f221 [⟨t, .ro, .ints .u64 l⟩, ⟨u, .ro, .ints .u64 m⟩] ρ w ⟨.w (.c (.own 2)), [], [⟨22, .own K, .ints .u64 (lim K (subN K (valL l) (valL m)))⟩]⟩) (s221st0 t u l m 0 0 (List.replicate K 0)))
  · rw [← hK]
    rw [← hK] at h
    exact s221_1 t u l m (by omega) (by omega) h
  have hx := valL_get hl
  have hy := valL_get hm
  generalize hX : valL l = x at *
  generalize hY : valL m = y at *
  have h0 : (0 : Int) = ((bor x y (65536 ^ 0) : Nat) : Int) := by
    unfold bor
    rw [Nat.pow_zero, Nat.mod_one, Nat.mod_one]
    rfl
  have := G.loop (X := mkX Try.prog (tab libg0) Try.f221 [⟨t, .ro, .ints .u64 l⟩, ⟨u, .ro, .ints .u64 m⟩] ρ w ⟨.w (.c (.own 2)), [], [⟨22, .own K, .ints .u64 (lim K (subN K x y))⟩]⟩) (fun j => s221st0 t u l m ((bor x y (65536 ^ j) : Nat) : Int) (j : Nat) (lim j (subN K x y) ++ List.replicate (K - j) 0)) K (fun j hj hg => ?_) ?_
  · rw [← h0] at this
    exact this
  · have hp : 0 < 65536 ^ j := Nat.pow_pos (by decide)
    have eK : (65536 : Nat) ^ K = 65536 ^ j * 65536 * 65536 ^ (K - j - 1) := by
      rw [← Nat.pow_succ, ← Nat.pow_add]
      congr 1
      omega
    have hd := sub_digit x y (65536 ^ (K - j - 1)) (65536 ^ j) hp (by rw [← eK]; have := Nat.mod_lt y (Nat.pow_pos (n := K) (show 0 < 65536 by decide)); omega)
    have hb := sub_borrow x y (65536 ^ j) hp
    rw [← eK] at hd
    rw [← Nat.pow_succ] at hb
    have hb1 : bor x y (65536 ^ j) ≤ 1 := by unfold bor; split <;> omega
    refine s221_2 t u l m _ _ _ (by rw [hK]; omega) (by omega) (by rw [hK]; omega) (by simp [lim_length]; omega) ?_
    rw [limbI_of, limbI_of, hx, hy, Int.toNat_natCast]
    simp only [Nat.add_zero]
    generalize hA : x / 65536 ^ j % 65536 = A at *
    generalize hB : y / 65536 ^ j % 65536 = B at *
    have hA' : A < 65536 := by rw [← hA]; exact Nat.mod_lt _ (by omega)
    have hB' : B < 65536 := by rw [← hB]; exact Nat.mod_lt _ (by omega)
    generalize bor x y (65536 ^ j) = c at *
    have es : IntKind.wrap .u64 (IntKind.wrap .u64 (IntKind.wrap .u64 (65536 + (A : Int)) - (B : Int)) - (c : Int)) = ((65536 + A - B - c : Nat) : Int) := by
      rw [wU, wU, wU]; omega
    have ed : IntKind.wrap .u64 (1 - IntKind.wrap .u64 (Int.tdiv ((65536 + A - B - c : Nat) : Int) 65536)) = ((1 - (65536 + A - B - c) / 65536 : Nat) : Int) := by
      rw [show Int.tdiv ((65536 + A - B - c : Nat) : Int) 65536 = (((65536 + A - B - c) / 65536 : Nat) : Int) from rfl, wU, wU]; omega
    rw [es, ed, i64s j (by omega), show Int.tmod ((65536 + A - B - c : Nat) : Int) 65536 = (((65536 + A - B - c) % 65536 : Nat) : Int) from rfl, ← hd, ← hb, fill_set _ _ _ (lim_length _ _) hj]
    rw [show x + 65536 ^ K - y % 65536 ^ K = subN K x y from rfl, ← lim_succ]
    exact hg
  · have : lim K (subN K x y) ++ List.replicate (K - K) 0 = lim K (subN K x y) := by simp
    rw [this]
    have h3 := s221_3 (ρ := ρ) (w := w) t u l m ((bor x y (65536 ^ K) : Nat) : Int) (K : Nat) (lim K (subN K x y)) (by rw [hK]; omega)
    rw [hK] at h3
    exact h3
def e221 : Entry := fun args ms => match args, ms with
  | [.c (.sl 0 0 n), .c (.sl 1 0 k)], [⟨_, .ro, .ints .u64 l⟩, ⟨_, .ro, .ints .u64 m⟩] => some (⟨.w (.c (.own 2)), [], [⟨22, .own n, .ints .u64 (lim n (subN n (valL l) (valL m)))⟩]⟩, rowsOk2 l m n k)
  | _, _ => none
theorem e221_ok : EntryOk Try.prog 221 e221 := by
  intro args ms r obs h ho
  unfold e221 at h
  split at h
  · rename_i n k t l u m
    cases h
    obtain ⟨rfl, rfl, h1, h2, h3, h4⟩ := rowsOk2_ok ho
    exact s221n t u l m h1 h2 h3
  · cases h

/-- order. -/
theorem s88n (t u : Nat) (l m : List Int) (hl : limOk l = true) (hm : limOk m = true) (hll : l.length ≤ 1000000000) (hml : m.length ≤ 1000000000) :
    Sx.Spec Try.prog 88 [.c (.sl 0 0 l.length), .c (.sl 1 0 m.length)] [⟨t, .ro, .ints .u64 l⟩, ⟨u, .ro, .ints .u64 m⟩] ⟨V.bool (Nat.blt (valL l) (valL m)), [], []⟩ := by
  refine spec_body (tab := tab libg0) Try.func88 (by kernel_rfl) (by kernel_rfl) (by kernel_rfl) fun ρ w => ?_
  refine s88_1 t u l m ?_
  rw [max_len]
  have hk : maxN l.length m.length ≤ 1000000000 := by unfold maxN; omega
  have hxl := valL_lt hl
  have hyl := valL_lt hm
  have hx := valL_get hl
  have hy := valL_get hm
  have hxk : valL l < 65536 ^ maxN l.length m.length := Nat.lt_of_lt_of_le hxl (Nat.pow_le_pow_right (by decide) (by unfold maxN; omega))
  have hyk : valL m < 65536 ^ maxN l.length m.length := Nat.lt_of_lt_of_le hyl (Nat.pow_le_pow_right (by decide) (by unfold maxN; omega))
  generalize maxN l.length m.length = K at *
  generalize hX : valL l = x at *
  generalize hY : valL m = y at *
  have key : ∀ n : Nat, n ≤ 1000000000 → x / 65536 ^ n = y / 65536 ^ n → G (mkX Try.prog (tab libg0) Try.f88 [⟨t, .ro, .ints .u64 l⟩, ⟨u, .ro, .ints .u64 m⟩] ρ w ⟨V.bool (Nat.blt x y), [], []⟩) (s88st0 t u l m ((n : Int) - 1)) := by
    intro n
    induction n with
    | zero =>
      intro _ he
      rw [Nat.pow_zero, Nat.div_one, Nat.div_one] at he
      have : Nat.blt x y = false := blt_f (by omega)
      rw [this]
      exact s88_4 t u l m _ (by omega)
    | succ n ih =>
      intro hn he
      rw [Nat.pow_succ] at he
      have hp : 0 < 65536 ^ n := Nat.pow_pos (by decide)
      rw [show ((n + 1 : Nat) : Int) - 1 = (n : Int) by omega]
      by_cases hd : x / 65536 ^ n % 65536 = y / 65536 ^ n % 65536
      · refine s88_3 t u l m _ (by omega) (by rw [limbI_of, limbI_of, hx, hy, hd]) ?_
        rw [show IntKind.wrap .i64 ((n : Int) - 1) = (n : Int) - 1 by rw [i64w] <;> omega]
        exact ih (by omega) (eq_digit he hd)
      · have h2 := s88_2 (ρ := ρ) (w := w) t u l m (n : Nat) (by omega) (by rw [limbI_of, limbI_of, hx, hy]; omega)
        rw [limbI_of, limbI_of, hx, hy] at h2
        have e : decide (((x / 65536 ^ n % 65536 : Nat) : Int) < ((y / 65536 ^ n % 65536 : Nat) : Int)) = Nat.blt x y := by
          have hlt := lt_digit hp he hd
          by_cases hxy : x < y
          · rw [Nat.blt_eq.mpr hxy]
            rw [hlt] at hxy
            exact decide_eq_true (by omega)
          · rw [blt_f hxy]
            rw [hlt] at hxy
            exact decide_eq_false (by omega)
        rw [e] at h2
        exact h2
  have ew : IntKind.wrap .i64 ((K : Int) - 1) = (K : Int) - 1 := by rw [i64w] <;> omega
  rw [ew]
  exact key K hk (by rw [Nat.div_eq_of_lt hxk, Nat.div_eq_of_lt hyk])
def e88 : Entry := fun args ms => match args, ms with
  | [.c (.sl 0 0 n), .c (.sl 1 0 k)], [⟨_, .ro, .ints .u64 l⟩, ⟨_, .ro, .ints .u64 m⟩] => some (⟨V.bool (Nat.blt (valL l) (valL m)), [], []⟩, rowsOk2 l m n k)
  | _, _ => none
theorem e88_ok : EntryOk Try.prog 88 e88 := by
  intro args ms r obs h ho
  unfold e88 at h
  split at h
  · rename_i n k t l u m
    cases h
    obtain ⟨rfl, rfl, h1, h2, h3, h4⟩ := rowsOk2_ok ho
    exact s88n t u l m h1 h2 h3 h4
  · cases h

/-- products. -/
theorem s90n (t u : Nat) (l m : List Int) (hl : limOk l = true) (hm : limOk m = true) (hll : l.length ≤ 1000000000) (hml : m.length ≤ 1000000000) :
    Sx.Spec Try.prog 90 [.c (.sl 0 0 l.length), .c (.sl 1 0 m.length)] [⟨t, .ro, .ints .u64 l⟩, ⟨u, .ro, .ints .u64 m⟩] ⟨.w (.c (.own 2)), [], [⟨22, .own (l.length + m.length), .ints .u64 (lim (l.length + m.length) (valL l * valL m))⟩]⟩ := by
  refine spec_body (tab := tab libn) Try.func90 (by kernel_rfl) (by kernel_rfl) (by kernel_rfl) fun ρ w => ?_
  have en : IntKind.wrap .i64 ((l.length : Int) + (m.length : Int)) = ((l.length + m.length : Nat) : Int) := by rw [i64w] <;> omega
  refine s90_1 t u l m (by rw [en]; omega) (by omega) (by rw [en]; omega) ?_
  rw [en, Int.toNat_natCast]
  have inner : ∀ (i : Nat), i < l.length → (∀ row o, LInv l m i m.length row o → G (mkX Try.prog (tab libn) Try.f90 [⟨t, .ro, .ints .u64 l⟩, ⟨u, .ro, .ints .u64 m⟩] ρ w ⟨.w (.c (.own 2)), [], [⟨22, .own (l.length + m.length), .ints .u64 (lim (l.length + m.length) (valL l * valL m))⟩]⟩) (s90st1 t u l m o (m.length : Nat) row i)) →
      ∀ (n k : Nat) (row : List Int) (o : Int), k + n = m.length → LInv l m i k row o → G (mkX Try.prog (tab libn) Try.f90 [⟨t, .ro, .ints .u64 l⟩, ⟨u, .ro, .ints .u64 m⟩] ρ w ⟨.w (.c (.own 2)), [], [⟨22, .own (l.length + m.length), .ints .u64 (lim (l.length + m.length) (valL l * valL m))⟩]⟩) (s90st1 t u l m o (k : Nat) row (i : Nat)) := by
    intro i hi fin n
    induction n with
    | zero =>
      intro k row o hk hI
      have : k = m.length := by omega
      subst this
      exact fin row o hI
    | succ n ih =>
      intro k row o hk hI
      have e1 : IntKind.wrap .i64 ((i : Int) + (k : Int)) = ((i + k : Nat) : Int) := by rw [i64w] <;> omega
      have e2 : IntKind.wrap .i64 ((k : Int) + 1) = ((k + 1 : Nat) : Int) := i64s k (by omega)
      refine s90_4 t u l m o (k : Nat) row (i : Nat) (by omega) (by rw [e1]; omega) (by rw [e1, en, Int.toNat_natCast]; omega) (by rw [e1, hI.len]; omega) (by omega) (by omega) (by omega) (by omega) (by omega) (by rw [e1, hI.len]; omega) ?_
      rw [e1, e2]
      simp only [Int.toNat_natCast, Nat.add_zero]
      have r1 := hI.rng (i + k)
      have r2 := limOk_get hl i
      have r3 := limOk_get hm k
      have r4 := hI.o0
      have r5 := hI.o1
      obtain ⟨x, hx⟩ := nat_of r1.1
      obtain ⟨a, ha⟩ := nat_of r2.1
      obtain ⟨b, hb⟩ := nat_of r3.1
      obtain ⟨c, rfl⟩ := nat_of r4
      have hab : a * b ≤ 65535 * 65535 := Nat.mul_le_mul (by omega) (by omega)
      have es : IntKind.wrap .u64 (IntKind.wrap .u64 (row.getD (i + k) 0 + IntKind.wrap .u64 (l.getD i 0 * m.getD k 0)) + (c : Int)) = ((x + a * b + c : Nat) : Int) := by
        rw [hx, ha, hb, ← Int.natCast_mul]
        generalize a * b = p at *
        rw [wU, wU, wU]; omega
      have hlt : x + a * b + c < 4294967296 := by omega
      rw [es]
      have ed : IntKind.wrap .u64 (Int.tdiv ((x + a * b + c : Nat) : Int) 65536) = (((x + a * b + c) / 65536 : Nat) : Int) := by
        rw [show Int.tdiv ((x + a * b + c : Nat) : Int) 65536 = (((x + a * b + c) / 65536 : Nat) : Int) from rfl, wU]
        generalize x + a * b + c = p at *
        omega
      rw [ed, show Int.tmod ((x + a * b + c : Nat) : Int) 65536 = (((x + a * b + c) % 65536 : Nat) : Int) from rfl]
      refine ih (k + 1) _ _ (by omega) (hI.turn hi (by omega) ⟨?_, ?_⟩ ⟨?_, ?_⟩ ?_)
      · omega
      · omega
      · omega
      · generalize x + a * b + c = p at *
        omega
      · rw [hx, ha, hb, ← Int.natCast_mul]
        generalize a * b = p at *
        omega
  have outer : ∀ (n i : Nat) (row : List Int), i + n = l.length → row.length = l.length + m.length → (∀ j, 0 ≤ row.getD j 0 ∧ row.getD j 0 < 65536) → (∀ j, i + m.length ≤ j → row.getD j 0 = 0) → valI row = valI (l.take i) * valI m →
      G (mkX Try.prog (tab libn) Try.f90 [⟨t, .ro, .ints .u64 l⟩, ⟨u, .ro, .ints .u64 m⟩] ρ w ⟨.w (.c (.own 2)), [], [⟨22, .own (l.length + m.length), .ints .u64 (lim (l.length + m.length) (valL l * valL m))⟩]⟩) (s90st0 t u l m (i : Nat) row) := by
    intro n
    induction n with
    | zero =>
      intro i row hi hlen hrng _ hval
      have : i = l.length := by omega
      subst this
      have hrow : limOk row = true := by
        unfold limOk
        rw [List.all_eq_true]
        intro a ha
        obtain ⟨i, hi, rfl⟩ := List.getElem_of_mem ha
        have := hrng i
        rw [List.getD_eq_getElem?_getD, List.getElem?_eq_getElem hi] at this
        simp only [Option.getD_some] at this
        rw [Bool.and_eq_true, decide_eq_true_eq, decide_eq_true_eq]
        exact this
      rw [List.take_length, valI_nat hl, valI_nat hm, valI_nat hrow] at hval
      have hv : valL row = valL l * valL m := by
        have : ((valL row : Nat) : Int) = ((valL l * valL m : Nat) : Int) := by rw [hval, Int.natCast_mul]
        omega
      have h3 := s90_3 (ρ := ρ) (w := w) t u l m (l.length : Nat) row (by omega)
      rw [en, Int.toNat_natCast] at h3
      rw [← hv, ← hlen, ← lim_valL hrow, hlen]
      exact h3
    | succ n ih =>
      intro i row hi hlen hrng hzer hval
      refine s90_2 t u l m (i : Nat) row (by omega) ?_
      refine inner i (by omega) (fun row o hI => ?_) m.length 0 row 0 (by omega) ⟨hlen, hrng, hzer, by omega, by omega, ?_⟩
      · have e1 : IntKind.wrap .i64 ((i : Int) + (m.length : Int)) = ((i + m.length : Nat) : Int) := by rw [i64w] <;> omega
        have e2 : IntKind.wrap .i64 ((i : Int) + 1) = ((i + 1 : Nat) : Int) := i64s i (by omega)
        refine s90_5 t u l m o (m.length : Nat) row (i : Nat) (by omega) (by rw [e1]; omega) (by rw [e1, en, Int.toNat_natCast]; omega) (by rw [e1, hI.len]; omega) ?_
        rw [e1, e2]
        simp only [Int.toNat_natCast, Nat.add_zero]
        refine ih (i + 1) _ (by omega) (by simp [hI.len]) (fun j => ?_) (fun j hj => ?_) ?_
        · rw [getD_set _ _ _ _ (by rw [hI.len]; omega)]
          split
          · exact ⟨hI.o0, hI.o1⟩
          · exact hI.rng j
        · rw [getD_set _ _ _ _ (by rw [hI.len]; omega), if_neg (by omega)]
          exact hI.zer j (by omega)
        · have hv := hI.val
          have hz := hI.zer (i + m.length) (by omega)
          rw [List.take_length] at hv
          rw [valI_set _ _ _ (by rw [hI.len]; omega), hz, Int.sub_zero, hv, valI_take_succ l i (by omega)]
          grind
      · rw [List.take_zero]
        simp only [valI, Int.mul_zero, Int.zero_mul, Int.add_zero]
        exact hval
  refine outer l.length 0 _ (by omega) (by simp) (fun j => ?_) (fun j _ => ?_) ?_
  · have : (List.replicate (l.length + m.length) (0 : Int)).getD j 0 = 0 := by
      rw [List.getD_eq_getElem?_getD, List.getElem?_replicate]; split <;> rfl
    rw [this]; exact ⟨by decide, by decide⟩
  · rw [List.getD_eq_getElem?_getD, List.getElem?_replicate]; split <;> rfl
  · have : ∀ k, valI (List.replicate k 0) = 0 := by
      intro k
      induction k with
      | zero => rfl
      | succ k ih => rw [List.replicate_succ]; simp [valI, ih]
    rw [this, List.take_zero]
    simp [valI]
def e90 : Entry := fun args ms => match args, ms with
  | [.c (.sl 0 0 n), .c (.sl 1 0 k)], [⟨_, .ro, .ints .u64 l⟩, ⟨_, .ro, .ints .u64 m⟩] => some (⟨.w (.c (.own 2)), [], [⟨22, .own (n + k), .ints .u64 (lim (n + k) (valL l * valL m))⟩]⟩, rowsOk2 l m n k)
  | _, _ => none
theorem e90_ok : EntryOk Try.prog 90 e90 := by
  intro args ms r obs h ho
  unfold e90 at h
  split at h
  · rename_i n k t l u m
    cases h
    obtain ⟨rfl, rfl, h1, h2, h3, h4⟩ := rowsOk2_ok ho
    exact s90n t u l m h1 h2 h3 h4
  · cases h

/-- from limbs to words. -/
def toN (l : List Int) (i : Int) : Nat := valL l / 65536 ^ i.toNat
theorem s86n (t : Nat) (l : List Int) (i : Nat) (hl : limOk l = true) (hi : i ≤ 1000000000) :
    Sx.Spec Try.prog 86 [.c (.sl 0 0 l.length), W.int .i64 (i : Nat)] [⟨t, .ro, .ints .u64 l⟩] ⟨.w (.agg (numC (valL l / 65536 ^ i))), [], []⟩ := by
  refine spec_body (tab := tab libg0) Try.func86 (by kernel_rfl) (by kernel_rfl) (by kernel_rfl) fun ρ w => ?_
  refine s86_1 t l (i : Nat) ?_
  have hx := valL_get hl
  generalize hX : valL l = x at *
  generalize hV : x / 65536 ^ i = v
  have hdig : ∀ j, l.getD (i + j) 0 = ((v / 65536 ^ j % 65536 : Nat) : Int) := by
    intro j
    rw [hx, Nat.pow_add, ← Nat.div_div_eq_div_mul, hV]
  have hz : wrow (v % 65536 ^ 0) = [0, 0, 0, 0] := by
    rw [Nat.pow_zero, Nat.mod_one]
    decide
  rw [← hz]
  refine G.loop (fun j => s86st0 t l (i : Nat) (j : Nat) (wrow (v % 65536 ^ j))) 16 (fun j hj hg => ?_) ?_
  · have e1 : IntKind.wrap .i64 (Int.tdiv (j : Int) 4) = ((j / 4 : Nat) : Int) := by
      rw [Int.tdiv_eq_ediv_of_nonneg (by omega), i64w] <;> omega
    have e2 : IntKind.wrap .i64 (16 * Int.tmod (j : Int) 4) = ((16 * (j % 4) : Nat) : Int) := by
      rw [Int.tmod_eq_emod_of_nonneg (by omega), i64w] <;> omega
    have e3 : IntKind.wrap .i64 ((i : Int) + (j : Int)) = ((i + j : Nat) : Int) := by rw [i64w] <;> omega
    have hlen : (wrow (v % 65536 ^ j)).length = 4 := rfl
    refine s86_2 t l (i : Nat) _ _ (by omega) (by rw [e1]; omega) (by rw [e1]; omega) (by rw [e1, hlen]; omega) (by rw [e2]; omega) (by rw [e1, hlen]; omega) ?_
    rw [e1, e2, e3, limbI_of, hdig, i64s j (by omega)]
    simp only [Int.toNat_natCast, Nat.add_zero]
    rw [wrow_get _ _ (by omega)]
    have hb : v / 65536 ^ j % 65536 < 65536 := Nat.mod_lt _ (by omega)
    have hsucc : v % 65536 ^ (j + 1) = v % 65536 ^ j + (v / 65536 ^ j % 65536) * 65536 ^ j := by
      rw [Nat.pow_succ, Nat.mod_mul, Nat.mul_comm (65536 ^ j)]
    have hVj : v % 65536 ^ j < 65536 ^ j := Nat.mod_lt _ (Nat.pow_pos (by decide))
    generalize v / 65536 ^ j % 65536 = b at *
    have ep : (65536 : Nat) ^ j = 65536 ^ (j % 4) * 18446744073709551616 ^ (j / 4) := by
      rw [show (18446744073709551616 : Nat) = 65536 ^ 4 from by decide, ← Nat.pow_mul, ← Nat.pow_add, show j % 4 + 4 * (j / 4) = j by omega]
    have hp : 65536 * 65536 ^ (j % 4) ≤ 18446744073709551616 := by
      rw [← Nat.pow_succ', show (18446744073709551616 : Nat) = 65536 ^ 4 from by decide]
      exact Nat.pow_le_pow_right (by decide) (by omega)
    have hbp : b * 65536 ^ (j % 4) + 65536 ^ (j % 4) ≤ 18446744073709551616 := by
      have : (b + 1) * 65536 ^ (j % 4) ≤ 65536 * 65536 ^ (j % 4) := Nat.mul_le_mul_right _ hb
      rw [Nat.add_mul, Nat.one_mul] at this
      omega
    rw [ep] at hVj
    have hd : v % 65536 ^ j / 18446744073709551616 ^ (j / 4) < 65536 ^ (j % 4) := Nat.div_lt_of_lt_mul (by rw [Nat.mul_comm, ep]; exact hVj)
    have ew : wd (v % 65536 ^ j) (j / 4) = ((v % 65536 ^ j / 18446744073709551616 ^ (j / 4) : Nat) : Int) := by
      unfold wd
      rw [Nat.mod_eq_of_lt (b := 18446744073709551616) (by omega)]
    have eor := or_low un64 (v % 65536 ^ j / 18446744073709551616 ^ (j / 4)) b (2 * (j % 4)) (by rw [Nat.pow_mul]; exact hd) (by rw [Nat.pow_mul, bits64, show (2 : Nat) ^ 64 = 18446744073709551616 from rfl]; show _ + b * 65536 ^ (j % 4) < 18446744073709551616; omega)
    rw [show 8 * (2 * (j % 4)) = 16 * (j % 4) by omega, show (256 : Nat) ^ (2 * (j % 4)) = 65536 ^ (j % 4) from by rw [Nat.pow_mul]] at eor
    rw [ew, eor]
    have ht := of_turn (V := v % 65536 ^ j) (c := b * 65536 ^ (j % 4)) (p := 65536 ^ (j % 4)) (q := j / 4) (by omega) (by rw [Nat.mul_comm, ep]; exact hVj) hbp
    rw [ht, Nat.mul_assoc, ← ep, ← hsucc]
    exact hg
  · refine G.resv (fun ρ y => ?_) (s86_3 t l (i : Nat) 16 (wrow (v % 65536 ^ 16)) (by decide) (by simp [wrow]) (by simp [wrow]) (by simp [wrow]) (by simp [wrow]) (by simp) (by simp) (by simp) (by simp) (by simp))
    refine rv_w fun h => ?_
    have hc := rw_numI.1 h
    rw [show (65536 : Nat) ^ 16 = 115792089237316195423570985008687907853269984665640564039457584007913129639936 from rfl, ← d4_num] at hc
    refine rw4 (fun y h => ?_) (fun y h => ?_) (fun y h => ?_) (fun y h => ?_) hc
    all_goals
      show y = _
      rw [show y = _ from h]
      congr 2
      unfold d4 num4
      omega
def e86 : Entry := fun args ms => match args, ms with
  | [.c (.sl 0 0 n), .c (.v (.int .i64 i))], [⟨_, .ro, .ints .u64 l⟩] => some (⟨.w (.agg (numC (toN l i))), [], []⟩, [Nat.beq l.length n, limOk l, decide (0 ≤ i), decide (i ≤ 1000000000)])
  | _, _ => none
theorem e86_ok : EntryOk Try.prog 86 e86 := by
  intro args ms r obs h ho
  unfold e86 at h
  split at h
  · rename_i n i t l
    cases h
    simp only [List.mem_cons, List.not_mem_nil, or_false, forall_eq_or_imp, forall_eq, Nat.beq_eq, decide_eq_true_eq] at ho
    obtain ⟨rfl, h1, h2, h3⟩ := ho
    obtain ⟨k, rfl⟩ := nat_of h2
    exact s86n t l k h1 (by omega)
  · cases h

/-- bits. -/
def bitL (l : List Int) (i : Int) : Nat := valL l / 2 ^ i.toNat % 2
theorem s98n (t : Nat) (l : List Int) (i : Nat) (hl : limOk l = true) (hi : i ≤ 16000000000) :
    Sx.Spec Try.prog 98 [.c (.sl 0 0 l.length), W.int .i64 (i : Nat)] [⟨t, .ro, .ints .u64 l⟩] ⟨.w (.c (.v (.int .u64 ((bitL l (i : Nat) : Nat) : Int)))), [], []⟩ := by
  have e1 : IntKind.wrap .i64 (Int.tdiv (i : Int) 16) = ((i / 16 : Nat) : Int) := by
    rw [Int.tdiv_eq_ediv_of_nonneg (by omega), i64w] <;> omega
  have e2 : Int.tmod (i : Int) 16 = ((i % 16 : Nat) : Int) := rfl
  have hs := s98_1 t l (i : Nat) (by rw [e2]; omega)
  rw [e1, e2, limbI_of, valL_get hl, Int.toNat_natCast, show min (i % 16) 64 = i % 16 by omega] at hs
  have ef : ((valL l / 65536 ^ (i / 16) % 65536 : Nat) : Int).fdiv (2 ^ (i % 16)) = ((valL l / 65536 ^ (i / 16) % 65536 / 2 ^ (i % 16) : Nat) : Int) := by
    rw [Int.fdiv_eq_ediv_of_nonneg _ (by exact_mod_cast Nat.zero_le _)]
    simp
  rw [ef, show Int.tmod ((valL l / 65536 ^ (i / 16) % 65536 / 2 ^ (i % 16) : Nat) : Int) 2 = ((valL l / 65536 ^ (i / 16) % 65536 / 2 ^ (i % 16) % 2 : Nat) : Int) from rfl] at hs
  unfold bitL
  rw [Int.toNat_natCast]
  have ep : (65536 : Nat) ^ (i / 16) = 2 ^ (16 * (i / 16)) := by rw [Nat.pow_mul]
  have e : (65536 : Nat) = 2 ^ (i % 16) * (2 * 2 ^ (15 - i % 16)) := by
    rw [← Nat.mul_assoc, ← Nat.pow_succ, ← Nat.pow_add, show (i % 16).succ + (15 - i % 16) = 16 by omega]
  rw [ep] at hs
  have e5 : valL l / 2 ^ (16 * (i / 16)) % 65536 / 2 ^ (i % 16) % 2 = valL l / 2 ^ i % 2 := by
    conv => lhs; rw [e]
    rw [Nat.mod_mul_right_div_self, Nat.mod_mul_right_mod, Nat.div_div_eq_div_mul, ← Nat.pow_add, show 16 * (i / 16) + i % 16 = i by omega]
  rw [e5] at hs
  exact hs
def e98 : Entry := fun args ms => match args, ms with
  | [.c (.sl 0 0 n), .c (.v (.int .i64 i))], [⟨_, .ro, .ints .u64 l⟩] => some (⟨.w (.c (.v (.int .u64 ((bitL l i : Nat) : Int)))), [], []⟩, [Nat.beq l.length n, limOk l, decide (0 ≤ i), decide (i ≤ 16000000000)])
  | _, _ => none
theorem e98_ok : EntryOk Try.prog 98 e98 := by
  intro args ms r obs h ho
  unfold e98 at h
  split at h
  · rename_i n i t l
    cases h
    simp only [List.mem_cons, List.not_mem_nil, or_false, forall_eq_or_imp, forall_eq, Nat.beq_eq, decide_eq_true_eq] at ho
    obtain ⟨rfl, h1, h2, h3⟩ := ho
    obtain ⟨k, rfl⟩ := nat_of h2
    exact s98n t l k h1 (by omega)
  · cases h
end Go.Proofs.Ytmjejlbmcefaoaa
